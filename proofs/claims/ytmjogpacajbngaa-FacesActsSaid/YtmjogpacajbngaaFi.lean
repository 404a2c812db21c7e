/- Define. No condition but those written. -/
import Derived.Test.YtmjogpacajbngaaFh
namespace Go.Proofs.Ytmjogpacajbngaa
open Go.RowKit

/-- The error of Define; xs is the chain of the parent. -/
def defErr (D : Fm) (n : ByteArray) (a : Att) (xs : List ByteArray) : Int :=
  if validF n = false then 17 else if withinB a = false then 3 else if a.inh = ⟨#[]⟩ then (if look D n = none ∧ 256 ≤ D.length then 7 else 0)
  else if validF a.inh = false then 17 else if look D a.inh = none then 8 else if (xs.any fun y => y == n) = true then 16 else if look D n = none ∧ 256 ≤ D.length then 7 else 0
def defD (D : Fm) (n : ByteArray) (a : Att) (xs : List ByteArray) : Fm := if defErr D n a xs = 0 then putF D n a else D
theorem defD_no {D : Fm} {n : ByteArray} {a : Att} {xs : List ByteArray} {k : Int} (h : defErr D n a xs = k) (hk : k ≠ 0) : defD D n a xs = D := by
  unfold defD
  rw [h, if_neg hk]
theorem defD_yes {D : Fm} {n : ByteArray} {a : Att} {xs : List ByteArray} (h : defErr D n a xs = 0) : defD D n a xs = putF D n a := by
  unfold defD
  rw [if_pos h]
theorem validT {s : ByteArray} {b : Bool} (h : validF s = b) (hs : s.size < 9223372036854775807) (w : World) : Calls Try.prog 40 #[.string s] w fun e w' => e = .returned (.bool b) ∧ w = w' := h ▸ valid_any s w hs
theorem withinT {a : Att} {b : Bool} (h : withinB a = b) (w : World) : Calls Try.prog 41 #[a.val] w fun e w' => e = .returned (.bool b) ∧ Below w.heap.size w w' := h ▸ within_any a w
theorem inheritsT {w : World} {fb mb : Nat} {D : Fm} (h : FaIn w fb mb D) {name want : ByteArray} {xs : List ByteArray} (hx : Chain D name xs) {b : Bool} (hb : (xs.any fun y => y == want) = b) : Calls Try.prog 42 #[.pointer (some ⟨fb, 0, none⟩), .string name, .string want] w fun e w' => e = .returned (.bool b) ∧ Below w.heap.size w w' := hb ▸ inherits_any h name want xs hx
theorem empty_is {t : ByteArray} (h : t = ⟨#[]⟩) : t.toList.isEmpty = true := by subst h; rw [ByteArray.toList_eq]; rfl

theorem boxA {W w w' : World} {fb mb g : Nat} {D : Fm} {R : Heap} {a : Att} (h : Own W w ((g, .cells 23 a.cells.toArray) :: (fb, .cells 60 #[.map (some mb)]) :: (mb, .map (facePairs D)) :: R)) (hb : Below w.heap.size w w') : AttAt w' g a ∧ FaAt W w' fb mb D R ∧ w'.cell? ⟨fb, 0, none⟩ = some (.map (some mb)) := by
  have h2 := h.below hb
  have h3 : FaAt W w' fb mb D R := Own.tail h2
  exact ⟨Blk.att (Own.blk h2 (List.mem_cons_self ..)), h3, by rw [h3.fin.m.cell]; rfl⟩
theorem three_below (w : World) (o1 o2 o3 : Obj) : Below (w.alloc o1).heap.size (w.alloc o1) ((((w.alloc o1).alloc o2).alloc o3).drew) := (((Below.refl _ (w.alloc o1)).alloc (Nat.le_refl _) _).alloc (by simp) _).drew
theorem update_at {W w : World} {fb mb : Nat} {D : Fm} {R : Heap} (h : FaAt W w fb mb D R) (n : ByteArray) (a : Att) : ∃ w', (Instr.mapUpdate 58 (.map (some mb)) (.string n) a.val).run Try.prog w = .ok () w' ∧ FaAt W w' fb mb (putF D n a) R := by
  obtain ⟨w', hr, h1, h2⟩ := h.fin.d.update (P := Try.prog) (face_keys D) Try.underlying58 Try.underlying9 (.str n) a.val
  exact ⟨w', hr, h.store h1 h2⟩
set_option maxRecDepth 100000 in
set_option maxHeartbeats 8000000 in
theorem define_name {W w : World} {fb mb : Nat} {D : Fm} {R : Heap} (hA : FaAt W w fb mb D R) (n : ByteArray) (a : Att) (hs : n.size < 9223372036854775807) (hv : validF n = false) : Calls Try.prog 19 #[.pointer (some ⟨fb, 0, none⟩), .string n, a.val] w fun e w' => e = .returned (.int .i64 17) ∧ FaAt W w' fb mb D R := by
  have HV := hide (validT hv hs)
  have hB1 : Below w.heap.size w (w.alloc (.cells a.cells.toArray 23)) := (Below.refl _ _).alloc (Nat.le_refl _) _
  have hA1 := hA.below hB1
  have hbx : Own W (w.alloc (.cells a.cells.toArray 23)) ((w.heap.size, .cells 23 a.cells.toArray) :: (fb, .cells 60 #[.map (some mb)]) :: (mb, .map (facePairs D)) :: R) := Own.newCells hA _ _
  have HB := hide hbx
  have HM := hide (made_yes hA1.fin)
  have c0 : w.cell? ⟨fb, 0, none⟩ = some (.map (some mb)) := by rw [hA.fin.m.cell]; rfl
  have c1 : (w.alloc (.cells a.cells.toArray 23)).cell? ⟨fb, 0, none⟩ = some (.map (some mb)) := by rw [hA1.fin.m.cell]; rfl
  have hl1 := face_lookup2 hA1.fin.d n
  have hA2 := hA1.below (((Below.refl _ _).alloc (Nat.le_refl _) (.cells (lookZ D n).cells.toArray 23)))
  have hA3 := hA2.below (((Below.refl _ _).alloc (Nat.le_refl _) (.cells attZ 23)))
  have c2 : ((w.alloc (.cells a.cells.toArray 23)).alloc (.cells (lookZ D n).cells.toArray 23)).cell? ⟨fb, 0, none⟩ = some (.map (some mb)) := by rw [hA2.fin.m.cell]; rfl
  have c3 : (((w.alloc (.cells a.cells.toArray 23)).alloc (.cells (lookZ D n).cells.toArray 23)).alloc (.cells attZ 23)).cell? ⟨fb, 0, none⟩ = some (.map (some mb)) := by rw [hA3.fin.m.cell]; rfl
  have hl2 := face_lookup2 hA2.fin.d.drew a.inh
  have hl3 := face_lookup2 hA3.fin.d.drew a.inh
  obtain ⟨x1, hx1⟩ : ∃ x, x = (look D n).isSome := ⟨_, rfl⟩
  obtain ⟨x2, hx2⟩ : ∃ x, x = (look D a.inh).isSome := ⟨_, rfl⟩
  rw [← hx1] at hl1
  rw [← hx2] at hl2 hl3
  have HX1 := hide hx1
  have HX2 := hide hx2
  clear hx1 hx2 hbx hA hA1 hA2 hA3 hB1
  go_enter Try.func19, Try.ntmps19
  go_wp2_with fail
  refine (Calls.mono (HM.out)) ?_
  rintro r w2 ⟨rfl, rfl⟩
  go_wp2_with fail
  go_region
  all_goals
    have HW := hide (three_below w (.cells a.cells.toArray 23) (.cells (lookZ D n).cells.toArray 23) (.cells (lookZ D a.inh).cells.toArray 23))
    clear c0 c1 c2 c3 hl1 hl2 hl3 HM
    go_wp2_with fail
    refine Calls.mono (HV.out _) ?_
    rintro r w4 ⟨rfl, rfl⟩
    go_wp2
    go_ret
    exact ⟨rfl, (boxA HB.out HW.out).2.1⟩
set_option maxRecDepth 100000 in
set_option maxHeartbeats 8000000 in
theorem define_range {W w : World} {fb mb : Nat} {D : Fm} {R : Heap} (hA : FaAt W w fb mb D R) (n : ByteArray) (a : Att) (hs : n.size < 9223372036854775807) (hv : validF n = true) (hw : withinB a = false) : Calls Try.prog 19 #[.pointer (some ⟨fb, 0, none⟩), .string n, a.val] w fun e w' => e = .returned (.int .i64 3) ∧ FaAt W w' fb mb D R := by
  have HV := hide (validT hv hs)
  have HWI := hide (withinT hw)
  have hB1 : Below w.heap.size w (w.alloc (.cells a.cells.toArray 23)) := (Below.refl _ _).alloc (Nat.le_refl _) _
  have hA1 := hA.below hB1
  have hbx : Own W (w.alloc (.cells a.cells.toArray 23)) ((w.heap.size, .cells 23 a.cells.toArray) :: (fb, .cells 60 #[.map (some mb)]) :: (mb, .map (facePairs D)) :: R) := Own.newCells hA _ _
  have HB := hide hbx
  have HM := hide (made_yes hA1.fin)
  have c0 : w.cell? ⟨fb, 0, none⟩ = some (.map (some mb)) := by rw [hA.fin.m.cell]; rfl
  have c1 : (w.alloc (.cells a.cells.toArray 23)).cell? ⟨fb, 0, none⟩ = some (.map (some mb)) := by rw [hA1.fin.m.cell]; rfl
  have hl1 := face_lookup2 hA1.fin.d n
  have hA2 := hA1.below (((Below.refl _ _).alloc (Nat.le_refl _) (.cells (lookZ D n).cells.toArray 23)))
  have hA3 := hA2.below (((Below.refl _ _).alloc (Nat.le_refl _) (.cells attZ 23)))
  have c2 : ((w.alloc (.cells a.cells.toArray 23)).alloc (.cells (lookZ D n).cells.toArray 23)).cell? ⟨fb, 0, none⟩ = some (.map (some mb)) := by rw [hA2.fin.m.cell]; rfl
  have c3 : (((w.alloc (.cells a.cells.toArray 23)).alloc (.cells (lookZ D n).cells.toArray 23)).alloc (.cells attZ 23)).cell? ⟨fb, 0, none⟩ = some (.map (some mb)) := by rw [hA3.fin.m.cell]; rfl
  have hl2 := face_lookup2 hA2.fin.d.drew a.inh
  have hl3 := face_lookup2 hA3.fin.d.drew a.inh
  obtain ⟨x1, hx1⟩ : ∃ x, x = (look D n).isSome := ⟨_, rfl⟩
  obtain ⟨x2, hx2⟩ : ∃ x, x = (look D a.inh).isSome := ⟨_, rfl⟩
  rw [← hx1] at hl1
  rw [← hx2] at hl2 hl3
  have HX1 := hide hx1
  have HX2 := hide hx2
  clear hx1 hx2 hbx hA hA1 hA2 hA3 hB1
  go_enter Try.func19, Try.ntmps19
  go_wp2_with fail
  refine (Calls.mono (HM.out)) ?_
  rintro r w2 ⟨rfl, rfl⟩
  go_wp2_with fail
  go_region
  all_goals
    have HW := hide (three_below w (.cells a.cells.toArray 23) (.cells (lookZ D n).cells.toArray 23) (.cells (lookZ D a.inh).cells.toArray 23))
    clear c0 c1 c2 c3 hl1 hl2 hl3 HM
    go_wp2_with fail
    refine Calls.mono (HV.out _) ?_
    rintro r w4 ⟨rfl, rfl⟩
    go_wp2_with fail
    refine Calls.mono (HWI.out _) ?_
    rintro r w5 ⟨rfl, hb5⟩
    have H5 := hide (HW.out.trans (hb5.mono HW.out.size))
    clear hb5
    go_wp2
    go_ret
    exact ⟨rfl, (boxA HB.out H5.out).2.1⟩
set_option maxRecDepth 100000 in
set_option maxHeartbeats 8000000 in
theorem define_pname {W w : World} {fb mb : Nat} {D : Fm} {R : Heap} (hA : FaAt W w fb mb D R) (n : ByteArray) (a : Att) (hs : n.size < 9223372036854775807) (hv : validF n = true) (hw : withinB a = true) (hne : a.inh ≠ ⟨#[]⟩) (hs2 : a.inh.size < 9223372036854775807) (hvi : validF a.inh = false) : Calls Try.prog 19 #[.pointer (some ⟨fb, 0, none⟩), .string n, a.val] w fun e w' => e = .returned (.int .i64 17) ∧ FaAt W w' fb mb D R := by
  have HV := hide (validT hv hs)
  have HWI := hide (withinT hw)
  have z1 := ne_empty hne
  have z2 : (!a.inh.toList.isEmpty) = true := by rw [z1]; rfl
  have HVI := hide (validT hvi hs2)
  have hB1 : Below w.heap.size w (w.alloc (.cells a.cells.toArray 23)) := (Below.refl _ _).alloc (Nat.le_refl _) _
  have hA1 := hA.below hB1
  have hbx : Own W (w.alloc (.cells a.cells.toArray 23)) ((w.heap.size, .cells 23 a.cells.toArray) :: (fb, .cells 60 #[.map (some mb)]) :: (mb, .map (facePairs D)) :: R) := Own.newCells hA _ _
  have HB := hide hbx
  have HM := hide (made_yes hA1.fin)
  have c0 : w.cell? ⟨fb, 0, none⟩ = some (.map (some mb)) := by rw [hA.fin.m.cell]; rfl
  have c1 : (w.alloc (.cells a.cells.toArray 23)).cell? ⟨fb, 0, none⟩ = some (.map (some mb)) := by rw [hA1.fin.m.cell]; rfl
  have hl1 := face_lookup2 hA1.fin.d n
  have hA2 := hA1.below (((Below.refl _ _).alloc (Nat.le_refl _) (.cells (lookZ D n).cells.toArray 23)))
  have hA3 := hA2.below (((Below.refl _ _).alloc (Nat.le_refl _) (.cells attZ 23)))
  have c2 : ((w.alloc (.cells a.cells.toArray 23)).alloc (.cells (lookZ D n).cells.toArray 23)).cell? ⟨fb, 0, none⟩ = some (.map (some mb)) := by rw [hA2.fin.m.cell]; rfl
  have c3 : (((w.alloc (.cells a.cells.toArray 23)).alloc (.cells (lookZ D n).cells.toArray 23)).alloc (.cells attZ 23)).cell? ⟨fb, 0, none⟩ = some (.map (some mb)) := by rw [hA3.fin.m.cell]; rfl
  have hl2 := face_lookup2 hA2.fin.d.drew a.inh
  have hl3 := face_lookup2 hA3.fin.d.drew a.inh
  obtain ⟨x1, hx1⟩ : ∃ x, x = (look D n).isSome := ⟨_, rfl⟩
  obtain ⟨x2, hx2⟩ : ∃ x, x = (look D a.inh).isSome := ⟨_, rfl⟩
  rw [← hx1] at hl1
  rw [← hx2] at hl2 hl3
  have HX1 := hide hx1
  have HX2 := hide hx2
  clear hx1 hx2 hbx hA hA1 hA2 hA3 hB1
  go_enter Try.func19, Try.ntmps19
  go_wp2_with fail
  refine (Calls.mono (HM.out)) ?_
  rintro r w2 ⟨rfl, rfl⟩
  go_wp2_with fail
  go_region
  all_goals
    have HW := hide (three_below w (.cells a.cells.toArray 23) (.cells (lookZ D n).cells.toArray 23) (.cells (lookZ D a.inh).cells.toArray 23))
    clear c0 c1 c2 c3 hl1 hl2 hl3 HM
    go_wp2_with fail
    refine Calls.mono (HV.out _) ?_
    rintro r w4 ⟨rfl, rfl⟩
    go_wp2_with fail
    refine Calls.mono (HWI.out _) ?_
    rintro r w5 ⟨rfl, hb5⟩
    have H5 := hide (HW.out.trans (hb5.mono HW.out.size))
    clear hb5
    obtain ⟨⟨a0, a1, a2, a3, a4, a5⟩, _, cf⟩ := boxA HB.out H5.out
    go_wp2_with fail
    refine Calls.mono (HVI.out _) ?_
    rintro r w6 ⟨rfl, rfl⟩
    go_wp2
    go_ret
    exact ⟨rfl, (boxA HB.out H5.out).2.1⟩
set_option maxRecDepth 100000 in
set_option maxHeartbeats 8000000 in
theorem define_unknown {W w : World} {fb mb : Nat} {D : Fm} {R : Heap} (hA : FaAt W w fb mb D R) (n : ByteArray) (a : Att) (hs : n.size < 9223372036854775807) (hv : validF n = true) (hw : withinB a = true) (hne : a.inh ≠ ⟨#[]⟩) (hs2 : a.inh.size < 9223372036854775807) (hvi : validF a.inh = true) (hx : (look D a.inh).isSome = false) : Calls Try.prog 19 #[.pointer (some ⟨fb, 0, none⟩), .string n, a.val] w fun e w' => e = .returned (.int .i64 8) ∧ FaAt W w' fb mb D R := by
  have HV := hide (validT hv hs)
  have HWI := hide (withinT hw)
  have z1 := ne_empty hne
  have z2 : (!a.inh.toList.isEmpty) = true := by rw [z1]; rfl
  have HVI := hide (validT hvi hs2)
  have hB1 : Below w.heap.size w (w.alloc (.cells a.cells.toArray 23)) := (Below.refl _ _).alloc (Nat.le_refl _) _
  have hA1 := hA.below hB1
  have hbx : Own W (w.alloc (.cells a.cells.toArray 23)) ((w.heap.size, .cells 23 a.cells.toArray) :: (fb, .cells 60 #[.map (some mb)]) :: (mb, .map (facePairs D)) :: R) := Own.newCells hA _ _
  have HB := hide hbx
  have HM := hide (made_yes hA1.fin)
  have c0 : w.cell? ⟨fb, 0, none⟩ = some (.map (some mb)) := by rw [hA.fin.m.cell]; rfl
  have c1 : (w.alloc (.cells a.cells.toArray 23)).cell? ⟨fb, 0, none⟩ = some (.map (some mb)) := by rw [hA1.fin.m.cell]; rfl
  have hl1 := face_lookup2 hA1.fin.d n
  have hA2 := hA1.below (((Below.refl _ _).alloc (Nat.le_refl _) (.cells (lookZ D n).cells.toArray 23)))
  have hA3 := hA2.below (((Below.refl _ _).alloc (Nat.le_refl _) (.cells attZ 23)))
  have c2 : ((w.alloc (.cells a.cells.toArray 23)).alloc (.cells (lookZ D n).cells.toArray 23)).cell? ⟨fb, 0, none⟩ = some (.map (some mb)) := by rw [hA2.fin.m.cell]; rfl
  have c3 : (((w.alloc (.cells a.cells.toArray 23)).alloc (.cells (lookZ D n).cells.toArray 23)).alloc (.cells attZ 23)).cell? ⟨fb, 0, none⟩ = some (.map (some mb)) := by rw [hA3.fin.m.cell]; rfl
  have hl2 := face_lookup2 hA2.fin.d.drew a.inh
  have hl3 := face_lookup2 hA3.fin.d.drew a.inh
  obtain ⟨x1, hx1⟩ : ∃ x, x = (look D n).isSome := ⟨_, rfl⟩
  obtain ⟨x2, hx2⟩ : ∃ x, x = (look D a.inh).isSome := ⟨_, rfl⟩
  rw [← hx1] at hl1
  rw [← hx2] at hl2 hl3
  have HX1 := hide hx1
  have HX2 := hide hx2
  clear hx1 hx2 hbx hA hA1 hA2 hA3 hB1
  go_enter Try.func19, Try.ntmps19
  go_wp2_with fail
  refine (Calls.mono (HM.out)) ?_
  rintro r w2 ⟨rfl, rfl⟩
  go_wp2_with fail
  go_region
  all_goals
    have HW := hide (three_below w (.cells a.cells.toArray 23) (.cells (lookZ D n).cells.toArray 23) (.cells (lookZ D a.inh).cells.toArray 23))
    clear c0 c1 c2 c3 hl1 hl2 hl3 HM
    go_wp2_with fail
    refine Calls.mono (HV.out _) ?_
    rintro r w4 ⟨rfl, rfl⟩
    go_wp2_with fail
    refine Calls.mono (HWI.out _) ?_
    rintro r w5 ⟨rfl, hb5⟩
    have H5 := hide (HW.out.trans (hb5.mono HW.out.size))
    clear hb5
    obtain ⟨⟨a0, a1, a2, a3, a4, a5⟩, _, cf⟩ := boxA HB.out H5.out
    go_wp2_with fail
    refine Calls.mono (HVI.out _) ?_
    rintro r w6 ⟨rfl, rfl⟩
    obtain rfl : x2 = false := HX2.out.trans hx
    go_wp2
    go_ret
    exact ⟨rfl, (boxA HB.out H5.out).2.1⟩
set_option maxRecDepth 100000 in
set_option maxHeartbeats 8000000 in
theorem define_loop {W w : World} {fb mb : Nat} {D : Fm} {R : Heap} (hA : FaAt W w fb mb D R) (n : ByteArray) (a : Att) (hs : n.size < 9223372036854775807) (hv : validF n = true) (hw : withinB a = true) (hne : a.inh ≠ ⟨#[]⟩) (hs2 : a.inh.size < 9223372036854775807) (hvi : validF a.inh = true) (hx : (look D a.inh).isSome = true) {xs : List ByteArray} (hch : Chain D a.inh xs) (hin : (xs.any fun y => y == n) = true) : Calls Try.prog 19 #[.pointer (some ⟨fb, 0, none⟩), .string n, a.val] w fun e w' => e = .returned (.int .i64 16) ∧ FaAt W w' fb mb D R := by
  have HV := hide (validT hv hs)
  have HWI := hide (withinT hw)
  have z1 := ne_empty hne
  have z2 : (!a.inh.toList.isEmpty) = true := by rw [z1]; rfl
  have HVI := hide (validT hvi hs2)
  have hB1 : Below w.heap.size w (w.alloc (.cells a.cells.toArray 23)) := (Below.refl _ _).alloc (Nat.le_refl _) _
  have hA1 := hA.below hB1
  have hbx : Own W (w.alloc (.cells a.cells.toArray 23)) ((w.heap.size, .cells 23 a.cells.toArray) :: (fb, .cells 60 #[.map (some mb)]) :: (mb, .map (facePairs D)) :: R) := Own.newCells hA _ _
  have HB := hide hbx
  have HM := hide (made_yes hA1.fin)
  have c0 : w.cell? ⟨fb, 0, none⟩ = some (.map (some mb)) := by rw [hA.fin.m.cell]; rfl
  have c1 : (w.alloc (.cells a.cells.toArray 23)).cell? ⟨fb, 0, none⟩ = some (.map (some mb)) := by rw [hA1.fin.m.cell]; rfl
  have hl1 := face_lookup2 hA1.fin.d n
  have hA2 := hA1.below (((Below.refl _ _).alloc (Nat.le_refl _) (.cells (lookZ D n).cells.toArray 23)))
  have hA3 := hA2.below (((Below.refl _ _).alloc (Nat.le_refl _) (.cells attZ 23)))
  have c2 : ((w.alloc (.cells a.cells.toArray 23)).alloc (.cells (lookZ D n).cells.toArray 23)).cell? ⟨fb, 0, none⟩ = some (.map (some mb)) := by rw [hA2.fin.m.cell]; rfl
  have c3 : (((w.alloc (.cells a.cells.toArray 23)).alloc (.cells (lookZ D n).cells.toArray 23)).alloc (.cells attZ 23)).cell? ⟨fb, 0, none⟩ = some (.map (some mb)) := by rw [hA3.fin.m.cell]; rfl
  have hl2 := face_lookup2 hA2.fin.d.drew a.inh
  have hl3 := face_lookup2 hA3.fin.d.drew a.inh
  obtain ⟨x1, hx1⟩ : ∃ x, x = (look D n).isSome := ⟨_, rfl⟩
  obtain ⟨x2, hx2⟩ : ∃ x, x = (look D a.inh).isSome := ⟨_, rfl⟩
  rw [← hx1] at hl1
  rw [← hx2] at hl2 hl3
  have HX1 := hide hx1
  have HX2 := hide hx2
  clear hx1 hx2 hbx hA hA1 hA2 hA3 hB1
  go_enter Try.func19, Try.ntmps19
  go_wp2_with fail
  refine (Calls.mono (HM.out)) ?_
  rintro r w2 ⟨rfl, rfl⟩
  go_wp2_with fail
  go_region
  all_goals
    have HW := hide (three_below w (.cells a.cells.toArray 23) (.cells (lookZ D n).cells.toArray 23) (.cells (lookZ D a.inh).cells.toArray 23))
    clear c0 c1 c2 c3 hl1 hl2 hl3 HM
    go_wp2_with fail
    refine Calls.mono (HV.out _) ?_
    rintro r w4 ⟨rfl, rfl⟩
    go_wp2_with fail
    refine Calls.mono (HWI.out _) ?_
    rintro r w5 ⟨rfl, hb5⟩
    have H5 := hide (HW.out.trans (hb5.mono HW.out.size))
    clear hb5
    obtain ⟨⟨a0, a1, a2, a3, a4, a5⟩, _, cf⟩ := boxA HB.out H5.out
    go_wp2_with fail
    refine Calls.mono (HVI.out _) ?_
    rintro r w6 ⟨rfl, rfl⟩
    obtain rfl : x2 = true := HX2.out.trans hx
    go_wp2_with fail
    refine Calls.mono (inheritsT (boxA HB.out H5.out).2.1.fin hch hin) ?_
    rintro r w7 ⟨rfl, hb7⟩
    have H7 := hide (H5.out.trans (hb7.mono H5.out.size))
    clear hb7 a0 a1 a2 a3 a4 a5 cf
    obtain ⟨⟨a0, a1, a2, a3, a4, a5⟩, _, cf⟩ := boxA HB.out H7.out
    go_wp2
    go_ret
    exact ⟨rfl, (boxA HB.out H7.out).2.1⟩
set_option maxRecDepth 100000 in
set_option maxHeartbeats 8000000 in
theorem define_ok1i {W w : World} {fb mb : Nat} {D : Fm} {R : Heap} (hA : FaAt W w fb mb D R) (n : ByteArray) (a : Att) (hs : n.size < 9223372036854775807) (hv : validF n = true) (hw : withinB a = true) (hne : a.inh ≠ ⟨#[]⟩) (hs2 : a.inh.size < 9223372036854775807) (hvi : validF a.inh = true) (hx : (look D a.inh).isSome = true) {xs : List ByteArray} (hch : Chain D a.inh xs) (hin : (xs.any fun y => y == n) = false) (hk : (look D n).isSome = true) : Calls Try.prog 19 #[.pointer (some ⟨fb, 0, none⟩), .string n, a.val] w fun e w' => e = .returned (.int .i64 0) ∧ FaAt W w' fb mb (putF D n a) R := by
  have HV := hide (validT hv hs)
  have HWI := hide (withinT hw)
  have z1 := ne_empty hne
  have z2 : (!a.inh.toList.isEmpty) = true := by rw [z1]; rfl
  have HVI := hide (validT hvi hs2)
  have hB1 : Below w.heap.size w (w.alloc (.cells a.cells.toArray 23)) := (Below.refl _ _).alloc (Nat.le_refl _) _
  have hA1 := hA.below hB1
  have hbx : Own W (w.alloc (.cells a.cells.toArray 23)) ((w.heap.size, .cells 23 a.cells.toArray) :: (fb, .cells 60 #[.map (some mb)]) :: (mb, .map (facePairs D)) :: R) := Own.newCells hA _ _
  have HB := hide hbx
  have HM := hide (made_yes hA1.fin)
  have c0 : w.cell? ⟨fb, 0, none⟩ = some (.map (some mb)) := by rw [hA.fin.m.cell]; rfl
  have c1 : (w.alloc (.cells a.cells.toArray 23)).cell? ⟨fb, 0, none⟩ = some (.map (some mb)) := by rw [hA1.fin.m.cell]; rfl
  have hl1 := face_lookup2 hA1.fin.d n
  have hA2 := hA1.below (((Below.refl _ _).alloc (Nat.le_refl _) (.cells (lookZ D n).cells.toArray 23)))
  have hA3 := hA2.below (((Below.refl _ _).alloc (Nat.le_refl _) (.cells attZ 23)))
  have c2 : ((w.alloc (.cells a.cells.toArray 23)).alloc (.cells (lookZ D n).cells.toArray 23)).cell? ⟨fb, 0, none⟩ = some (.map (some mb)) := by rw [hA2.fin.m.cell]; rfl
  have c3 : (((w.alloc (.cells a.cells.toArray 23)).alloc (.cells (lookZ D n).cells.toArray 23)).alloc (.cells attZ 23)).cell? ⟨fb, 0, none⟩ = some (.map (some mb)) := by rw [hA3.fin.m.cell]; rfl
  have hl2 := face_lookup2 hA2.fin.d.drew a.inh
  have hl3 := face_lookup2 hA3.fin.d.drew a.inh
  obtain ⟨x1, hx1⟩ : ∃ x, x = (look D n).isSome := ⟨_, rfl⟩
  obtain ⟨x2, hx2⟩ : ∃ x, x = (look D a.inh).isSome := ⟨_, rfl⟩
  rw [← hx1] at hl1
  rw [← hx2] at hl2 hl3
  have HX1 := hide hx1
  have HX2 := hide hx2
  clear hx1 hx2 hbx hA hA1 hA2 hA3 hB1
  go_enter Try.func19, Try.ntmps19
  go_wp2_with fail
  refine (Calls.mono (HM.out)) ?_
  rintro r w2 ⟨rfl, rfl⟩
  go_wp2_with fail
  go_region
  all_goals
    have HW := hide (three_below w (.cells a.cells.toArray 23) (.cells (lookZ D n).cells.toArray 23) (.cells (lookZ D a.inh).cells.toArray 23))
    clear c0 c1 c2 c3 hl1 hl2 hl3 HM
    go_wp2_with fail
    refine Calls.mono (HV.out _) ?_
    rintro r w4 ⟨rfl, rfl⟩
    go_wp2_with fail
    refine Calls.mono (HWI.out _) ?_
    rintro r w5 ⟨rfl, hb5⟩
    have H5 := hide (HW.out.trans (hb5.mono HW.out.size))
    clear hb5
    obtain ⟨⟨a0, a1, a2, a3, a4, a5⟩, _, cf⟩ := boxA HB.out H5.out
    go_wp2_with fail
    refine Calls.mono (HVI.out _) ?_
    rintro r w6 ⟨rfl, rfl⟩
    obtain rfl : x2 = true := HX2.out.trans hx
    go_wp2_with fail
    refine Calls.mono (inheritsT (boxA HB.out H5.out).2.1.fin hch hin) ?_
    rintro r w7 ⟨rfl, hb7⟩
    have H7 := hide (H5.out.trans (hb7.mono H5.out.size))
    clear hb7 a0 a1 a2 a3 a4 a5 cf
    obtain ⟨⟨a0, a1, a2, a3, a4, a5⟩, _, cf⟩ := boxA HB.out H7.out
    obtain rfl : x1 = true := HX1.out.trans hk
    obtain ⟨wu, hup, hst⟩ := update_at ((boxA HB.out H7.out).2.1.below (Below.refl _ _).drew) n a
    have hlen : (Builtin.len_ #[58] 3 #[.map (some mb)]).run Try.prog w7 = .ok (.int .i64 D.length) w7 := by
      have := (boxA HB.out H7.out).2.1.fin.d.len (P := Try.prog) Try.underlying58 3
      rwa [show (facePairs D).length = D.length by simp [facePairs]] at this
    have HST := hide hst
    clear hst
    go_wp2_with fail
    go_region
    all_goals
      go_wp2
      go_ret
      exact ⟨rfl, HST.out⟩
set_option maxRecDepth 100000 in
set_option maxHeartbeats 8000000 in
theorem define_ok2i {W w : World} {fb mb : Nat} {D : Fm} {R : Heap} (hA : FaAt W w fb mb D R) (n : ByteArray) (a : Att) (hs : n.size < 9223372036854775807) (hv : validF n = true) (hw : withinB a = true) (hne : a.inh ≠ ⟨#[]⟩) (hs2 : a.inh.size < 9223372036854775807) (hvi : validF a.inh = true) (hx : (look D a.inh).isSome = true) {xs : List ByteArray} (hch : Chain D a.inh xs) (hin : (xs.any fun y => y == n) = false) (hk : (look D n).isSome = false) (hl : D.length < 256) : Calls Try.prog 19 #[.pointer (some ⟨fb, 0, none⟩), .string n, a.val] w fun e w' => e = .returned (.int .i64 0) ∧ FaAt W w' fb mb (putF D n a) R := by
  have HV := hide (validT hv hs)
  have HWI := hide (withinT hw)
  have z1 := ne_empty hne
  have z2 : (!a.inh.toList.isEmpty) = true := by rw [z1]; rfl
  have HVI := hide (validT hvi hs2)
  have hB1 : Below w.heap.size w (w.alloc (.cells a.cells.toArray 23)) := (Below.refl _ _).alloc (Nat.le_refl _) _
  have hA1 := hA.below hB1
  have hbx : Own W (w.alloc (.cells a.cells.toArray 23)) ((w.heap.size, .cells 23 a.cells.toArray) :: (fb, .cells 60 #[.map (some mb)]) :: (mb, .map (facePairs D)) :: R) := Own.newCells hA _ _
  have HB := hide hbx
  have HM := hide (made_yes hA1.fin)
  have c0 : w.cell? ⟨fb, 0, none⟩ = some (.map (some mb)) := by rw [hA.fin.m.cell]; rfl
  have c1 : (w.alloc (.cells a.cells.toArray 23)).cell? ⟨fb, 0, none⟩ = some (.map (some mb)) := by rw [hA1.fin.m.cell]; rfl
  have hl1 := face_lookup2 hA1.fin.d n
  have hA2 := hA1.below (((Below.refl _ _).alloc (Nat.le_refl _) (.cells (lookZ D n).cells.toArray 23)))
  have hA3 := hA2.below (((Below.refl _ _).alloc (Nat.le_refl _) (.cells attZ 23)))
  have c2 : ((w.alloc (.cells a.cells.toArray 23)).alloc (.cells (lookZ D n).cells.toArray 23)).cell? ⟨fb, 0, none⟩ = some (.map (some mb)) := by rw [hA2.fin.m.cell]; rfl
  have c3 : (((w.alloc (.cells a.cells.toArray 23)).alloc (.cells (lookZ D n).cells.toArray 23)).alloc (.cells attZ 23)).cell? ⟨fb, 0, none⟩ = some (.map (some mb)) := by rw [hA3.fin.m.cell]; rfl
  have hl2 := face_lookup2 hA2.fin.d.drew a.inh
  have hl3 := face_lookup2 hA3.fin.d.drew a.inh
  obtain ⟨x1, hx1⟩ : ∃ x, x = (look D n).isSome := ⟨_, rfl⟩
  obtain ⟨x2, hx2⟩ : ∃ x, x = (look D a.inh).isSome := ⟨_, rfl⟩
  rw [← hx1] at hl1
  rw [← hx2] at hl2 hl3
  have HX1 := hide hx1
  have HX2 := hide hx2
  clear hx1 hx2 hbx hA hA1 hA2 hA3 hB1
  go_enter Try.func19, Try.ntmps19
  go_wp2_with fail
  refine (Calls.mono (HM.out)) ?_
  rintro r w2 ⟨rfl, rfl⟩
  go_wp2_with fail
  go_region
  all_goals
    have HW := hide (three_below w (.cells a.cells.toArray 23) (.cells (lookZ D n).cells.toArray 23) (.cells (lookZ D a.inh).cells.toArray 23))
    clear c0 c1 c2 c3 hl1 hl2 hl3 HM
    go_wp2_with fail
    refine Calls.mono (HV.out _) ?_
    rintro r w4 ⟨rfl, rfl⟩
    go_wp2_with fail
    refine Calls.mono (HWI.out _) ?_
    rintro r w5 ⟨rfl, hb5⟩
    have H5 := hide (HW.out.trans (hb5.mono HW.out.size))
    clear hb5
    obtain ⟨⟨a0, a1, a2, a3, a4, a5⟩, _, cf⟩ := boxA HB.out H5.out
    go_wp2_with fail
    refine Calls.mono (HVI.out _) ?_
    rintro r w6 ⟨rfl, rfl⟩
    obtain rfl : x2 = true := HX2.out.trans hx
    go_wp2_with fail
    refine Calls.mono (inheritsT (boxA HB.out H5.out).2.1.fin hch hin) ?_
    rintro r w7 ⟨rfl, hb7⟩
    have H7 := hide (H5.out.trans (hb7.mono H5.out.size))
    clear hb7 a0 a1 a2 a3 a4 a5 cf
    obtain ⟨⟨a0, a1, a2, a3, a4, a5⟩, _, cf⟩ := boxA HB.out H7.out
    obtain rfl : x1 = false := HX1.out.trans hk
    obtain ⟨wu, hup, hst⟩ := update_at ((boxA HB.out H7.out).2.1.below (Below.refl _ _).drew) n a
    have hlen : (Builtin.len_ #[58] 3 #[.map (some mb)]).run Try.prog w7 = .ok (.int .i64 D.length) w7 := by
      have := (boxA HB.out H7.out).2.1.fin.d.len (P := Try.prog) Try.underlying58 3
      rwa [show (facePairs D).length = D.length by simp [facePairs]] at this
    have HST := hide hst
    clear hst
    have y1 : decide (256 ≤ D.length) = false := by simp; omega
    have y2 : decide ((256 : Int) ≤ (D.length : Int)) = false := by simp; omega
    go_wp2_with fail
    go_region
    all_goals
      go_wp2
      go_ret
      exact ⟨rfl, HST.out⟩
set_option maxRecDepth 100000 in
set_option maxHeartbeats 8000000 in
theorem define_fulli {W w : World} {fb mb : Nat} {D : Fm} {R : Heap} (hA : FaAt W w fb mb D R) (n : ByteArray) (a : Att) (hs : n.size < 9223372036854775807) (hv : validF n = true) (hw : withinB a = true) (hne : a.inh ≠ ⟨#[]⟩) (hs2 : a.inh.size < 9223372036854775807) (hvi : validF a.inh = true) (hx : (look D a.inh).isSome = true) {xs : List ByteArray} (hch : Chain D a.inh xs) (hin : (xs.any fun y => y == n) = false) (hk : (look D n).isSome = false) (hl : 256 ≤ D.length) : Calls Try.prog 19 #[.pointer (some ⟨fb, 0, none⟩), .string n, a.val] w fun e w' => e = .returned (.int .i64 7) ∧ FaAt W w' fb mb D R := by
  have HV := hide (validT hv hs)
  have HWI := hide (withinT hw)
  have z1 := ne_empty hne
  have z2 : (!a.inh.toList.isEmpty) = true := by rw [z1]; rfl
  have HVI := hide (validT hvi hs2)
  have hB1 : Below w.heap.size w (w.alloc (.cells a.cells.toArray 23)) := (Below.refl _ _).alloc (Nat.le_refl _) _
  have hA1 := hA.below hB1
  have hbx : Own W (w.alloc (.cells a.cells.toArray 23)) ((w.heap.size, .cells 23 a.cells.toArray) :: (fb, .cells 60 #[.map (some mb)]) :: (mb, .map (facePairs D)) :: R) := Own.newCells hA _ _
  have HB := hide hbx
  have HM := hide (made_yes hA1.fin)
  have c0 : w.cell? ⟨fb, 0, none⟩ = some (.map (some mb)) := by rw [hA.fin.m.cell]; rfl
  have c1 : (w.alloc (.cells a.cells.toArray 23)).cell? ⟨fb, 0, none⟩ = some (.map (some mb)) := by rw [hA1.fin.m.cell]; rfl
  have hl1 := face_lookup2 hA1.fin.d n
  have hA2 := hA1.below (((Below.refl _ _).alloc (Nat.le_refl _) (.cells (lookZ D n).cells.toArray 23)))
  have hA3 := hA2.below (((Below.refl _ _).alloc (Nat.le_refl _) (.cells attZ 23)))
  have c2 : ((w.alloc (.cells a.cells.toArray 23)).alloc (.cells (lookZ D n).cells.toArray 23)).cell? ⟨fb, 0, none⟩ = some (.map (some mb)) := by rw [hA2.fin.m.cell]; rfl
  have c3 : (((w.alloc (.cells a.cells.toArray 23)).alloc (.cells (lookZ D n).cells.toArray 23)).alloc (.cells attZ 23)).cell? ⟨fb, 0, none⟩ = some (.map (some mb)) := by rw [hA3.fin.m.cell]; rfl
  have hl2 := face_lookup2 hA2.fin.d.drew a.inh
  have hl3 := face_lookup2 hA3.fin.d.drew a.inh
  obtain ⟨x1, hx1⟩ : ∃ x, x = (look D n).isSome := ⟨_, rfl⟩
  obtain ⟨x2, hx2⟩ : ∃ x, x = (look D a.inh).isSome := ⟨_, rfl⟩
  rw [← hx1] at hl1
  rw [← hx2] at hl2 hl3
  have HX1 := hide hx1
  have HX2 := hide hx2
  clear hx1 hx2 hbx hA hA1 hA2 hA3 hB1
  go_enter Try.func19, Try.ntmps19
  go_wp2_with fail
  refine (Calls.mono (HM.out)) ?_
  rintro r w2 ⟨rfl, rfl⟩
  go_wp2_with fail
  go_region
  all_goals
    have HW := hide (three_below w (.cells a.cells.toArray 23) (.cells (lookZ D n).cells.toArray 23) (.cells (lookZ D a.inh).cells.toArray 23))
    clear c0 c1 c2 c3 hl1 hl2 hl3 HM
    go_wp2_with fail
    refine Calls.mono (HV.out _) ?_
    rintro r w4 ⟨rfl, rfl⟩
    go_wp2_with fail
    refine Calls.mono (HWI.out _) ?_
    rintro r w5 ⟨rfl, hb5⟩
    have H5 := hide (HW.out.trans (hb5.mono HW.out.size))
    clear hb5
    obtain ⟨⟨a0, a1, a2, a3, a4, a5⟩, _, cf⟩ := boxA HB.out H5.out
    go_wp2_with fail
    refine Calls.mono (HVI.out _) ?_
    rintro r w6 ⟨rfl, rfl⟩
    obtain rfl : x2 = true := HX2.out.trans hx
    go_wp2_with fail
    refine Calls.mono (inheritsT (boxA HB.out H5.out).2.1.fin hch hin) ?_
    rintro r w7 ⟨rfl, hb7⟩
    have H7 := hide (H5.out.trans (hb7.mono H5.out.size))
    clear hb7 a0 a1 a2 a3 a4 a5 cf
    obtain ⟨⟨a0, a1, a2, a3, a4, a5⟩, _, cf⟩ := boxA HB.out H7.out
    obtain rfl : x1 = false := HX1.out.trans hk
    obtain ⟨wu, hup, hst⟩ := update_at ((boxA HB.out H7.out).2.1.below (Below.refl _ _).drew) n a
    have hlen : (Builtin.len_ #[58] 3 #[.map (some mb)]).run Try.prog w7 = .ok (.int .i64 D.length) w7 := by
      have := (boxA HB.out H7.out).2.1.fin.d.len (P := Try.prog) Try.underlying58 3
      rwa [show (facePairs D).length = D.length by simp [facePairs]] at this
    have HST := hide hst
    clear hst
    have y1 : decide (256 ≤ D.length) = true := by simp; omega
    have y2 : decide ((256 : Int) ≤ (D.length : Int)) = true := by simp; omega
    go_wp2
    go_ret
    exact ⟨rfl, (boxA HB.out H7.out).2.1⟩
set_option maxRecDepth 100000 in
set_option maxHeartbeats 8000000 in
theorem define_ok1e {W w : World} {fb mb : Nat} {D : Fm} {R : Heap} (hA : FaAt W w fb mb D R) (n : ByteArray) (a : Att) (hs : n.size < 9223372036854775807) (hv : validF n = true) (hw : withinB a = true) (hne : a.inh = ⟨#[]⟩) (hk : (look D n).isSome = true) : Calls Try.prog 19 #[.pointer (some ⟨fb, 0, none⟩), .string n, a.val] w fun e w' => e = .returned (.int .i64 0) ∧ FaAt W w' fb mb (putF D n a) R := by
  have HV := hide (validT hv hs)
  have HWI := hide (withinT hw)
  have z1 := empty_is hne
  have z2 : (!a.inh.toList.isEmpty) = false := by rw [z1]; rfl
  clear hne
  have hB1 : Below w.heap.size w (w.alloc (.cells a.cells.toArray 23)) := (Below.refl _ _).alloc (Nat.le_refl _) _
  have hA1 := hA.below hB1
  have hbx : Own W (w.alloc (.cells a.cells.toArray 23)) ((w.heap.size, .cells 23 a.cells.toArray) :: (fb, .cells 60 #[.map (some mb)]) :: (mb, .map (facePairs D)) :: R) := Own.newCells hA _ _
  have HB := hide hbx
  have HM := hide (made_yes hA1.fin)
  have c0 : w.cell? ⟨fb, 0, none⟩ = some (.map (some mb)) := by rw [hA.fin.m.cell]; rfl
  have c1 : (w.alloc (.cells a.cells.toArray 23)).cell? ⟨fb, 0, none⟩ = some (.map (some mb)) := by rw [hA1.fin.m.cell]; rfl
  have hl1 := face_lookup2 hA1.fin.d n
  have hA2 := hA1.below (((Below.refl _ _).alloc (Nat.le_refl _) (.cells (lookZ D n).cells.toArray 23)))
  have hA3 := hA2.below (((Below.refl _ _).alloc (Nat.le_refl _) (.cells attZ 23)))
  have c2 : ((w.alloc (.cells a.cells.toArray 23)).alloc (.cells (lookZ D n).cells.toArray 23)).cell? ⟨fb, 0, none⟩ = some (.map (some mb)) := by rw [hA2.fin.m.cell]; rfl
  have c3 : (((w.alloc (.cells a.cells.toArray 23)).alloc (.cells (lookZ D n).cells.toArray 23)).alloc (.cells attZ 23)).cell? ⟨fb, 0, none⟩ = some (.map (some mb)) := by rw [hA3.fin.m.cell]; rfl
  have hl2 := face_lookup2 hA2.fin.d.drew a.inh
  have hl3 := face_lookup2 hA3.fin.d.drew a.inh
  obtain ⟨x1, hx1⟩ : ∃ x, x = (look D n).isSome := ⟨_, rfl⟩
  obtain ⟨x2, hx2⟩ : ∃ x, x = (look D a.inh).isSome := ⟨_, rfl⟩
  rw [← hx1] at hl1
  rw [← hx2] at hl2 hl3
  have HX1 := hide hx1
  have HX2 := hide hx2
  clear hx1 hx2 hbx hA hA1 hA2 hA3 hB1
  go_enter Try.func19, Try.ntmps19
  go_wp2_with fail
  refine (Calls.mono (HM.out)) ?_
  rintro r w2 ⟨rfl, rfl⟩
  go_wp2_with fail
  go_region
  all_goals
    have HW := hide (three_below w (.cells a.cells.toArray 23) (.cells (lookZ D n).cells.toArray 23) (.cells (lookZ D a.inh).cells.toArray 23))
    clear c0 c1 c2 c3 hl1 hl2 hl3 HM
    go_wp2_with fail
    refine Calls.mono (HV.out _) ?_
    rintro r w4 ⟨rfl, rfl⟩
    go_wp2_with fail
    refine Calls.mono (HWI.out _) ?_
    rintro r w5 ⟨rfl, hb5⟩
    have H5 := hide (HW.out.trans (hb5.mono HW.out.size))
    clear hb5
    obtain ⟨⟨a0, a1, a2, a3, a4, a5⟩, _, cf⟩ := boxA HB.out H5.out
    obtain rfl : x1 = true := HX1.out.trans hk
    obtain ⟨wu, hup, hst⟩ := update_at ((boxA HB.out H5.out).2.1.below (Below.refl _ _).drew) n a
    have hlen : (Builtin.len_ #[58] 3 #[.map (some mb)]).run Try.prog w5 = .ok (.int .i64 D.length) w5 := by
      have := (boxA HB.out H5.out).2.1.fin.d.len (P := Try.prog) Try.underlying58 3
      rwa [show (facePairs D).length = D.length by simp [facePairs]] at this
    have HST := hide hst
    clear hst
    go_wp2_with fail
    go_region
    all_goals
      go_wp2
      go_ret
      exact ⟨rfl, HST.out⟩
set_option maxRecDepth 100000 in
set_option maxHeartbeats 8000000 in
theorem define_ok2e {W w : World} {fb mb : Nat} {D : Fm} {R : Heap} (hA : FaAt W w fb mb D R) (n : ByteArray) (a : Att) (hs : n.size < 9223372036854775807) (hv : validF n = true) (hw : withinB a = true) (hne : a.inh = ⟨#[]⟩) (hk : (look D n).isSome = false) (hl : D.length < 256) : Calls Try.prog 19 #[.pointer (some ⟨fb, 0, none⟩), .string n, a.val] w fun e w' => e = .returned (.int .i64 0) ∧ FaAt W w' fb mb (putF D n a) R := by
  have HV := hide (validT hv hs)
  have HWI := hide (withinT hw)
  have z1 := empty_is hne
  have z2 : (!a.inh.toList.isEmpty) = false := by rw [z1]; rfl
  clear hne
  have hB1 : Below w.heap.size w (w.alloc (.cells a.cells.toArray 23)) := (Below.refl _ _).alloc (Nat.le_refl _) _
  have hA1 := hA.below hB1
  have hbx : Own W (w.alloc (.cells a.cells.toArray 23)) ((w.heap.size, .cells 23 a.cells.toArray) :: (fb, .cells 60 #[.map (some mb)]) :: (mb, .map (facePairs D)) :: R) := Own.newCells hA _ _
  have HB := hide hbx
  have HM := hide (made_yes hA1.fin)
  have c0 : w.cell? ⟨fb, 0, none⟩ = some (.map (some mb)) := by rw [hA.fin.m.cell]; rfl
  have c1 : (w.alloc (.cells a.cells.toArray 23)).cell? ⟨fb, 0, none⟩ = some (.map (some mb)) := by rw [hA1.fin.m.cell]; rfl
  have hl1 := face_lookup2 hA1.fin.d n
  have hA2 := hA1.below (((Below.refl _ _).alloc (Nat.le_refl _) (.cells (lookZ D n).cells.toArray 23)))
  have hA3 := hA2.below (((Below.refl _ _).alloc (Nat.le_refl _) (.cells attZ 23)))
  have c2 : ((w.alloc (.cells a.cells.toArray 23)).alloc (.cells (lookZ D n).cells.toArray 23)).cell? ⟨fb, 0, none⟩ = some (.map (some mb)) := by rw [hA2.fin.m.cell]; rfl
  have c3 : (((w.alloc (.cells a.cells.toArray 23)).alloc (.cells (lookZ D n).cells.toArray 23)).alloc (.cells attZ 23)).cell? ⟨fb, 0, none⟩ = some (.map (some mb)) := by rw [hA3.fin.m.cell]; rfl
  have hl2 := face_lookup2 hA2.fin.d.drew a.inh
  have hl3 := face_lookup2 hA3.fin.d.drew a.inh
  obtain ⟨x1, hx1⟩ : ∃ x, x = (look D n).isSome := ⟨_, rfl⟩
  obtain ⟨x2, hx2⟩ : ∃ x, x = (look D a.inh).isSome := ⟨_, rfl⟩
  rw [← hx1] at hl1
  rw [← hx2] at hl2 hl3
  have HX1 := hide hx1
  have HX2 := hide hx2
  clear hx1 hx2 hbx hA hA1 hA2 hA3 hB1
  go_enter Try.func19, Try.ntmps19
  go_wp2_with fail
  refine (Calls.mono (HM.out)) ?_
  rintro r w2 ⟨rfl, rfl⟩
  go_wp2_with fail
  go_region
  all_goals
    have HW := hide (three_below w (.cells a.cells.toArray 23) (.cells (lookZ D n).cells.toArray 23) (.cells (lookZ D a.inh).cells.toArray 23))
    clear c0 c1 c2 c3 hl1 hl2 hl3 HM
    go_wp2_with fail
    refine Calls.mono (HV.out _) ?_
    rintro r w4 ⟨rfl, rfl⟩
    go_wp2_with fail
    refine Calls.mono (HWI.out _) ?_
    rintro r w5 ⟨rfl, hb5⟩
    have H5 := hide (HW.out.trans (hb5.mono HW.out.size))
    clear hb5
    obtain ⟨⟨a0, a1, a2, a3, a4, a5⟩, _, cf⟩ := boxA HB.out H5.out
    obtain rfl : x1 = false := HX1.out.trans hk
    obtain ⟨wu, hup, hst⟩ := update_at ((boxA HB.out H5.out).2.1.below (Below.refl _ _).drew) n a
    have hlen : (Builtin.len_ #[58] 3 #[.map (some mb)]).run Try.prog w5 = .ok (.int .i64 D.length) w5 := by
      have := (boxA HB.out H5.out).2.1.fin.d.len (P := Try.prog) Try.underlying58 3
      rwa [show (facePairs D).length = D.length by simp [facePairs]] at this
    have HST := hide hst
    clear hst
    have y1 : decide (256 ≤ D.length) = false := by simp; omega
    have y2 : decide ((256 : Int) ≤ (D.length : Int)) = false := by simp; omega
    go_wp2_with fail
    go_region
    all_goals
      go_wp2
      go_ret
      exact ⟨rfl, HST.out⟩
set_option maxRecDepth 100000 in
set_option maxHeartbeats 8000000 in
theorem define_fulle {W w : World} {fb mb : Nat} {D : Fm} {R : Heap} (hA : FaAt W w fb mb D R) (n : ByteArray) (a : Att) (hs : n.size < 9223372036854775807) (hv : validF n = true) (hw : withinB a = true) (hne : a.inh = ⟨#[]⟩) (hk : (look D n).isSome = false) (hl : 256 ≤ D.length) : Calls Try.prog 19 #[.pointer (some ⟨fb, 0, none⟩), .string n, a.val] w fun e w' => e = .returned (.int .i64 7) ∧ FaAt W w' fb mb D R := by
  have HV := hide (validT hv hs)
  have HWI := hide (withinT hw)
  have z1 := empty_is hne
  have z2 : (!a.inh.toList.isEmpty) = false := by rw [z1]; rfl
  clear hne
  have hB1 : Below w.heap.size w (w.alloc (.cells a.cells.toArray 23)) := (Below.refl _ _).alloc (Nat.le_refl _) _
  have hA1 := hA.below hB1
  have hbx : Own W (w.alloc (.cells a.cells.toArray 23)) ((w.heap.size, .cells 23 a.cells.toArray) :: (fb, .cells 60 #[.map (some mb)]) :: (mb, .map (facePairs D)) :: R) := Own.newCells hA _ _
  have HB := hide hbx
  have HM := hide (made_yes hA1.fin)
  have c0 : w.cell? ⟨fb, 0, none⟩ = some (.map (some mb)) := by rw [hA.fin.m.cell]; rfl
  have c1 : (w.alloc (.cells a.cells.toArray 23)).cell? ⟨fb, 0, none⟩ = some (.map (some mb)) := by rw [hA1.fin.m.cell]; rfl
  have hl1 := face_lookup2 hA1.fin.d n
  have hA2 := hA1.below (((Below.refl _ _).alloc (Nat.le_refl _) (.cells (lookZ D n).cells.toArray 23)))
  have hA3 := hA2.below (((Below.refl _ _).alloc (Nat.le_refl _) (.cells attZ 23)))
  have c2 : ((w.alloc (.cells a.cells.toArray 23)).alloc (.cells (lookZ D n).cells.toArray 23)).cell? ⟨fb, 0, none⟩ = some (.map (some mb)) := by rw [hA2.fin.m.cell]; rfl
  have c3 : (((w.alloc (.cells a.cells.toArray 23)).alloc (.cells (lookZ D n).cells.toArray 23)).alloc (.cells attZ 23)).cell? ⟨fb, 0, none⟩ = some (.map (some mb)) := by rw [hA3.fin.m.cell]; rfl
  have hl2 := face_lookup2 hA2.fin.d.drew a.inh
  have hl3 := face_lookup2 hA3.fin.d.drew a.inh
  obtain ⟨x1, hx1⟩ : ∃ x, x = (look D n).isSome := ⟨_, rfl⟩
  obtain ⟨x2, hx2⟩ : ∃ x, x = (look D a.inh).isSome := ⟨_, rfl⟩
  rw [← hx1] at hl1
  rw [← hx2] at hl2 hl3
  have HX1 := hide hx1
  have HX2 := hide hx2
  clear hx1 hx2 hbx hA hA1 hA2 hA3 hB1
  go_enter Try.func19, Try.ntmps19
  go_wp2_with fail
  refine (Calls.mono (HM.out)) ?_
  rintro r w2 ⟨rfl, rfl⟩
  go_wp2_with fail
  go_region
  all_goals
    have HW := hide (three_below w (.cells a.cells.toArray 23) (.cells (lookZ D n).cells.toArray 23) (.cells (lookZ D a.inh).cells.toArray 23))
    clear c0 c1 c2 c3 hl1 hl2 hl3 HM
    go_wp2_with fail
    refine Calls.mono (HV.out _) ?_
    rintro r w4 ⟨rfl, rfl⟩
    go_wp2_with fail
    refine Calls.mono (HWI.out _) ?_
    rintro r w5 ⟨rfl, hb5⟩
    have H5 := hide (HW.out.trans (hb5.mono HW.out.size))
    clear hb5
    obtain ⟨⟨a0, a1, a2, a3, a4, a5⟩, _, cf⟩ := boxA HB.out H5.out
    obtain rfl : x1 = false := HX1.out.trans hk
    obtain ⟨wu, hup, hst⟩ := update_at ((boxA HB.out H5.out).2.1.below (Below.refl _ _).drew) n a
    have hlen : (Builtin.len_ #[58] 3 #[.map (some mb)]).run Try.prog w5 = .ok (.int .i64 D.length) w5 := by
      have := (boxA HB.out H5.out).2.1.fin.d.len (P := Try.prog) Try.underlying58 3
      rwa [show (facePairs D).length = D.length by simp [facePairs]] at this
    have HST := hide hst
    clear hst
    have y1 : decide (256 ≤ D.length) = true := by simp; omega
    have y2 : decide ((256 : Int) ≤ (D.length : Int)) = true := by simp; omega
    go_wp2
    go_ret
    exact ⟨rfl, (boxA HB.out H5.out).2.1⟩
end Go.Proofs.Ytmjogpacajbngaa
