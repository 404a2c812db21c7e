/- Drop. No condition but those written. -/
import Derived.Test.YtmjogpacajbngaaFh
import Derived.Test.YtmjogpacajbngaaMr
namespace Go.Proofs.Ytmjogpacajbngaa
open Go.RowKit
attribute [local go_sem] neq_faces

/-- The faces behind a removal. -/
def delF : Fm → ByteArray → Fm
  | [], _ => []
  | x :: D, n => if n == x.1 then D else x :: delF D n
theorem delF_pairs (D : Fm) (n : ByteArray) : mdel (facePairs D) (.string n) = facePairs (delF D n) := by
  induction D with
  | nil => rfl
  | cons x D ih =>
    show mdel ((.string x.1, x.2.val) :: facePairs D) (.string n) = _
    unfold mdel delF
    rw [keyEq_str, ih]
    split <;> rfl
theorem FaAt.drop {W w w' : World} {fb mb : Nat} {D : Fm} {R : Heap} {n : ByteArray} (h : FaAt W w fb mb D R) (hm : MapIs w' mb (mdel (facePairs D) (.string n))) (ho : Only (· = mb) w w') : FaAt W w' fb mb (delF D n) R := by
  rw [delF_pairs] at hm
  have h1 := Own.perm h (List.Perm.swap _ _ _)
  exact (h1.turn ho (b := .map (facePairs (delF D n))) hm).perm (List.Perm.swap _ _ _)
theorem FaAt.free {W w w' : World} {fb mb r : Nat} {D : Fm} {R : Heap} (h : FaAt W w fb mb D R) (ho : Only (· = r) w w') (hr : r ∉ Heap.blocks ((fb, Ast.cells 60 #[.map (some mb)]) :: (mb, Ast.map (facePairs D)) :: R)) (hW : W.heap.size ≤ r) : FaAt W w' fb mb D R :=
  ⟨h.bel.trans (ho.below h.bel.size fun i hi => by rw [hi]; exact hW), Own.nod h, fun x hx => ⟨(Own.all h x hx).1.same (ho.block _ (Own.all h x hx).1.lt fun e => hr (by rw [← e]; exact List.mem_map.2 ⟨x, hx, rfl⟩)), (Own.all h x hx).2⟩⟩
set_option maxRecDepth 100000 in
set_option maxHeartbeats 8000000 in
theorem drop_unknown {W w : World} {fb mb : Nat} {D : Fm} {R : Heap} (h : FaAt W w fb mb D R) (n : ByteArray) (hk : (look D n).isSome = false) : Calls Try.prog 21 #[.pointer (some ⟨fb, 0, none⟩), .string n] w fun e w' => e = .returned (.int .i64 8) ∧ FaAt W w' fb mb D R := by
  have HM := hide (made_yes h.fin)
  have c0 : w.cell? ⟨fb, 0, none⟩ = some (.map (some mb)) := by rw [h.fin.m.cell]; rfl
  have hl := face_lookup2 h.fin.d n
  rw [hk] at hl
  have HF := hide (h.below ((Below.refl _ _).alloc (Nat.le_refl _) (.cells (lookZ D n).cells.toArray 23)))
  clear h hk
  go_enter Try.func21, Try.ntmps21
  go_wp2_with fail
  refine (Calls.mono (HM.out)) ?_
  rintro r w2 ⟨rfl, rfl⟩
  go_wp2
  go_ret
  exact ⟨rfl, HF.out⟩
set_option maxRecDepth 100000 in
set_option maxHeartbeats 8000000 in
theorem drop_const {W w : World} {fb mb : Nat} {D : Fm} {R : Heap} (h : FaAt W w fb mb D R) (hk : (look D dflt).isSome = true) : Calls Try.prog 21 #[.pointer (some ⟨fb, 0, none⟩), .string dflt] w fun e w' => e = .returned (.int .i64 10) ∧ FaAt W w' fb mb D R := by
  have HM := hide (made_yes h.fin)
  have c0 : w.cell? ⟨fb, 0, none⟩ = some (.map (some mb)) := by rw [h.fin.m.cell]; rfl
  have hl := face_lookup2 h.fin.d dflt
  rw [hk] at hl
  have HF := hide (h.below ((Below.refl _ _).alloc (Nat.le_refl _) (.cells (lookZ D dflt).cells.toArray 23)))
  clear h hk
  go_enter Try.func21, Try.ntmps21
  go_wp2_with fail
  refine (Calls.mono (HM.out)) ?_
  rintro r w2 ⟨rfl, rfl⟩
  go_wp2
  go_ret
  exact ⟨rfl, HF.out⟩
/-- What holds within Drop's loop. -/
structure DropI (W wr : World) (fb mb r : Nat) (D : Fm) (R : Heap) (n : ByteArray) (L : Fm) : Prop where
  f : FaAt W wr fb mb D R
  g : MapRg wr mb r (facePairs D) (L.map fun x => (.string x.1, x.2.val))
  d : ∀ x ∈ D, x ∈ L ∨ (x.2.inh == n) = false
  s : ∀ x ∈ L, x ∈ D
theorem wpList_range_r {P : Program} {w : World} {b : Nat} {m : List (Value × Value)} {ops : Array Oper} {rs : List Oper} {o : Oper} {a : Act} {Q : Exit → Act → World → Prop} {t k e : TypeId} (hg : o.guard = none) (x : Operand) (hop : o.op = Op.range t x) (ht : P.underlying t = some (.map k e)) (hx : a.eval x = .map (some b)) (h : MapIs w b m)
    (hK : ∀ r w', r = w.heap.size → MapRg w' b r m m → Below w.heap.size w w' → wpList P ops Q rs (a.put o.dst (.pointer (some ⟨r, 0, none⟩))) w') : wpList P ops Q (o :: rs) a w :=
  wpList_range_is hg x hop ht hx h fun w' h1 h2 => hK _ w' rfl h1 h2
theorem MapRg.next_r {P : Program} {w : World} {b r : Nat} {m : List (Value × Value)} {α : Type} (f : α → Value × Value) (L : List α) (h : MapRg w b r m (L.map f)) (ty : TypeId) :
    (Hid (L = []) ∧ (Instr.next (.pointer (some ⟨r, 0, none⟩)) false ty).run P w = .ok (.tuple #[.bool false]) w) ∨
    ∃ x w', Hid (∃ A B, L = A ++ x :: B ∧ MapRg w' b r m ((A ++ B).map f) ∧ Only (· = r) w w') ∧ (Instr.next (.pointer (some ⟨r, 0, none⟩)) false ty).run P w = .ok (.tuple #[.bool true, (f x).1, (f x).2]) w' ∧
      (Instr.entry (.pointer (some ⟨r, 0, none⟩))).run P w' = .ok (.tuple #[(f x).1, (f x).2]) w' := by
  rcases h.next (P := P) ty with ⟨h0, hrun⟩ | ⟨k, v, A, B, w', h0, hrun, hrg, ho, hen⟩
  · exact .inl ⟨hide (List.map_eq_nil_iff.1 h0), hrun⟩
  · obtain ⟨A', C, rfl, rfl, hC⟩ := List.map_eq_append_iff.1 h0
    obtain ⟨x, B', rfl, hx, rfl⟩ := List.map_eq_cons_iff.1 hC
    obtain ⟨rfl, rfl⟩ : (f x).1 = k ∧ (f x).2 = v := by rw [hx]; exact ⟨rfl, rfl⟩
    exact .inr ⟨x, w', hide ⟨A', B', rfl, by rw [List.map_append]; exact hrg, ho⟩, hrun, hen⟩
theorem MapRg.turn {w w' : World} {b r : Nat} {m rest : List (Value × Value)} (h : MapRg w b r m rest) (hb : Below w.heap.size w w') : MapRg w' b r m rest := h.below hb
set_option maxRecDepth 100000 in
set_option maxHeartbeats 8000000 in
theorem drop_any {W w : World} {fb mb : Nat} {D : Fm} {R : Heap} (h : FaAt W w fb mb D R) (n : ByteArray) (hk : (look D n).isSome = true) (hn : n ≠ dflt) : Calls Try.prog 21 #[.pointer (some ⟨fb, 0, none⟩), .string n] w fun e w' =>
    ((D.any fun x => x.2.inh == n) = true ∧ e = .returned (.int .i64 9) ∧ FaAt W w' fb mb D R) ∨ ((D.any fun x => x.2.inh == n) = false ∧ e = .returned (.int .i64 0) ∧ FaAt W w' fb mb (delF D n) R) := by
  have HM := hide (made_yes h.fin)
  have c0 : w.cell? ⟨fb, 0, none⟩ = some (.map (some mb)) := by rw [h.fin.m.cell]; rfl
  have hl := face_lookup2 h.fin.d n
  rw [hk] at hl
  have h1 := h.below ((Below.refl _ _).alloc (Nat.le_refl _) (.cells (lookZ D n).cells.toArray 23))
  have c1 : (w.alloc (.cells (lookZ D n).cells.toArray 23)).cell? ⟨fb, 0, none⟩ = some (.map (some mb)) := by rw [h1.fin.m.cell]; rfl
  have HF := hide h1
  have z1 : (n.toList == [100, 101, 102, 97, 117, 108, 116]) = false := by
    have e : dflt.toList = [100, 101, 102, 97, 117, 108, 116] := by first | rfl | (simp [go_sem]; done) | kernel_rfl
    rw [← e, toList_beq]
    cases hb : n == dflt with
    | false => rfl
    | true => exact absurd ((MapKept.bytes_beq _ _).1 hb) hn
  have h0 : W.heap.size ≤ w.heap.size := h.bel.size
  clear h hk h1 hn
  go_enter Try.func21, Try.ntmps21
  go_wp2_with fail
  refine (Calls.mono (HM.out)) ?_
  rintro r w2 ⟨rfl, rfl⟩
  go_wp2_with (refine wpList_range_r rfl _ rfl Try.underlying58 rfl HF.out.fin.d ?_; intro r w3 hr hrg hb3)
  have HRr := hide (show r = w.heap.size + 1 by rw [hr, World.size_alloc])
  have HI := hide (show DropI W w3 fb mb r D R n D from ⟨HF.out.below hb3, hrg, fun x hx => .inl hx, fun x hx => hx⟩)
  clear hr hrg hb3 hl c0 c1 HM
  simp only [Act.put, List.setIfInBounds_toArray, List.set_cons_succ, List.set_cons_zero]
  go_loopw [] (fun wr => ∃ L, DropI W wr fb mb r D R n L) (fun wr => wr.rangeLeft mb r)
  case atStart => exact ⟨D, HI.out⟩
  case round =>
    obtain ⟨L, hI⟩ := hrel
    have hW := HF.out.bel.size
    rw [World.size_alloc] at hW
    have hr' := HRr.out
    have hrW : W.heap.size ≤ r := by
      have := h0
      omega
    clear hr' hW
    have HL := hide hI
    have hleft := hI.g.left
    clear hI
    rcases HL.out.g.next_r (P := Try.prog) (fun x : ByteArray × Att => (Value.string x.1, x.2.val)) L 0 with ⟨hE, hrun⟩ | ⟨x, w4, hM, hrun, hen⟩
    · clear hleft
      have HD := hide HL.out.f
      have HK := hide (face_keys D)
      have c1 : wr.cell? ⟨fb, 0, none⟩ = some (.map (some mb)) := by rw [HD.out.fin.m.cell]; rfl
      have HA := hide (show (D.any fun x => x.2.inh == n) = false from List.any_eq_false.2 fun x hx => by
        rcases HL.out.d x hx with h | h
        · rw [hE.out] at h
          cases h
        · rw [h]
          decide)
      clear hE
      go_wp2_with (refine wpList_delete_is rfl _ _ _ rfl Try.underlying58 Try.underlying9 rfl HD.out.fin.d HK.out (.string n) rfl (.str n) ?_; intro w5 hm5 ho5)
      have HZ := hide (HD.out.drop hm5 ho5)
      clear hm5 ho5
      go_ret
      exact .inr ⟨HA.out, rfl, HZ.out⟩
    · have HN := hide (show ∃ L' : Fm, (∀ y, y ∈ L ↔ y = x ∨ y ∈ L') ∧ L'.length + 1 = L.length ∧ MapRg w4 mb r (facePairs D) (L'.map fun x => (.string x.1, x.2.val)) ∧ FaAt W w4 fb mb D R from by
        obtain ⟨A, B, e, h1, h2⟩ := hM.out
        refine ⟨A ++ B, fun y => ?_, by rw [e]; simp; omega, h1, HL.out.f.free h2 (fun hm => ?_) hrW⟩
        · rw [e]
          simp
          exact ⟨fun h => by rcases h with h | h | h <;> simp [h], fun h => by rcases h with h | h | h <;> simp [h]⟩
        · obtain ⟨y, hy, e⟩ := List.mem_map.1 hm
          have h1 := (Own.all HF.out y hy).1.lt
          have h2 := HRr.out
          rw [World.size_alloc] at h1
          omega)
      obtain ⟨L', hL1, hL2, hg', hf'⟩ := HN.out
      have HG := hide hg'
      have HF' := hide hf'
      have HX := hide hL1
      have HY := hide hL2
      clear hL1 hL2 hg' hf' HN hM
      obtain ⟨xn, xa⟩ := x
      have HX2 := hide (show (xn, xa) ∈ D from HL.out.s _ ((HX.out _).2 (.inl rfl)))
      have HB := hide ((Below.refl w4.heap.size w4).alloc (Nat.le_refl _) (.cells xa.cells.toArray 23))
      have HF2 := hide (HF'.out.below HB.out)
      cases hq : xa.inh.toList == n.toList with
      | true =>
        have HE := hide (show (xa.inh == n) = true from by rw [← toList_beq]; exact hq)
        go_wp2
        go_ret
        exact .inl ⟨⟨xn, xa, HX2.out, HE.out⟩, rfl, HF2.out⟩
      | false =>
        have HE := hide (show (xa.inh == n) = false from by rw [← toList_beq]; exact hq)
        have HI2 := hide (show DropI W _ fb mb r D R n L' from ⟨HF2.out, HG.out.below HB.out, fun y hy => by
          rcases HL.out.d y hy with h | h
          · rcases (HX.out y).1 h with rfl | h
            · exact .inr HE.out
            · exact .inl h
          · exact .inr h, fun y hy => HL.out.s y ((HX.out y).2 (.inr hy))⟩)
        go_wp2
        refine ⟨⟨L', HI2.out⟩, ?_⟩
        have h1 := HI2.out.g.left
        have h2 := HY.out
        rw [List.length_map] at h1 hleft
        have h3 : ∀ {a b : Nat}, a = L'.length → b = L.length → a < b := fun h h' => by omega
        exact h3 h1 hleft
end Go.Proofs.Ytmjogpacajbngaa
