/- The reference's table: add, Intern, Fresh. No condition but those written. -/
import Derived.Test.YtkhjdhoaephdkaaDoorNsc
namespace Go.Proofs.YtkhjdhoaephdkaaDoor
open Go.RowKit

def RSym.fresh (s : ByteArray) (i : Bool) : RSym := ⟨s, i, false, 0, 0, .slice none 0 0, []⟩
theorem info_rsym : (Tryd.prog.info? 95).map (fun i => (i.zero, i.size, i.bytes)) = some (some (.agg #[.string ⟨#[]⟩, .bool false, .bool false, .int .i64 0, .int .i64 0, .slice none 0 0]), 6, 64) := by kernel_rfl
theorem rsym_one {x : RSym} (h : x.Ok) : ∀ u ∈ x.cells, u.oneCell' = true := by
  obtain ⟨_, A, c, hv, _⟩ := h
  intro u hu
  simp [RSym.cells] at hu
  rcases hu with rfl | rfl | rfl | rfl | rfl | rfl
  all_goals first | rfl | (rw [hv]; rfl)
theorem fresh_ok (s : ByteArray) (i : Bool) : (RSym.fresh s i).Ok := ⟨RowOk.nil, none, 0, rfl, Nat.le_refl _, Nat.zero_le _⟩
section
variable {W w w' : World} {ob : Nat} {lv : Value} {O : List RSym} {R : Heap}
/-- A symbol is added. -/
theorem RAt.snoc {v' : Value} {x : RSym} (h : RAt W w ob lv O R) (hl : O.length < 16384) (hx : x.Ok) (hp : rProp x = []) (hs : Sl w' 95 6 v' (O.length + 1) (rows RSym.cells O ++ x.cells)) (ho : Only (fun b => lv.ownBlock = some b) w w') (hv : v'.ownBlock = lv.ownBlock ∨ v'.ownBlock = some w.heap.size) : RAt W (w'.setCell ⟨ob, 0, none⟩ v') ob v' (O ++ [x]) R := by
  have h1 := h.own
  unfold rTab at h1
  have h2 : Own W w (rowOf 95 6 lv O.length (rows RSym.cells O) ++ ((ob, .cells 70 #[lv]) :: (rProps O ++ R))) := h1.perm (by
    classical
    rw [List.perm_iff_count]
    intro z
    simp only [List.count_append, List.count_cons]
    omega)
  have h3 := Own.appended h2 hs ho hv
  have h4 : Own W w' ((ob, .cells 70 #[lv]) :: (rowOf 95 6 v' (O.length + 1) (rows RSym.cells O ++ x.cells) ++ (rProps O ++ R))) := h3.perm (by
    classical
    rw [List.perm_iff_count]
    intro z
    simp only [List.count_append, List.count_cons]
    omega)
  have h5 := h4.setCell 0 v'
  refine ⟨?_, by have := hs.rowOk; rwa [show O.length + 1 = (O ++ [x]).length by simp] at this, fun z hz => ?_, by simp; omega⟩
  · unfold rTab
    rw [rows_append, rows_one, show (O ++ [x]).length = O.length + 1 by simp, show rProps (O ++ [x]) = rProps O by unfold rProps; rw [List.flatMap_append, List.flatMap_cons, hp]; simp]
    rw [List.cons_append, List.append_assoc]
    exact h5
  · rcases List.mem_append.1 hz with hz | hz
    · exact h.okp z hz
    · simp at hz
      subst hz
      exact hx
set_option maxRecDepth 100000 in
set_option maxHeartbeats 4000000 in
theorem radd_full (h : RAt W w ob lv O R) (s : ByteArray) (i : Bool) (hl : 16384 ≤ O.length) : Calls Tryd.prog 68 #[.pointer (some ⟨ob, 0, none⟩), .string s, .bool i] w fun e w' => e = .returned (.tuple #[.int .i64 0, .int .i64 7]) ∧ w = w' := by
  have hlen := h.len
  obtain ⟨A, c, rfl, c0⟩ := h.c0
  obtain ⟨k, hk⟩ : ∃ k, k = O.length := ⟨_, rfl⟩
  rw [← hk] at c0 hl hlen
  have z1 : decide ((16384 : Int) ≤ (k : Int)) = true := by simp; omega
  have z2 : decide (16384 ≤ k) = true := by simpa using hl
  clear h hk hl
  go_enter Tryd.func68, Tryd.ntmps68
  go_wp2
  go_ret2
  exact ⟨rfl, rfl⟩
set_option maxRecDepth 100000 in
set_option maxHeartbeats 4000000 in
theorem radd_ok (h : RAt W w ob lv O R) (s : ByteArray) (i : Bool) (hl : ¬ 16384 ≤ O.length) : Calls Tryd.prog 68 #[.pointer (some ⟨ob, 0, none⟩), .string s, .bool i] w fun e w' => e = .returned (.tuple #[.int .i64 (O.length : Int), .int .i64 0]) ∧ ∃ lv', RAt W w' ob lv' (O ++ [RSym.fresh s i]) R := by
  have H := hide h
  obtain ⟨A, c, hv, c0⟩ := h.c0
  have hblk := h.blk
  have f0 := hblk.frozen 0
  have HBK := hide hblk
  obtain ⟨k, hk⟩ : ∃ k, k = O.length := ⟨_, rfl⟩
  have HK := hide hk
  have z1 : decide ((16384 : Int) ≤ (k : Int)) = false := by simp; omega
  have z2 : decide (16384 ≤ k) = false := by simpa [hk] using hl
  have hk2 : k < 16384 := by omega
  rw [← hk] at c0
  have HV := hide (show lv = .slice A k c by rw [hv, hk])
  have HSL := hide (fun (w' : World) (hb : Below w.heap.size w w') => (show Sl w' 95 6 (.slice A k c) k (rows RSym.cells O) from by rw [← HV.out]; have := (H.out.below hb).sl; rwa [← HK.out] at this))
  have HFO := hide (rows_cells (enc := RSym.cells) (L := [RSym.fresh s i]) fun z hz => rsym_one (by simp at hz; subst hz; exact fresh_ok s i))
  have wr1 : IntKind.i64.wrap ((k : Int) + 1 - 1) = (k : Int) := by rw [show (k : Int) + 1 - 1 = (k : Int) by omega]; exact IntWalk.i64_in _ (by omega)
  obtain ⟨i0, hi0, hz0, hz1, hz2⟩ := info_parts info_rsym
  have HI := hide hi0
  have HZ := hide hz0
  have HZ1 := hide hz1
  have HZ2 := hide hz2
  have hbel := (Below.refl w.heap.size w).alloc (Nat.le_refl _) (.cells #[.string s, .bool i, .bool false, .int .i64 0, .int .i64 0, .slice none 0 0] 95)
  have HBEL := hide hbel
  have HB1 := hide (H.out.below hbel)
  rw [← hk]
  clear h hblk hv hk hl hi0 hz0 hz1 hz2 hbel
  go_enter Tryd.func68, Tryd.ntmps68
  go_wp2_with (at_builtin; go_loud (refine wpList_append_sl rfl (.tmp 18) (.tmp 22) 68 rfl 95 i0 _ 6 64 Tryd.underlying68 HI.out HZ.out HZ1.out HZ2.out rfl _ k (rows RSym.cells O) rfl (HSL.out _ HBEL.out) _ rfl 1 (rows RSym.cells [RSym.fresh s i]) (rd_elem w 95 6 (RSym.fresh s i).cells rfl) HFO.out ?b1 ?b2 ?_))
  case b1 => unfold maxLen; omega
  case b2 => omega
  intro v' w2 hs ho hv2
  obtain ⟨A2, c2, rfl, -, -⟩ := hs.form
  have HR := hide (show RAt W (w2.setCell ⟨ob, 0, none⟩ (.slice A2 (k + 1) c2)) ob (.slice A2 (k + 1) c2) (O ++ [RSym.fresh s i]) R from by
    have h1 := HB1.out
    rw [HV.out] at h1
    refine h1.snoc (by have := HK.out; omega) (fresh_ok s i) rfl (by rw [← HK.out]; exact hs) ho (by simpa using hv2))
  have hb2 : Blk w2 ob 70 #[.slice A k c] := by
    have h1 := HB1.out
    have h2 := h1.blk.only ho (fun e => h1.ne (by rw [HV.out]; exact e) rfl)
    rwa [HV.out] at h2
  have fz := hb2.frozen 0
  have q0 : w2.cell? ⟨ob, 0, none⟩ = some (.slice A k c) := by rw [hb2.cell]; rfl
  clear hb2
  have c1 := HR.out.blk.cell 0
  have hl1 : (w2.setCell ⟨ob, 0, none⟩ (.slice A2 (k + 1) c2)).cell? ⟨ob, 0, none⟩ = some (.slice A2 (k + 1) c2) := by rw [c1]; rfl
  clear hs ho hv2 c0 c1
  go_wp2
  go_ret2
  exact ⟨rfl, _, HR.out⟩
/-- What Intern and Fresh return, and leave. -/
def rinternM (O : List RSym) (s : ByteArray) : Int × Int × List RSym :=
  if chk s = 0 then match findOf 0 O s with
    | some n => ((n : Int), 0, O)
    | none => if 16384 ≤ O.length then (0, 7, O) else ((O.length : Int), 0, O ++ [RSym.fresh s true])
  else (0, chk s, O)
def rfreshM (O : List RSym) (s : ByteArray) : Int × Int × List RSym :=
  if chk s = 0 then if 16384 ≤ O.length then (0, 7, O) else ((O.length : Int), 0, O ++ [RSym.fresh s false]) else (0, chk s, O)
def RGives (W : World) (ob : Nat) (R : Heap) (r : Int × Int × List RSym) (e : Ending) (w' : World) : Prop :=
  e = .returned (.tuple #[.int .i64 r.1, .int .i64 r.2.1]) ∧ ∃ lv', RAt W w' ob lv' r.2.2 R
theorem radd_any (h : RAt W w ob lv O R) (s : ByteArray) (i : Bool) : Calls Tryd.prog 68 #[.pointer (some ⟨ob, 0, none⟩), .string s, .bool i] w (RGives W ob R (if 16384 ≤ O.length then (0, 7, O) else ((O.length : Int), 0, O ++ [RSym.fresh s i]))) := by
  by_cases hl : 16384 ≤ O.length
  · simp only [if_pos hl]
    refine (radd_full h s i hl).mono ?_
    rintro e w' ⟨rfl, rfl⟩
    exact ⟨rfl, _, h⟩
  · simp only [if_neg hl]
    exact radd_ok h s i hl
set_option maxRecDepth 100000 in
set_option maxHeartbeats 4000000 in
theorem rintern_any (h : RAt W w ob lv O R) (s : ByteArray) (hs : s.size ≤ 100000) : Calls Tryd.prog 49 #[.pointer (some ⟨ob, 0, none⟩), .string s] w (RGives W ob R (rinternM O s)) := by
  have HC := hide (rcheck_any s w hs)
  have H := hide h
  by_cases hc : chk s = 0
  · rw [hc] at HC
    have HF := hide (fun w' (hh : RAt W w' ob lv O R) => rfind_any hh s)
    cases hf : findOf 0 O s with
    | some n =>
      have HE := hide (show rinternM O s = ((n : Int), 0, O) by unfold rinternM; rw [if_pos hc, hf])
      rw [hf] at HF
      clear h hc hf
      rw [HE.out]
      go_enter Tryd.func49, Tryd.ntmps49
      go_wp2_with fail
      refine (Calls.mono (HC.out)) ?_
      rintro r w2 ⟨rfl, b2⟩
      have H2 := hide (H.out.below b2)
      clear b2
      go_wp2_with fail
      refine (Calls.mono (HF.out _ H2.out)) ?_
      rintro r w3 ⟨rfl, rfl⟩
      go_wp2
      go_ret2
      exact ⟨rfl, _, H2.out⟩
    | none =>
      have HE := hide (show rinternM O s = if 16384 ≤ O.length then (0, 7, O) else ((O.length : Int), 0, O ++ [RSym.fresh s true]) by unfold rinternM; rw [if_pos hc, hf])
      rw [hf] at HF
      have HA := hide (fun w' (hh : RAt W w' ob lv O R) => HE.out ▸ radd_any hh s true)
      obtain ⟨r1, r2, r3, hr⟩ : ∃ r1 r2 r3, rinternM O s = (r1, r2, r3) := ⟨_, _, _, rfl⟩
      rw [hr] at HA ⊢
      clear h hc hf HE hr
      go_enter Tryd.func49, Tryd.ntmps49
      go_wp2_with fail
      refine (Calls.mono (HC.out)) ?_
      rintro r w2 ⟨rfl, b2⟩
      have H2 := hide (H.out.below b2)
      clear b2
      go_wp2_with fail
      refine (Calls.mono (HF.out _ H2.out)) ?_
      rintro r w3 ⟨rfl, rfl⟩
      go_wp2_with fail
      refine Calls.mono (HA.out _ H2.out) ?_
      rintro r w4 ⟨rfl, h4⟩
      have H4 := hide h4
      clear h4
      go_wp2
      go_ret2
      exact ⟨rfl, H4.out⟩
  · obtain ⟨z, hz⟩ : ∃ z, z = chk s := ⟨_, rfl⟩
    have z1 : (z != 0) = true := by rw [hz]; simpa using hc
    have z2 : decide (z = 0) = false := by rw [hz]; simpa using hc
    have z3 : (z == 0) = false := by rw [hz]; simpa using hc
    have HE := hide (show rinternM O s = (0, z, O) by unfold rinternM; rw [if_neg hc, hz])
    rw [← hz] at HC
    clear h hc hz
    rw [HE.out]
    go_enter Tryd.func49, Tryd.ntmps49
    go_wp2_with fail
    refine (Calls.mono (HC.out)) ?_
    rintro r w2 ⟨rfl, b2⟩
    have H2 := hide (H.out.below b2)
    clear b2
    go_wp2
    go_ret2
    exact ⟨rfl, _, H2.out⟩
set_option maxRecDepth 100000 in
set_option maxHeartbeats 4000000 in
theorem rfresh_any (h : RAt W w ob lv O R) (s : ByteArray) (hs : s.size ≤ 100000) : Calls Tryd.prog 50 #[.pointer (some ⟨ob, 0, none⟩), .string s] w (RGives W ob R (rfreshM O s)) := by
  have HC := hide (rcheck_any s w hs)
  have H := hide h
  by_cases hc : chk s = 0
  · rw [hc] at HC
    have HE := hide (show rfreshM O s = if 16384 ≤ O.length then (0, 7, O) else ((O.length : Int), 0, O ++ [RSym.fresh s false]) by unfold rfreshM; rw [if_pos hc])
    have HA := hide (fun w' (hh : RAt W w' ob lv O R) => HE.out ▸ radd_any hh s false)
    obtain ⟨r1, r2, r3, hr⟩ : ∃ r1 r2 r3, rfreshM O s = (r1, r2, r3) := ⟨_, _, _, rfl⟩
    rw [hr] at HA ⊢
    clear h hc HE hr
    go_enter Tryd.func50, Tryd.ntmps50
    go_wp2_with fail
    refine (Calls.mono (HC.out)) ?_
    rintro r w2 ⟨rfl, b2⟩
    have H2 := hide (H.out.below b2)
    clear b2
    go_wp2_with fail
    refine Calls.mono (HA.out _ H2.out) ?_
    rintro r w4 ⟨rfl, h4⟩
    have H4 := hide h4
    clear h4
    go_wp2
    go_ret2
    exact ⟨rfl, H4.out⟩
  · obtain ⟨z, hz⟩ : ∃ z, z = chk s := ⟨_, rfl⟩
    have z1 : (z != 0) = true := by rw [hz]; simpa using hc
    have z2 : decide (z = 0) = false := by rw [hz]; simpa using hc
    have z3 : (z == 0) = false := by rw [hz]; simpa using hc
    have HE := hide (show rfreshM O s = (0, z, O) by unfold rfreshM; rw [if_neg hc, hz])
    rw [← hz] at HC
    clear h hc hz
    rw [HE.out]
    go_enter Tryd.func50, Tryd.ntmps50
    go_wp2_with fail
    refine (Calls.mono (HC.out)) ?_
    rintro r w2 ⟨rfl, b2⟩
    have H2 := hide (H.out.below b2)
    clear b2
    go_wp2
    go_ret2
    exact ⟨rfl, _, H2.out⟩
end
end Go.Proofs.YtkhjdhoaephdkaaDoor
