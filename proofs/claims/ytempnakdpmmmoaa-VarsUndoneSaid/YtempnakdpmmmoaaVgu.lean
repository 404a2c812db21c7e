/- VarsUndone, plainly: since a copy was made, what bindings put back is what was there. No condition but those written. -/
import Derived.Test.YtempnakdpmmmoaaVgs
namespace Go.Proofs.Ytempnakdpmmmoaa
open Go.RowKit

section
variable {W w w' : World} {vb : Nat} {v : Vw} {R : Heap}
theorem VZ.copy (h : VZ W w vb v R) : Calls Try.prog 31 #[.pointer (some ⟨vb, 0, none⟩)] w fun r w' => ∃ ob H, r = .returned (.pointer (some ⟨ob, 0, none⟩)) ∧ VH ob v H ∧ VZ W w' vb v (H ++ R) := by
  obtain ⟨b, s, rfl, hV, ok, rfl⟩ := h.at_
  refine (copy_any hV ok).mono ?_
  rintro r w' ⟨bo, so, rfl, h1, h2, h3⟩
  refine ⟨bo.vb, _, rfl, ⟨bo, so, rfl, rfl, h2, h3, h1.sl.rowOk⟩, (show VH b.vb s.view (vrest b s) from ⟨b, s, rfl, rfl, ok, rfl, hV.sl.rowOk⟩).vz (h1.own.perm ?_)⟩
  have hb : so.notes = s.notes := congrArg Vw.B h3
  refine (vrest_perm bo so _).trans ?_
  rw [hb]
  show List.Perm _ (vrest b s ++ (noteHeap s.notes ++ (vrest bo so ++ R)))
  classical
  rw [List.perm_iff_count]
  intro x
  simp only [List.count_append]
  omega
end

/-! ### The law, plainly -/
/-- v: the variables, u: the copy; N: the bindings since. -/
structure Unn (u v : Vw) (N : List Nte) : Prop where
  B : v.B = u.B ++ N
  m : v.m = u.m
  l : ∀ k n, (v.l k n).isSome = (u.l k n).isSome
  d : ∀ n, back N 0 0 n (v.d n) = u.d n
  e : ∀ k n, (v.l k n).map (back N 0 k n) = u.l k n
/-- A place is among those of the bindings. -/
def Plcd (N : List Nte) (k n : Int) : Prop := ∃ x ∈ N, x.s = k ∧ x.n = n
theorem back_in {N : List Nte} {k n : Int} (h : Plcd N k n) (c c' : Cel) : back N 0 k n c = back N 0 k n c' := by
  obtain ⟨x, hx, rfl, rfl⟩ := h
  unfold back
  have : ((N.drop 0).find? fun y => x.n == y.n && x.s == y.s).isSome = true := by
    rw [List.find?_isSome]
    exact ⟨x, by simpa using hx, by simp⟩
  cases hf : (N.drop 0).find? fun y => x.n == y.n && x.s == y.s with
  | none => rw [hf] at this; cases this
  | some y => rfl
theorem back_snoc (N : List Nte) (x : Nte) (k n : Int) (c : Cel) : back (N ++ [x]) 0 k n c = back N 0 k n (if k = x.s ∧ n = x.n then x.c else c) := by
  unfold back
  rw [List.drop_zero, List.drop_zero, List.find?_append]
  cases hf : N.find? fun y => n == y.n && k == y.s with
  | some y => rfl
  | none =>
    by_cases h : k = x.s ∧ n = x.n
    · rw [if_pos h]
      obtain ⟨rfl, rfl⟩ := h
      simp
    · rw [if_neg h]
      have : (n == x.n && k == x.s) = false := by
        rw [Bool.and_eq_false_iff]
        by_cases h1 : n = x.n
        · exact .inr (by simpa using fun e => h ⟨e, h1⟩)
        · exact .inl (by simpa using h1)
      simp [this]
theorem Unn.refl (u : Vw) : Unn u u [] := by
  refine ⟨(List.append_nil _).symm, rfl, fun _ _ => rfl, fun n => rfl, fun k n => ?_⟩
  cases u.l k n <;> rfl
section
variable {u v : Vw} {N : List Nte}
theorem Unn.scp (h : Unn u v N) (k : Int) : Unn u (v.scp k) N := ⟨h.B, h.m, h.l, h.d, h.e⟩
theorem Unn.ssc (h : Unn u v N) (k : Int) : Unn u (v.ssc k) N := by
  unfold Vw.ssc
  split
  · exact h.scp k
  · exact h
/-- What is put at a place of the bindings is put back. -/
theorem Unn.put (h : Unn u v N) {k n : Int} (hl : k = 0 ∨ (v.l k n).isSome = true) (hp : Plcd N k n) (c : Cel) : Unn u (v.put k n c) N := by
  by_cases hk : k = 0
  · subst hk
    rw [put_zero]
    refine ⟨h.B, h.m, h.l, fun q => ?_, h.e⟩
    show back N 0 0 q (if q = n then c else v.d q) = u.d q
    by_cases hq : q = n
    · subst hq
      rw [if_pos rfl, back_in hp c (v.d q)]
      exact h.d q
    · rw [if_neg hq]
      exact h.d q
  · rw [put_scope hk]
    have hs := hl.resolve_left hk
    refine ⟨h.B, h.m, fun j q => ?_, h.d, fun j q => ?_⟩
    · show (if j = k ∧ q = n then some c else v.l j q).isSome = _
      by_cases hj : j = k ∧ q = n
      · rw [if_pos hj, hj.1, hj.2, ← h.l, hs]
        rfl
      · rw [if_neg hj]
        exact h.l j q
    · show (if j = k ∧ q = n then some c else v.l j q).map (back N 0 j q) = u.l j q
      by_cases hj : j = k ∧ q = n
      · rw [if_pos hj]
        obtain ⟨rfl, rfl⟩ := hj
        rw [← h.e]
        cases hv : v.l j q with
        | none => rw [hv] at hs; cases hs
        | some c' =>
          show some _ = some _
          rw [back_in hp c c']
      · rw [if_neg hj]
        exact h.e j q
/-- A binding. -/
theorem Unn.bind (h : Unn u v N) (ok : v.Ok) (n : Int) (c : Cel) (g1 g2 : Nat) : Unn u ((v.put (v.plc n) n c).note ⟨v.now n, n, v.plc n, g1, g2⟩) (N ++ [⟨v.now n, n, v.plc n, g1, g2⟩]) := by
  have hB : (v.put (v.plc n) n c).B = v.B := by unfold Vw.put; split <;> rfl
  have hm : (v.put (v.plc n) n c).m = v.m := by unfold Vw.put; split <;> rfl
  cases hl : v.l v.S n with
  | none =>
    have hp : v.plc n = 0 := by unfold Vw.plc; rw [hl]; rfl
    have hw : v.now n = v.d n := by unfold Vw.now; rw [hl]; rfl
    rw [hp, hw, put_zero]
    refine ⟨?_, h.m, h.l, fun q => ?_, fun j q => ?_⟩
    · show v.B ++ [_] = _
      rw [h.B, List.append_assoc]
    · rw [back_snoc]
      show back N 0 0 q (if (0 : Int) = 0 ∧ q = n then v.d n else (if q = n then c else v.d q)) = u.d q
      by_cases hq : q = n
      · rw [if_pos ⟨rfl, hq⟩, ← hq]
        exact h.d q
      · rw [if_neg fun e => hq e.2, if_neg hq]
        exact h.d q
    · show (v.l j q).map (back (N ++ [_]) 0 j q) = u.l j q
      rw [← h.e j q]
      cases hv : v.l j q with
      | none => rfl
      | some c' =>
        have := (ok.lr j q (by rw [hv]; rfl)).1
        show some _ = some _
        rw [back_snoc]
        show some (back N 0 j q (if j = 0 ∧ q = n then _ else c')) = _
        rw [if_neg fun e => by have := e.1; omega]
  | some c0 =>
    have hp : v.plc n = v.S := by unfold Vw.plc; rw [hl]; rfl
    have hw : v.now n = c0 := by unfold Vw.now; rw [hl]; rfl
    have hk := (ok.lr v.S n (by rw [hl]; rfl)).1
    rw [hp, hw, put_scope (by omega)]
    refine ⟨?_, h.m, fun j q => ?_, fun q => ?_, fun j q => ?_⟩
    · show v.B ++ [_] = _
      rw [h.B, List.append_assoc]
    · show (if j = v.S ∧ q = n then some c else v.l j q).isSome = _
      by_cases hj : j = v.S ∧ q = n
      · rw [if_pos hj, hj.1, hj.2, ← h.l, hl]
        rfl
      · rw [if_neg hj]
        exact h.l j q
    · rw [back_snoc]
      show back N 0 0 q (if (0 : Int) = v.S ∧ q = n then c0 else v.d q) = u.d q
      rw [if_neg fun e => by have := e.1; omega]
      exact h.d q
    · show (if j = v.S ∧ q = n then some c else v.l j q).map (back (N ++ [_]) 0 j q) = u.l j q
      rw [← h.e j q]
      by_cases hj : j = v.S ∧ q = n
      · rw [if_pos hj]
        obtain ⟨rfl, rfl⟩ := hj
        rw [hl]
        show some _ = some _
        rw [back_snoc]
        show some (back N 0 _ _ (if v.S = v.S ∧ q = q then c0 else c)) = _
        rw [if_pos ⟨rfl, rfl⟩]
      · rw [if_neg hj]
        cases v.l j q with
        | none => rfl
        | some c' =>
          show some _ = some _
          rw [back_snoc]
          show some (back N 0 j q (if j = v.S ∧ q = n then _ else c')) = _
          rw [if_neg hj]
theorem Plcd.more {k n : Int} (h : Plcd N k n) (x : Nte) : Plcd (N ++ [x]) k n := by
  obtain ⟨y, hy, h1⟩ := h
  exact ⟨y, List.mem_append_left _ hy, h1⟩
/-- The place that a variable has in a scope of the copy. -/
def plcU (u : Vw) (k n : Int) : Int := if (u.l k n).isSome then k else 0
theorem Unn.plc (h : Unn u v N) (n : Int) : v.plc n = plcU u v.S n := by
  unfold Vw.plc plcU
  rw [h.l]
theorem Unn.set (h : Unn u v N) {n : Int} (hp : Plcd N (plcU u v.S n) n) (c : Cel) : Unn u (v.set n c) N := by
  unfold Vw.set
  split
  · refine h.put ?_ (by rw [h.plc]; exact hp) c
    unfold Vw.plc
    split
    · next hs => exact .inr hs
    · exact .inl rfl
  · exact h
theorem Unn.len (h : Unn u v N) : u.B.length ≤ v.B.length := by rw [h.B, List.length_append]; omega
/-- Unbinding to the depth of the copy gives the copy. -/
theorem Unn.done (h : Unn u v N) : ((v.unb u.B.length).scp u.S) = u := by
  have hb : ∀ k n c, back v.B u.B.length k n c = back N 0 k n c := fun k n c => by
    unfold back
    rw [h.B, List.drop_left, List.drop_zero]
  refine Vw.ext (funext fun q => ?_) (funext fun k => funext fun n => ?_) h.m ?_ rfl
  · show back v.B u.B.length 0 q (v.d q) = u.d q
    rw [hb]
    exact h.d q
  · show (v.l k n).map (back v.B u.B.length k n) = u.l k n
    rw [← h.e]
    cases v.l k n with
    | none => rfl
    | some c => show some _ = some _; rw [hb]
  · show v.B.take u.B.length = u.B
    rw [h.B, List.take_left]
end
end Go.Proofs.Ytempnakdpmmmoaa
