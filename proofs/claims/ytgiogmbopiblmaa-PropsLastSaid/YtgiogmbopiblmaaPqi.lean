/- PropsFull: plain laws. No condition but those written. -/
import Derived.Test.YtgiogmbopiblmaaPqh
namespace Go.Proofs.Ytgiogmbopiblmaa

/-- The properties put one by one. -/
def qs (a by_ : Int) (n : Nat) : List Pr := (List.range n).map fun k : Nat => (a + (k : Int) * by_, 0, (k : Int))
theorem qs_len (a by_ : Int) (n : Nat) : (qs a by_ n).length = n := by simp [qs]
theorem qs_succ (a by_ : Int) (n : Nat) : qs a by_ (n + 1) = qs a by_ n ++ [(a + (n : Int) * by_, 0, (n : Int))] := by simp [qs, List.range_succ]
theorem withP_end {x : Pr} {l : List Pr} (h : ∀ y ∈ l, y.1 < x.1) : withP l x = l ++ [x] := by
  have := withP_at (x := x) l.length (l := l) (by rw [List.take_length]; exact h)
  rw [this, List.take_length, List.drop_length]
  rfl
theorem mul_step {by_ : Int} (hb : 1 ≤ by_) {k n : Nat} (h : k < n) : (k : Int) * by_ < (n : Int) * by_ := Int.mul_lt_mul_of_pos_right (by omega) (by omega)
theorem qs_lt {a by_ : Int} (hb : 1 ≤ by_) (n : Nat) : ∀ y ∈ qs a by_ n, y.1 < a + (n : Int) * by_ := by
  intro y hy
  unfold qs at hy
  obtain ⟨k, hk, rfl⟩ := List.mem_map.1 hy
  have := mul_step hb (List.mem_range.1 hk)
  show a + (k : Int) * by_ < _
  omega
theorem qs_asc {a by_ : Int} (hb : 1 ≤ by_) : ∀ n, Asc17 (qs a by_ n)
  | 0 => by simp [qs, Asc17]
  | n + 1 => by
      rw [qs_succ]
      unfold Asc17
      refine List.pairwise_append.2 ⟨qs_asc hb n, by simp, fun x hx y hy => ?_⟩
      have : y = (a + (n : Int) * by_, 0, (n : Int)) := by simpa using hy
      subst this
      exact qs_lt hb n x hx
theorem qs_nam {a by_ : Int} (ha : 0 ≤ a) (hb : 1 ≤ by_) (n : Nat) : ∀ y ∈ qs a by_ n, (0 : Int) ≤ y.1 := by
  intro y hy
  unfold qs at hy
  obtain ⟨k, hk, rfl⟩ := List.mem_map.1 hy
  have : 0 ≤ (k : Int) * by_ := Int.mul_nonneg (by omega) (by omega)
  show 0 ≤ a + (k : Int) * by_
  omega
theorem qs_cons (a by_ : Int) (n : Nat) : qs a by_ (n + 1) = (a, 0, 0) :: (qs a by_ (n + 1)).tail := by
  unfold qs
  rw [List.range_succ_eq_map]
  simp
/-- The pieces behind so many. -/
def oneP (q : List Pr) : List Pc := if q = [] then [] else [⟨2, 4, q⟩]
theorem oneP_den (q : List Pr) (x : Nat) : den (oneP q) x = if 2 ≤ x ∧ x < 4 then q else [] := by
  unfold oneP
  by_cases h : q = []
  · rw [if_pos h, h]
    split <;> rfl
  · rw [if_neg h]
    rfl
theorem oneP_nf (q : List Pr) : Nf 0 [] (oneP q) := by
  unfold oneP
  by_cases h : q = []
  · rw [if_pos h]
    trivial
  · rw [if_neg h]
    exact ⟨Nat.zero_le _, by simp, h, fun _ => h, trivial⟩
theorem oneP_put {q : List Pr} {x : Pr} (h : ∀ y ∈ q, y.1 < x.1) : changeP 2 4 (fun q => withP q x) (oneP q) = oneP (q ++ [x]) := by
  refine change_to (oneP_nf q) (by omega) (oneP_nf _) fun y => ?_
  unfold tgt
  rw [oneP_den, oneP_den]
  split
  · exact (withP_end h).symm
  · rfl
theorem oneP_full {q : List Pr} (h : q.length ≤ 64) : fullP (oneP q) = false := by
  unfold oneP
  by_cases h0 : q = []
  · rw [if_pos h0]
    rfl
  · rw [if_neg h0]
    unfold fullP fatP
    simp
    omega
theorem oneP_good {q : List Pr} {N : Nat} (h1 : Asc17 q) (h2 : ∀ y ∈ q, (0 : Int) ≤ y.1) (h3 : q.length ≤ N) : Good (oneP q) N := by
  refine Good.of (oneP_nf q) (fun x hx => ?_) fun x => ?_
  · rw [oneP_den, if_neg (by omega)]
  · rw [oneP_den]
    split
    · exact ⟨h1, h2, h3⟩
    · exact OkL.nil N
theorem fat_full {P : List Pc} {x : Nat} (h : 64 < (den P x).length) : fullP P = true := by
  have hne : den P x ≠ [] := fun e => by rw [e] at h; simp at h
  obtain ⟨p, hp, _, _, e⟩ := den_from hne
  unfold fullP
  rw [Bool.or_eq_true]
  refine .inr (List.any_eq_true.2 ⟨p, hp, ?_⟩)
  unfold fatP
  rw [← e]
  simpa using h
section
variable {a by_ : Int} (ha : 0 ≤ a) (hb : 1 ≤ by_)
include ha hb
theorem chk_name {n : Nat} (fr en : Int) (h : 1 ≤ fr ∧ fr ≤ en ∧ en ≤ 65537) : chkE fr en (a + (n : Int) * by_) = 0 := by
  have : 0 ≤ (n : Int) * by_ := Int.mul_nonneg (by omega) (by omega)
  unfold chkE
  rw [if_pos h, if_neg (by omega)]
theorem full_put (n : Nat) (hn : n < 64) : putE (oneP (qs a by_ n)) 2 4 (a + (n : Int) * by_, 0, (n : Int)) = 0 ∧ putP (oneP (qs a by_ n)) 2 4 (a + (n : Int) * by_, 0, (n : Int)) = oneP (qs a by_ (n + 1)) := by
  refine put_ok (chk_name ha hb 2 4 (by omega)) ?_ (oneP_full (by rw [qs_len]; omega))
  rw [qs_succ]
  exact oneP_put (qs_lt hb n)
theorem full_good (n : Nat) (hn : n ≤ 64) : Good (oneP (qs a by_ n)) 64 := oneP_good (qs_asc hb n) (qs_nam ha hb n) (by rw [qs_len]; exact hn)
theorem full_over : putE (oneP (qs a by_ 64)) 3 9 (a + 64 * by_, 1, 1) = 7 ∧ putP (oneP (qs a by_ 64)) 3 9 (a + 64 * by_, 1, 1) = oneP (qs a by_ 64) := by
  have hc : chkE 3 9 (a + 64 * by_) = 0 := chk_name ha hb (n := 64) 3 9 (by omega)
  have hf : fullP (changeP (3 : Int).toNat (9 : Int).toNat (fun q => withP q (a + 64 * by_, 1, 1)) (oneP (qs a by_ 64))) = true := by
    refine fat_full (x := 3) ?_
    have h1 := (change_law (fun q => withP q (a + 64 * by_, 1, 1)) (oneP_nf (qs a by_ 64)) (show 3 ≤ 9 by omega)).2 3
    show 64 < (den (changeP 3 9 _ _) 3).length
    rw [h1]
    unfold tgt
    rw [if_pos (by omega), oneP_den, if_pos (by omega)]
    show 64 < (withP (qs a by_ 64) (a + 64 * by_, 1, 1)).length
    rw [withP_end (qs_lt hb 64), List.length_append, qs_len]
    simp
  unfold putE putP
  rw [hc, hf]
  exact ⟨rfl, rfl⟩
omit ha hb in
theorem with_first (n : Nat) : withP (qs a by_ (n + 1)) (a, 1, 1) = (a, 1, 1) :: (qs a by_ (n + 1)).tail := by
  conv => lhs; rw [qs_cons]
  unfold withP
  rw [if_neg (by simp), if_pos rfl]
/-- Behind the first of them put again. -/
def full3 (a by_ : Int) (z : List Pr) : List Pc := [⟨2, 3, qs a by_ 64⟩, ⟨3, 4, (a, 1, 1) :: (qs a by_ 64).tail⟩, ⟨4, 9, z⟩]
omit ha hb in
theorem tail_len : ((qs a by_ 64).tail).length = 63 := by rw [List.length_tail, qs_len]
omit ha hb in
theorem full3_nf {z : List Pr} (hz : z ≠ []) (hz2 : z.length < 64) : Nf 0 [] (full3 a by_ z) := by
  have h1 : qs a by_ 64 ≠ [] := fun e => by have := qs_len a by_ 64; rw [e] at this; cases this
  refine ⟨Nat.zero_le _, by simp, h1, fun _ => h1, Nat.le_refl _, by simp, by simp, fun _ e => ?_, Nat.le_refl _, by simp, hz, fun _ e => ?_, trivial⟩
  · rw [qs_cons] at e
    injection e with e _
    injection e with _ e
    injection e with e _
    cases e
  · have := congrArg List.length e
    simp only [List.length_cons, tail_len] at this
    omega
omit ha hb in
theorem full3_den (z : List Pr) (x : Nat) : den (full3 a by_ z) x = if 2 ≤ x ∧ x < 3 then qs a by_ 64 else if 3 ≤ x ∧ x < 4 then (a, 1, 1) :: (qs a by_ 64).tail else if 4 ≤ x ∧ x < 9 then z else [] := rfl
omit ha hb in
theorem full3_full {z : List Pr} (hz2 : z.length < 64) : fullP (full3 a by_ z) = false := by
  unfold fullP fatP full3
  simp only [List.length_cons, List.length_nil, List.any_cons, List.any_nil, qs_len, tail_len]
  simp
  omega
omit hb in
theorem full_again : putE (oneP (qs a by_ 64)) 3 9 (a, 1, 1) = 0 ∧ putP (oneP (qs a by_ 64)) 3 9 (a, 1, 1) = full3 a by_ [(a, 1, 1)] := by
  have hc : chkE 3 9 a = 0 := by unfold chkE; rw [if_pos (by omega), if_neg (by omega)]
  refine put_ok hc ?_ (full3_full (by simp))
  show changeP 3 9 _ _ = _
  refine change_to (oneP_nf _) (by omega) (full3_nf (by simp) (by simp)) fun x => ?_
  unfold tgt
  rw [full3_den, oneP_den]
  have hw := with_first (a := a) (by_ := by_) 63
  by_cases h1 : 2 ≤ x ∧ x < 3
  · rw [if_pos h1, if_neg (by omega), if_pos (by omega)]
  · by_cases h2 : 3 ≤ x ∧ x < 4
    · rw [if_neg h1, if_pos h2, if_pos (by omega), if_pos (by omega)]
      exact hw.symm
    · by_cases h3 : 4 ≤ x ∧ x < 9
      · rw [if_neg h1, if_neg h2, if_pos h3, if_pos (by omega), if_neg (by omega)]
        rfl
      · rw [if_neg h1, if_neg h2, if_neg h3, if_neg (by omega), if_neg (by omega)]
theorem full_last : putE (full3 a by_ [(a, 1, 1)]) 4 9 (a + 64 * by_, 1, 1) = 0 ∧ putP (full3 a by_ [(a, 1, 1)]) 4 9 (a + 64 * by_, 1, 1) = full3 a by_ [(a, 1, 1), (a + 64 * by_, 1, 1)] := by
  have hc : chkE 4 9 (a + 64 * by_) = 0 := chk_name ha hb (n := 64) 4 9 (by omega)
  refine put_ok hc ?_ (full3_full (by simp))
  show changeP 4 9 _ _ = _
  refine change_to (full3_nf (by simp) (by simp)) (by omega) (full3_nf (by simp) (by simp)) fun x => ?_
  unfold tgt
  rw [full3_den, full3_den]
  by_cases h1 : 2 ≤ x ∧ x < 3
  · rw [if_pos h1, if_neg (by omega), if_pos h1]
  · by_cases h2 : 3 ≤ x ∧ x < 4
    · rw [if_neg h1, if_pos h2, if_neg (by omega), if_neg h1, if_pos h2]
    · by_cases h3 : 4 ≤ x ∧ x < 9
      · rw [if_neg h1, if_neg h2, if_pos h3, if_pos (by omega), if_neg h1, if_neg h2, if_pos h3]
        have hw : withP [(a, 1, 1)] (a + 64 * by_, 1, 1) = [(a, 1, 1)] ++ [(a + 64 * by_, 1, 1)] := withP_end fun y hy => by
          have : y = (a, 1, 1) := by simpa using hy
          subst this
          show a < a + 64 * by_
          omega
        exact hw.symm
      · rw [if_neg h1, if_neg h2, if_neg h3, if_neg (by omega), if_neg h1, if_neg h2, if_neg h3]
theorem full3_good {z : List Pr} (h1 : Asc17 z) (h2 : ∀ y ∈ z, (0 : Int) ≤ y.1) (hz : z ≠ []) (hz2 : z.length < 64) : Good (full3 a by_ z) 64 := by
  have hq := qs_asc (a := a) hb 64
  have hn := qs_nam ha hb 64
  rw [qs_cons] at hq hn
  obtain ⟨g1, g2⟩ := List.pairwise_cons.1 hq
  refine good_list (full3_nf hz hz2) ?_
  intro p hp
  simp only [full3, List.mem_cons, List.not_mem_nil, or_false] at hp
  rcases hp with rfl | rfl | rfl
  · exact ⟨by simp, by simp, qs_asc hb 64, qs_nam ha hb 64, by rw [qs_len]; exact Nat.le_refl _⟩
  · refine ⟨by simp, by simp, List.pairwise_cons.2 ⟨g1, g2⟩, fun y hy => ?_, by simp [qs_len]⟩
    rcases List.mem_cons.1 hy with rfl | hy
    · exact ha
    · exact hn y (List.mem_cons_of_mem _ hy)
  · exact ⟨by simp, by simp, h1, h2, by simp only []; omega⟩
end
end Go.Proofs.Ytgiogmbopiblmaa
