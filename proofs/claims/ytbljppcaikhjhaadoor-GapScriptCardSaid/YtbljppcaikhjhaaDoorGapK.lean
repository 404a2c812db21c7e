/- The walk of Delete. No condition but those written. -/
import Derived.Test.YtbljppcaikhjhaaDoorGapJ
namespace Go.Proofs.YtbljppcaikhjhaaDoor
open Go.RowKit

/-- The list of line feeds while its tail is turned. -/
def turnF (f : Nat → Nat) (F : List Nat) (p k : Nat) : List Nat := F.take p ++ ((F.drop p).take (k - p)).map f ++ F.drop k
theorem turnF_start (f : Nat → Nat) (F : List Nat) (p : Nat) : turnF f F p p = F := by
  unfold turnF
  rw [Nat.sub_self, List.take_zero, List.map_nil, List.append_nil, List.take_append_drop]
theorem turnF_len {f : Nat → Nat} {F : List Nat} {p k : Nat} (h1 : p ≤ k) (h2 : k ≤ F.length) : (turnF f F p k).length = F.length := by
  unfold turnF
  simp only [List.length_append, List.length_map, List.length_take, List.length_drop]
  omega
theorem turnF_at {f : Nat → Nat} {F : List Nat} {p k : Nat} (h1 : p ≤ k) (h2 : k < F.length) : (turnF f F p k)[k]? = F[k]? := by
  unfold turnF
  rw [List.getElem?_append_right (by simp only [List.length_append, List.length_map, List.length_take, List.length_drop]; omega), List.getElem?_drop]
  congr 1
  simp only [List.length_append, List.length_map, List.length_take, List.length_drop]
  omega
theorem turnF_step {f : Nat → Nat} {F : List Nat} {p k x : Nat} (h1 : p ≤ k) (hx : F[k]? = some x) : (turnF f F p k).set k (f x) = turnF f F p (k + 1) := by
  have h2 := (List.getElem?_eq_some_iff.1 hx).1
  apply List.ext_getElem?
  intro i
  rw [List.getElem?_set, turnF_len h1 (by omega)]
  have e : ∀ k, p ≤ k → k ≤ F.length → (turnF f F p k)[i]? = if i < p then F[i]? else if i < k then (F[i]?).map f else F[i]? := by
    intro k hk hk2
    unfold turnF
    rw [List.append_assoc, List.getElem?_append, List.length_take, Nat.min_eq_left (by omega)]
    split
    · rw [List.getElem?_take, if_pos (by assumption)]
    · rw [List.getElem?_append, List.length_map, List.length_take, List.length_drop, Nat.min_eq_left (by omega)]
      split
      · rw [if_pos (by omega), List.getElem?_map, List.getElem?_take, if_pos (by omega), List.getElem?_drop]
        congr 2
        omega
      · rw [if_neg (by omega), List.getElem?_drop]
        congr 1
        omega
  rw [e k h1 (by omega), e (k + 1) (by omega) (by omega)]
  by_cases hik : k = i
  · subst hik
    rw [if_pos rfl, if_pos (by omega), if_neg (by omega), if_pos (by omega), hx]
    rfl
  · rw [if_neg hik]
    by_cases h3 : i < p
    · rw [if_pos h3, if_pos h3]
    · rw [if_neg h3, if_neg h3]
      by_cases h4 : i < k
      · rw [if_pos h4, if_pos (by omega)]
      · rw [if_neg h4, if_neg (by omega)]
theorem turnF_end (f : Nat → Nat) (F : List Nat) (p : Nat) : turnF f F p F.length = F.take p ++ (F.drop p).map f := by
  unfold turnF
  rw [List.drop_length, List.append_nil, List.take_of_length_le (l := F.drop p) (by rw [List.length_drop]; omega)]
/-- The line feeds behind a deletion. -/
theorem feeds_delete (A D Z : List Nat) : ((feeds 1 (A ++ D ++ Z)).take (feeds 1 A).length ++ (feeds 1 (A ++ D ++ Z)).drop (feeds 1 (A ++ D)).length).take (feeds 1 A).length ++ (((feeds 1 (A ++ D ++ Z)).take (feeds 1 A).length ++ (feeds 1 (A ++ D ++ Z)).drop (feeds 1 (A ++ D)).length).drop (feeds 1 A).length).map (· - D.length) = feeds 1 (A ++ Z) := by
  have e1 : (feeds 1 (A ++ D ++ Z)).take (feeds 1 A).length = feeds 1 A := by rw [List.append_assoc, feeds_append 1 A, List.take_left]
  have e2 : (feeds 1 (A ++ D ++ Z)).drop (feeds 1 (A ++ D)).length = (feeds (1 + A.length) Z).map (· + D.length) := by
    rw [feeds_append 1 (A ++ D) Z, List.drop_left, List.length_append, ← Nat.add_assoc, feeds_shift]
  rw [e1, e2, List.take_left, List.drop_left, feeds_append 1 A Z, List.map_map]
  congr 1
  conv => rhs; rw [← List.map_id (feeds (1 + A.length) Z)]
  apply List.map_congr_left
  intro q _
  simp
theorem feeds_count2 (F A D Z L : List Nat) (hL : L = A ++ D ++ Z) (hF : F = feeds 1 L) : F.countP (· < A.length + 1) = (feeds 1 A).length ∧ F.countP (· < A.length + 1 + D.length) = (feeds 1 (A ++ D)).length ∧ (feeds 1 A).length ≤ (feeds 1 (A ++ D)).length ∧ (feeds 1 (A ++ D)).length ≤ F.length := by
  subst hF hL
  refine ⟨?_, ?_, ?_, ?_⟩
  · rw [List.append_assoc]
    exact feeds_count A (D ++ Z)
  · have := feeds_count (A ++ D) Z
    rw [List.length_append] at this
    rw [← this]
    congr 1
    funext q
    congr 1
    rw [show A.length + 1 + D.length = A.length + D.length + 1 by omega]
  · rw [feeds_append, List.length_append]
    omega
  · rw [feeds_append 1 (A ++ D), List.length_append]
    omega
section
variable {W w w' : World} {b : Gb} {L : List Nat} {R : Heap}
theorem GapAt.setEnd (h : GapAt W w b R) (en : Nat) (h1 : b.g.st ≤ en) (h2 : en ≤ b.g.B.length) : GapAt W (w.setCell ⟨b.tb, 2, none⟩ (.int .i64 (en : Int))) { b with g := { b.g with en := en } } R := by
  have k1 := h.own
  unfold Gb.heap at k1
  exact ⟨Own.setCell k1 2 (.int .i64 (en : Int)), h.okf, h1, h2, h.lim⟩
def delErr (L : List Nat) (x y : Int) : Int := if spanB L x y then 0 else 3
def delL (L : List Nat) (x y : Int) : List Nat := if spanB L x y then L.take (x - 1).toNat ++ L.drop (y - 1).toNat else L
set_option maxRecDepth 100000 in
set_option maxHeartbeats 4000000 in
theorem delete_bad (h : TextAt W w b L R) (x y : Int) (he : spanB L x y = false) : Calls Tryd.prog 22 #[.pointer (some ⟨b.tb, 0, none⟩), .int .i64 x, .int .i64 y] w fun e w' => e = .returned (.int .i64 3) ∧ TextAt W w' b L R := by
  have HN := hide (none_any h.gap)
  have HS := hide (span_any h x y)
  have H := hide h
  rw [he] at HS
  clear h he
  go_enter Tryd.func22, Tryd.ntmps22
  go_wp2_with fail
  refine (Calls.mono (HN.out)) ?_
  rintro r w2 ⟨rfl, rfl⟩
  go_wp2_with fail
  refine (Calls.mono (HS.out)) ?_
  rintro r w3 ⟨rfl, q, rfl⟩
  go_wp2
  go_ret
  exact ⟨rfl, H.out.gap.drewN _, H.out.ok⟩
theorem del_final {tb bb bo bc : Nat} {fv : Value} {F B : List Nat} {en a d : Nat} (h : GapAt W w ⟨tb, bb, bo, bc, fv, ⟨B, a, en, F⟩⟩ R) (hsz : L.length ≤ 65536) (hL : ∀ c ∈ L, okc c) (hl : a + d ≤ L.length)
    (hF : F = feeds 1 (L.take a ++ L.drop (a + d))) (hB : B.take a = L.take a) (hD : B.drop en = L.drop (a + d)) : TextAt W w ⟨tb, bb, bo, bc, fv, ⟨B, a, en, F⟩⟩ (L.take a ++ L.drop (a + d)) R := by
  refine ⟨h, ⟨h.le1, h.le2, h.lim, ?_, hF, ?_, ?_⟩⟩
  · show B.take a ++ B.drop en = _
    rw [hB, hD]
  · simp
    omega
  · intro c hc
    rcases List.mem_append.1 hc with hc | hc
    · exact hL c (List.mem_of_mem_take hc)
    · exact hL c (List.mem_of_mem_drop hc)
end
end Go.Proofs.YtbljppcaikhjhaaDoor
