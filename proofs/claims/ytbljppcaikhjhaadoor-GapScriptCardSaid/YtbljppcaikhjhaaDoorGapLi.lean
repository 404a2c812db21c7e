/- GapLines: the walk. No condition but those written. -/
import Derived.Test.YtbljppcaikhjhaaDoorGapLn
namespace Go.Proofs.YtbljppcaikhjhaaDoor
open Go.RowKit

/-- The string of the lines so far. -/
theorem upTo_first (L : List Nat) : upTo L 1 = (L.drop (lineA L 1 - 1)).take (lineZ L 1 - lineA L 1) := by
  unfold upTo
  rw [line_first]
  rfl
theorem upTo_last (L : List Nat) : upTo L (linesN L) = L := by
  unfold upTo
  rw [line_last]
  simp
/-- What Slice gives at a line. -/
theorem slice_line {L : List Nat} {n : Nat} (h1 : 1 ≤ n) (h2 : n ≤ linesN L) : sliceR L (lineA L n : Int) (lineZ L n : Int) = .tuple #[.string (strOf ((L.drop (lineA L n - 1)).take (lineZ L n - lineA L n))), .int .i64 0] := by
  have hs := line_span h1 h2
  unfold sliceR
  rw [show spanB L (lineA L n : Int) (lineZ L n : Int) = true by unfold spanB; simp; omega, if_pos rfl, show ((lineA L n : Int) - 1).toNat = lineA L n - 1 by omega, show ((lineZ L n : Int) - (lineA L n : Int)).toNat = lineZ L n - lineA L n by omega]
/-- Find finds no line feed within a line. -/
theorem find_line {L : List Nat} {n : Nat} (h1 : 1 ≤ n) (h2 : n ≤ linesN L) {v : Value} (h : FirstAt L 10 (max (lineA L n : Int) 1) (min (lineZ L n : Int) ((L.length : Int) + 1)) v) : v = .tuple #[.int .i64 0, .bool false] := by
  have hs := line_span h1 h2
  rcases h with ⟨p, rfl, k1, k2, k3, _⟩ | ⟨rfl, _⟩
  · exact absurd k3 (line_free h1 h2 p (by omega) (by omega))
  · rfl
theorem lineR_in {L : List Nat} {n : Nat} (h1 : 1 ≤ n) (h2 : n ≤ linesN L) : lineR L (n : Int) = .tuple #[.int .i64 (lineA L n : Int), .int .i64 (lineZ L n : Int), .bool true] := by
  unfold lineR
  rw [if_pos (by omega), Int.toNat_natCast]
theorem lineR_out {L : List Nat} {n : Int} (h : n < 1 ∨ (linesN L : Int) < n) : lineR L n = .tuple #[.int .i64 0, .int .i64 0, .bool false] := by
  unfold lineR
  rw [if_neg (by omega)]
/-- The line of a place holds it. -/
theorem lineOf_in {L : List Nat} {k : Nat} (h1 : 1 ≤ k) (h2 : k ≤ L.length + 1) : 1 ≤ lineOf L k ∧ lineOf L k ≤ linesN L ∧ lineA L (lineOf L k) ≤ k ∧ k ≤ lineZ L (lineOf L k) := by
  have hc : (feeds 1 L).countP (· < k) ≤ (feeds 1 L).length := List.countP_le_length
  have hs := feeds_lt 1 L
  -- the feeds below k are the first ones
  have key : ∀ (F : List Nat), F.Pairwise (· < ·) → ∀ i (hi : i < F.length), (F[i] < k ↔ i < F.countP (· < k)) := by
    intro F
    induction F with
    | nil => intro _ i hi; simp at hi
    | cons f F ih =>
      intro hp i hi
      have hp2 := (List.pairwise_cons.1 hp)
      by_cases hf : f < k
      · rw [List.countP_cons_of_pos (by simpa using hf)]
        cases i with
        | zero => simp [hf]
        | succ i =>
          have := ih hp2.2 i (by simpa using hi)
          simp only [List.getElem_cons_succ]
          rw [this]
          omega
      · have h0 : F.countP (· < k) = 0 := List.countP_eq_zero.2 fun x hx => by
          have := hp2.1 x hx
          simp
          omega
        rw [List.countP_cons_of_neg (by simpa using hf), h0]
        cases i with
        | zero => simp [hf]
        | succ i =>
          have := hp2.1 (F[i]'(by simpa using hi)) (List.getElem_mem _)
          simp only [List.getElem_cons_succ]
          omega
  obtain ⟨c, hcc⟩ : ∃ c, c = (feeds 1 L).countP (· < k) := ⟨_, rfl⟩
  have e : lineOf L k = c + 1 := by unfold lineOf; rw [hcc]
  rw [e]
  rw [← hcc] at hc
  refine ⟨by omega, by unfold linesN; omega, ?_, ?_⟩
  · unfold lineA
    split
    · exact h1
    · obtain ⟨f1, _, _⟩ := feed_at (show c + 1 - 2 < (feeds 1 L).length by omega) 0
      rw [f1]
      have := (key _ hs (c + 1 - 2) (by omega)).2 (by omega)
      omega
  · unfold lineZ
    by_cases hl : c < (feeds 1 L).length
    · obtain ⟨f1, _, _⟩ := feed_at (show c + 1 - 1 < (feeds 1 L).length by omega) (L.length + 1)
      rw [f1]
      have h3 : ¬ (feeds 1 L)[c] < k := fun h => by
        have := (key _ hs c hl).1 h
        omega
      have : (feeds 1 L)[c + 1 - 1] = (feeds 1 L)[c] := rfl
      omega
    · rw [List.getD, List.getElem?_eq_none (by omega)]
      exact h2
end Go.Proofs.YtbljppcaikhjhaaDoor
