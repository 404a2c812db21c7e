/- The lines of a text: plain laws. No condition but those written. -/
import Derived.Test.YtbljppcaikhjhaaDoorGapAc
namespace Go.Proofs.YtbljppcaikhjhaaDoor
open Go.RowKit

theorem feeds_iff (p : Nat) (L : List Nat) (q : Nat) : q ∈ feeds p L ↔ ∃ i, q = p + i ∧ L[i]? = some 10 := by
  induction L generalizing p with
  | nil => simp [feeds]
  | cons c L ih =>
    have key : (∃ i, q = p + i ∧ (c :: L)[i]? = some 10) ↔ (q = p ∧ c = 10) ∨ ∃ i, q = p + 1 + i ∧ L[i]? = some 10 := by
      constructor
      · rintro ⟨i, h1, h2⟩
        cases i with
        | zero => exact .inl ⟨by omega, by simpa using h2⟩
        | succ i => exact .inr ⟨i, by omega, by simpa using h2⟩
      · rintro (⟨h1, h2⟩ | ⟨i, h1, h2⟩)
        · exact ⟨0, by omega, by simp [h2]⟩
        · exact ⟨i + 1, by omega, by simpa using h2⟩
    rw [key]
    unfold feeds
    split
    · rename_i hc
      rw [List.mem_cons, ih]
      constructor
      · rintro (h | h)
        · exact .inl ⟨h, hc⟩
        · exact .inr h
      · rintro (h | h)
        · exact .inl h.1
        · exact .inr h
    · rename_i hc
      rw [ih]
      constructor
      · exact .inr
      · rintro (h | h)
        · exact absurd h.2 hc
        · exact h
theorem charR_feed {L : List Nat} {q : Nat} (h1 : 1 ≤ q) (h2 : q ≤ L.length) : charR L (q : Int) = 10 ↔ q ∈ feeds 1 L := by
  have e : L[q - 1]? = some (L.getD (q - 1) 0) := by
    rw [List.getD, List.getElem?_eq_getElem (by omega)]
    rfl
  unfold charR
  rw [if_pos (by omega), show ((q : Int) - 1).toNat = q - 1 by omega, feeds_iff]
  constructor
  · intro h
    exact ⟨q - 1, by omega, by rw [e]; congr 1; omega⟩
  · rintro ⟨i, h3, h4⟩
    obtain rfl : i = q - 1 := by omega
    rw [e] at h4
    injection h4 with h4
    rw [h4]
    rfl
/-- The k-th line feed. -/
theorem feed_at {L : List Nat} {k : Nat} (h : k < (feeds 1 L).length) (d : Nat) : (feeds 1 L).getD k d = (feeds 1 L)[k] ∧ 1 ≤ (feeds 1 L)[k] ∧ (feeds 1 L)[k] ≤ L.length := by
  have h1 := feeds_mem 1 L (feeds 1 L)[k] (List.getElem_mem h)
  exact ⟨by rw [List.getD, List.getElem?_eq_getElem h]; rfl, by omega, by omega⟩
theorem feed_mono {L : List Nat} {i j : Nat} (hij : i < j) (h : j < (feeds 1 L).length) : (feeds 1 L)[i] < (feeds 1 L)[j] := List.pairwise_iff_getElem.1 (feeds_lt 1 L) i j (by omega) h hij
theorem line_span {L : List Nat} {n : Nat} (h1 : 1 ≤ n) (h2 : n ≤ linesN L) : 1 ≤ lineA L n ∧ lineA L n ≤ lineZ L n ∧ lineZ L n ≤ L.length + 1 := by
  unfold linesN at h2
  unfold lineA lineZ
  by_cases hz : n - 1 < (feeds 1 L).length
  · obtain ⟨e1, e2, e3⟩ := feed_at hz (L.length + 1)
    rw [e1]
    split
    · exact ⟨by omega, by omega, by omega⟩
    · obtain ⟨f1, f2, f3⟩ := feed_at (show n - 2 < (feeds 1 L).length by omega) 0
      rw [f1]
      have := feed_mono (show n - 2 < n - 1 by omega) hz
      exact ⟨by omega, by omega, by omega⟩
  · have ez : (feeds 1 L).getD (n - 1) (L.length + 1) = L.length + 1 := by
      rw [List.getD, List.getElem?_eq_none (by omega)]
      rfl
    rw [ez]
    split
    · exact ⟨by omega, by omega, by omega⟩
    · obtain ⟨f1, f2, f3⟩ := feed_at (show n - 2 < (feeds 1 L).length by omega) 0
      rw [f1]
      exact ⟨by omega, by omega, by omega⟩
theorem line_next {L : List Nat} {n : Nat} (h1 : 1 ≤ n) (h2 : n < linesN L) : lineA L (n + 1) = lineZ L n + 1 ∧ L[lineZ L n - 1]? = some 10 := by
  unfold linesN at h2
  unfold lineA lineZ
  obtain ⟨e1, e2, e3⟩ := feed_at (show n - 1 < (feeds 1 L).length by omega) (L.length + 1)
  obtain ⟨f1, _, _⟩ := feed_at (show n - 1 < (feeds 1 L).length by omega) 0
  rw [if_neg (by omega), show n + 1 - 2 = n - 1 by omega, e1, f1]
  refine ⟨rfl, ?_⟩
  obtain ⟨i, h3, h4⟩ := (feeds_iff 1 L _).1 (List.getElem_mem (show n - 1 < (feeds 1 L).length by omega))
  rw [h3, show 1 + i - 1 = i by omega]
  exact h4
theorem line_last (L : List Nat) : lineZ L (linesN L) = L.length + 1 := by
  unfold lineZ linesN
  rw [List.getD, List.getElem?_eq_none (by omega)]
  rfl
theorem line_first (L : List Nat) : lineA L 1 = 1 := by
  unfold lineA
  rw [if_pos rfl]
/-- No line feed stands within a line. -/
theorem line_free {L : List Nat} {n : Nat} (h1 : 1 ≤ n) (h2 : n ≤ linesN L) (q : Int) (hq1 : (lineA L n : Int) ≤ q) (hq2 : q < (lineZ L n : Int)) : charR L q ≠ 10 := by
  have hs := line_span h1 h2
  obtain ⟨m, rfl⟩ : ∃ m : Nat, q = (m : Int) := ⟨q.toNat, by omega⟩
  intro hc
  have hm := (charR_feed (by omega) (by omega)).1 hc
  obtain ⟨j, hj, e⟩ := List.mem_iff_getElem.1 hm
  unfold linesN at h2
  unfold lineA at hq1
  unfold lineZ at hq2
  by_cases hjn : j < n - 1
  · split at hq1
    · omega
    · obtain ⟨f1, f2, f3⟩ := feed_at (show n - 2 < (feeds 1 L).length by omega) 0
      rw [f1] at hq1
      by_cases e2 : j = n - 2
      · subst e2
        omega
      · have := feed_mono (show j < n - 2 by omega) (show n - 2 < (feeds 1 L).length by omega)
        omega
  · obtain ⟨f1, f2, f3⟩ := feed_at (show n - 1 < (feeds 1 L).length by omega) (L.length + 1)
    rw [f1] at hq2
    by_cases e2 : j = n - 1
    · subst e2
      omega
    · have := feed_mono (show n - 1 < j by omega) hj
      omega
/-- The text up to the end of a line. -/
def upTo (L : List Nat) (n : Nat) : List Nat := L.take (lineZ L n - 1)
theorem upTo_next {L : List Nat} {n : Nat} (h1 : 1 ≤ n) (h2 : n < linesN L) : upTo L (n + 1) = upTo L n ++ [10] ++ (L.drop (lineA L (n + 1) - 1)).take (lineZ L (n + 1) - lineA L (n + 1)) := by
  obtain ⟨e1, e2⟩ := line_next h1 h2
  have s1 := line_span (L := L) h1 (by omega)
  have s2 := line_span (L := L) (show 1 ≤ n + 1 by omega) (show n + 1 ≤ linesN L by omega)
  unfold upTo
  rw [e1] at s2 ⊢
  obtain ⟨z, hz⟩ : ∃ z, lineZ L n = z + 1 := ⟨lineZ L n - 1, by omega⟩
  obtain ⟨y, hy⟩ : ∃ y, lineZ L (n + 1) = y + 1 := ⟨lineZ L (n + 1) - 1, by omega⟩
  rw [hz] at e2 s2 ⊢
  rw [hy] at s2 ⊢
  simp only [Nat.add_sub_cancel] at e2 ⊢
  rw [take_split L (show z + 1 ≤ y by omega), List.take_add_one, e2, show y + 1 - (z + 1 + 1) = y - (z + 1) by omega]
  rfl
end Go.Proofs.YtbljppcaikhjhaaDoor
