/- A move over an expression, case by case, and that it moves; the symbol around an index: plain laws. No condition but those written. -/
import Derived.Test.YtdojcgefiekleaaDoorSys
namespace Go.Proofs.YtdojcgefiekleaaDoor
open Go.RowKit

section
variable {T : Tb} {L : List Nat} {a b c : Int} {n i j : Nat} {opens : List Nat}
theorem fwd_end (h : gapA T L i = j) (hj : j = L.length) : fwd T a b c L (n + 1) opens i = (0, a, ((opens.head?.getD j : Nat) : Int)) := by
  subst h
  rw [fwd.eq_def]
  simp only [hj, if_true]
theorem fwd_close0 (h : gapA T L i = j) (hj : j ≠ L.length) (hk : T.at_ L j = 5) : fwd T a b c L (n + 1) [] i = (0, b, (j : Int)) := by
  subst h
  rw [fwd.eq_def]
  simp only [hj, hk, if_true, if_false]
theorem fwd_close_bad {o : Nat} (h : gapA T L i = j) (hj : j ≠ L.length) (hk : T.at_ L j = 5) (hm : ((L.getD j 0 : Nat) : Int) ≠ T.mate ((L.getD o 0 : Nat) : Int)) : fwd T a b c L (n + 1) (o :: opens) i = (0, b, (j : Int)) := by
  subst h
  rw [fwd.eq_def]
  simp only [hj, hk, if_true, if_false]
  rw [if_pos hm]
theorem fwd_close_last {o : Nat} (h : gapA T L i = j) (hj : j ≠ L.length) (hk : T.at_ L j = 5) (hm : ((L.getD j 0 : Nat) : Int) = T.mate ((L.getD o 0 : Nat) : Int)) : fwd T a b c L (n + 1) [o] i = (j + 1, 0, 0) := by
  subst h
  rw [fwd.eq_def]
  simp only [hj, hk, if_true, if_false]
  rw [if_neg (by simpa using hm)]
theorem fwd_close {o : Nat} (h : gapA T L i = j) (hj : j ≠ L.length) (hk : T.at_ L j = 5) (hm : ((L.getD j 0 : Nat) : Int) = T.mate ((L.getD o 0 : Nat) : Int)) (hr : opens ≠ []) : fwd T a b c L (n + 1) (o :: opens) i = fwd T a b c L n opens (j + 1) := by
  subst h
  rw [fwd.eq_def]
  simp only [hj, hk, if_true, if_false]
  rw [if_neg (by simpa using hm), if_neg hr]
theorem fwd_deep (h : gapA T L i = j) (hj : j ≠ L.length) (hk : T.at_ L j = 4) (hl : 200 ≤ opens.length) : fwd T a b c L (n + 1) opens i = (0, c, (j : Int)) := by
  subst h
  rw [fwd.eq_def]
  simp only []
  rw [if_neg hj, if_neg (show ¬ T.at_ L (gapA T L i) = 5 by omega), if_pos hk, if_pos hl]
theorem fwd_open (h : gapA T L i = j) (hj : j ≠ L.length) (hk : T.at_ L j = 4) (hl : opens.length < 200) : fwd T a b c L (n + 1) opens i = fwd T a b c L n (j :: opens) (j + 1) := by
  subst h
  have hl' : ¬ 200 ≤ opens.length := by omega
  rw [fwd.eq_def]
  simp only []
  rw [if_neg hj, if_neg (show ¬ T.at_ L (gapA T L i) = 5 by omega), if_pos hk, if_neg hl']
theorem fwd_str_bad (h : gapA T L i = j) (hj : j ≠ L.length) (hk : T.at_ L j = 6) (hq : quoA T L j = none) : fwd T a b c L (n + 1) opens i = (0, a, (j : Int)) := by
  subst h
  rw [fwd.eq_def]
  simp only []
  rw [if_neg hj, if_neg (show ¬ T.at_ L (gapA T L i) = 5 by omega), if_neg (show ¬ T.at_ L (gapA T L i) = 4 by omega), if_pos hk, hq]
  try rfl
theorem fwd_str_last {e : Nat} (h : gapA T L i = j) (hj : j ≠ L.length) (hk : T.at_ L j = 6) (hq : quoA T L j = some e) : fwd T a b c L (n + 1) [] i = (e, 0, 0) := by
  subst h
  rw [fwd.eq_def]
  simp only []
  rw [if_neg hj, if_neg (show ¬ T.at_ L (gapA T L i) = 5 by omega), if_neg (show ¬ T.at_ L (gapA T L i) = 4 by omega), if_pos hk, hq]
  try rfl
theorem fwd_str {e : Nat} (h : gapA T L i = j) (hj : j ≠ L.length) (hk : T.at_ L j = 6) (hq : quoA T L j = some e) (ho : opens ≠ []) : fwd T a b c L (n + 1) opens i = fwd T a b c L n opens e := by
  subst h
  rw [fwd.eq_def]
  simp only []
  rw [if_neg hj, if_neg (show ¬ T.at_ L (gapA T L i) = 5 by omega), if_neg (show ¬ T.at_ L (gapA T L i) = 4 by omega), if_pos hk, hq]
  simp only [ho, if_false]
theorem fwd_name_last (h : gapA T L i = j) (hj : j ≠ L.length) (h4 : T.at_ L j ≠ 4) (h5 : T.at_ L j ≠ 5) (h6 : T.at_ L j ≠ 6) : fwd T a b c L (n + 1) [] i = (nameA T L j, 0, 0) := by
  subst h
  rw [fwd.eq_def]
  simp only [hj, h4, h5, h6, if_false, if_true]
theorem fwd_name (h : gapA T L i = j) (hj : j ≠ L.length) (h4 : T.at_ L j ≠ 4) (h5 : T.at_ L j ≠ 5) (h6 : T.at_ L j ≠ 6) (ho : opens ≠ []) : fwd T a b c L (n + 1) opens i = fwd T a b c L n opens (nameA T L j) := by
  subst h
  rw [fwd.eq_def]
  simp only [hj, h4, h5, h6, if_false, ho]
theorem at_range (h : T.Ok) (j : Nat) : 0 ≤ T.at_ L j ∧ T.at_ L j ≤ 10 := ⟨(h.range _).1, (h.range _).2.1⟩
/-- Behind the separators, and no bracket, no string: a name has at least one character. -/
theorem name_more (h : T.Ok) (hj : j < L.length) (h8 : T.at_ L j ≠ 8) (hw : ¬ (T.at_ L j = 3 ∨ T.at_ L j = 9 ∨ T.at_ L j = 0 ∨ T.at_ L j = 10)) (h4 : T.at_ L j ≠ 4) (h5 : T.at_ L j ≠ 5) (h6 : T.at_ L j ≠ 6) : j < nameA T L j := by
  have hr := at_range (L := L) h j
  by_cases h7 : T.at_ L j = 7
  · by_cases h1 : j + 1 < L.length
    · rw [nameA_esc h1 h7]
      have := nameA_le (T := T) (L := L) (i := j + 2) (by omega)
      omega
    · rw [nameA_last (by omega) h7]
      omega
  · rw [nameA_step hj (by omega)]
    have := nameA_le (T := T) (L := L) (i := j + 1) (by omega)
    omega
/-- A move forward that answers an index moves. -/
theorem fwd_more (h : T.Ok) (ha : a ≠ 0) (hb : b ≠ 0) (hc : c ≠ 0) : ∀ {n : Nat} {opens : List Nat} {i : Nat}, i ≤ L.length → L.length < n + i → (fwd T a b c L n opens i).2.1 = 0 → i < (fwd T a b c L n opens i).1 ∧ (fwd T a b c L n opens i).1 ≤ L.length ∧ (fwd T a b c L n opens i).2.2 = 0 := by
  intro n
  induction n with
  | zero => intro opens i h1 h2; omega
  | succ n ih =>
      intro opens i h1 h2
      have hg := gapA_le (T := T) (L := L) h1
      have hs := gapA_spec (T := T) (L := L) h1
      obtain ⟨j, hj⟩ : ∃ j, gapA T L i = j := ⟨_, rfl⟩
      rw [hj] at hg hs
      by_cases e : j = L.length
      · rw [fwd_end hj e]
        intro h; exact absurd h ha
      · have hl : j < L.length := by omega
        have hs := hs hl
        by_cases h5 : T.at_ L j = 5
        · cases opens with
          | nil => rw [fwd_close0 hj e h5]; intro h; exact absurd h hb
          | cons o r =>
              by_cases hm : ((L.getD j 0 : Nat) : Int) = T.mate ((L.getD o 0 : Nat) : Int)
              · by_cases hr : r = []
                · subst hr
                  rw [fwd_close_last hj e h5 hm]
                  intro _
                  exact ⟨by simp; omega, by simp; omega, rfl⟩
                · rw [fwd_close hj e h5 hm hr]
                  intro h
                  have := ih (opens := r) (i := j + 1) (by omega) (by omega) h
                  omega
              · rw [fwd_close_bad hj e h5 hm]; intro h; exact absurd h hb
        · by_cases h4 : T.at_ L j = 4
          · by_cases h200 : 200 ≤ opens.length
            · rw [fwd_deep hj e h4 h200]; intro h; exact absurd h hc
            · rw [fwd_open hj e h4 (by omega)]
              intro h
              have := ih (opens := j :: opens) (i := j + 1) (by omega) (by omega) h
              omega
          · by_cases h6 : T.at_ L j = 6
            · cases hq : quoA T L j with
              | none => rw [fwd_str_bad hj e h6 hq]; intro h; exact absurd h ha
              | some q =>
                  have hq' := hq
                  rw [quoA_eq] at hq'
                  have := quoF_le hq'
                  cases opens with
                  | nil =>
                      rw [fwd_str_last hj e h6 hq]
                      intro _
                      exact ⟨by simp; omega, by simp; omega, rfl⟩
                  | cons o r =>
                      rw [fwd_str hj e h6 hq (by simp)]
                      intro h
                      have := ih (opens := o :: r) (i := q) (by omega) (by omega) h
                      omega
            · have := name_more h hl hs.1 hs.2 h4 h5 h6
              have hn := nameA_le (T := T) (L := L) (i := j) (by omega)
              cases opens with
              | nil =>
                  rw [fwd_name_last hj e h4 h5 h6]
                  intro _
                  exact ⟨by simp; omega, by simp; omega, rfl⟩
              | cons o r =>
                  rw [fwd_name hj e h4 h5 h6 (by simp)]
                  intro h
                  have := ih (opens := o :: r) (i := nameA T L j) (by omega) (by omega) h
                  omega
end
end Go.Proofs.YtdojcgefiekleaaDoor
