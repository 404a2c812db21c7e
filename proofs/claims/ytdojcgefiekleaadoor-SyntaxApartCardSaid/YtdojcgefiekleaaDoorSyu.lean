/- A move over one word, and over several: plain laws. No condition but those written. -/
import Derived.Test.YtdojcgefiekleaaDoorSyv
namespace Go.Proofs.YtdojcgefiekleaaDoor
open Go.RowKit

section
variable {T : Tb} {L : List Nat} {i n : Nat}
theorem wordsF_one : wordsF T L 1 i = if wF T L i = L.length then (wF T L i, false) else (wE T L (wF T L i), true) := rfl
theorem wordsB_one : wordsB T L 1 i = if bN T L i = 0 then (0, false) else (bE T L (bN T L i), true) := rfl
theorem wordsF_more : wordsF T L (n + 1) i = if (wordsF T L 1 i).2 then wordsF T L n (wordsF T L 1 i).1 else wordsF T L 1 i := by
  rw [wordsF_one]
  simp only [wordsF]
  split <;> rfl
theorem wordsB_more : wordsB T L (n + 1) i = if (wordsB T L 1 i).2 then wordsB T L n (wordsB T L 1 i).1 else wordsB T L 1 i := by
  rw [wordsB_one]
  simp only [wordsB]
  split <;> rfl
theorem word1_F (h : i ≤ L.length) {e : Nat} {o : Bool} (hr : wordsF T L 1 i = (e, o)) : i ≤ e ∧ e ≤ L.length ∧ (o = false → (runs T L (e - i) i (0, false)).1 = 0 ∧ e = L.length) ∧
    (o = true → (runs T L (e - i) i (0, false)).1 = 1 ∧ 0 < e ∧ T.at_ L (e - 1) = 1 ∧ (e < L.length → T.at_ L e ≠ 1)) := by
  have hw := wF_spec (T := T) (L := L) h
  have he := wE_spec (T := T) (L := L) hw.2.1
  rw [wordsF_one] at hr
  split at hr
  · rename_i e1
    obtain ⟨rfl, rfl⟩ := Prod.mk.inj hr
    refine ⟨hw.1, hw.2.1, fun _ => ⟨?_, e1⟩, fun h => by cases h⟩
    exact (runs_none _ _ _ fun j h1 h2 => hw.2.2.1 j h1 (by omega)).1
  · rename_i e1
    obtain ⟨rfl, rfl⟩ := Prod.mk.inj hr
    have hat := hw.2.2.2 (by omega)
    have hlt : wF T L i < wE T L (wF T L i) := by
      rw [wE_step (by omega) hat]
      have := (wE_spec (T := T) (L := L) (i := wF T L i + 1) (by omega)).1
      omega
    refine ⟨by omega, he.2.1, (fun h => nomatch h), fun _ => ⟨?_, by omega, he.2.2.1 _ (by omega) (by omega), he.2.2.2⟩⟩
    rw [show wE T L (wF T L i) - i = (wF T L i - i) + (wE T L (wF T L i) - wF T L i) by omega, runs_add]
    have h1 := runs_none (T := T) (L := L) (wF T L i - i) i (0, false) fun j h1 h2 => hw.2.2.1 j h1 (by omega)
    rw [show i + (wF T L i - i) = wF T L i by omega, runs_all _ _ _ fun j h1 h2 => he.2.2.1 j h1 (by omega)]
    have h2 : (runs T L (wF T L i - i) i (0, false)).2 = false := by
      by_cases hz : 0 < wF T L i - i
      · exact h1.2 hz
      · rw [show wF T L i - i = 0 by omega]
        rfl
    simp only [h2, h1.1]
    rw [if_pos ⟨by omega, trivial⟩]
theorem word1_B (h : i ≤ L.length) {e : Nat} {o : Bool} (hr : wordsB T L 1 i = (e, o)) : e ≤ i ∧ (o = false → (runs T L (i - e) e (0, false)).1 = 0 ∧ e = 0) ∧
    (o = true → (runs T L (i - e) e (0, false)).1 = 1 ∧ e < L.length ∧ T.at_ L e = 1 ∧ (0 < e → T.at_ L (e - 1) ≠ 1)) := by
  have hw := bN_spec (T := T) (L := L) (i := i)
  have he := bE_spec (T := T) (L := L) (i := bN T L i)
  rw [wordsB_one] at hr
  split at hr
  · rename_i e1
    obtain ⟨rfl, rfl⟩ := Prod.mk.inj hr
    refine ⟨by omega, fun _ => ⟨?_, rfl⟩, fun h => by cases h⟩
    exact (runs_none _ _ _ fun j h1 h2 => hw.2.1 j (by omega) (by omega)).1
  · rename_i e1
    obtain ⟨rfl, rfl⟩ := Prod.mk.inj hr
    have hat := hw.2.2 (by omega)
    have hlt : bE T L (bN T L i) < bN T L i := by
      obtain ⟨m, hm⟩ : ∃ m, bN T L i = m + 1 := ⟨bN T L i - 1, by omega⟩
      rw [hm] at hat ⊢
      rw [bE_step (by simpa using hat)]
      have := (bE_spec (T := T) (L := L) (i := m)).1
      omega
    refine ⟨by omega, (fun h => nomatch h), fun _ => ⟨?_, by omega, he.2.1 _ (by omega) (by omega), he.2.2⟩⟩
    rw [show i - bE T L (bN T L i) = (bN T L i - bE T L (bN T L i)) + (i - bN T L i) by omega, runs_add]
    rw [runs_all _ _ _ fun j h1 h2 => he.2.1 j h1 (by omega)]
    rw [if_pos ⟨by omega, rfl⟩, if_pos (by omega), show bE T L (bN T L i) + (bN T L i - bE T L (bN T L i)) = bN T L i by omega]
    exact (runs_none _ _ _ fun j h1 h2 => hw.2.1 j h1 (by omega)).1
end
end Go.Proofs.YtdojcgefiekleaaDoor
