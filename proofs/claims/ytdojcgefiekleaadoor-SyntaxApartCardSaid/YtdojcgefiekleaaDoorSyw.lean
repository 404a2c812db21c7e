/- Words of a text, forward and backward, and how many words a piece has: plain laws. No condition but those written. -/
import Derived.Test.YtdojcgefiekleaaDoorSyq
namespace Go.Proofs.YtdojcgefiekleaaDoor
open Go.RowKit

section
variable (T : Tb)
def notW : List Nat → Nat
  | [] => 0
  | c :: r => if T.cl (c : Int) = 1 then 0 else notW r + 1
def inW : List Nat → Nat
  | [] => 0
  | c :: r => if T.cl (c : Int) = 1 then inW r + 1 else 0
def wF (L : List Nat) (i : Nat) : Nat := i + notW T (L.drop i)
def wE (L : List Nat) (i : Nat) : Nat := i + inW T (L.drop i)
def bN (L : List Nat) : Nat → Nat
  | 0 => 0
  | i + 1 => if T.at_ L i = 1 then i + 1 else bN L i
def bE (L : List Nat) : Nat → Nat
  | 0 => 0
  | i + 1 => if T.at_ L i = 1 then bE L i else i + 1
def wordsF (L : List Nat) : Nat → Nat → Nat × Bool
  | 0, i => (i, true)
  | n + 1, i => if wF T L i = L.length then (wF T L i, false) else wordsF L n (wE T L (wF T L i))
def wordsB (L : List Nat) : Nat → Nat → Nat × Bool
  | 0, i => (i, true)
  | n + 1, i => if bN T L i = 0 then (0, false) else wordsB L n (bE T L (bN T L i))
def words (L : List Nat) (n : Int) (i : Nat) : Nat × Bool := if n < 0 then wordsB T L (-n).toNat i else wordsF T L n.toNat i
/-- How many words begin in a piece, and whether one is open at its end. -/
def runs (L : List Nat) : Nat → Nat → Nat × Bool → Nat × Bool
  | 0, _, s => s
  | m + 1, i, s => runs L m (i + 1) (if T.at_ L i = 1 ∧ s.2 = false then s.1 + 1 else s.1, decide (T.at_ L i = 1))
end
section
variable {T : Tb} {L : List Nat}
theorem drop_at {i : Nat} (h : i < L.length) : L.drop i = L.getD i 0 :: L.drop (i + 1) := by
  rw [List.drop_eq_getElem_cons h]
  simp [List.getD, List.getElem?_eq_getElem h]
theorem wF_stop {i : Nat} (h : i < L.length) (hw : T.at_ L i = 1) : wF T L i = i := by
  unfold wF
  rw [drop_at h]
  simp only [notW]
  rw [if_pos (by exact hw)]
  rfl
theorem wF_step {i : Nat} (h : i < L.length) (hw : T.at_ L i ≠ 1) : wF T L i = wF T L (i + 1) := by
  unfold wF
  rw [drop_at h]
  simp only [notW]
  rw [if_neg (by exact hw)]
  omega
theorem wF_end {i : Nat} (h : L.length ≤ i) : wF T L i = i := by
  unfold wF
  rw [List.drop_eq_nil_of_le h]
  rfl
theorem wE_stop {i : Nat} (h : i < L.length) (hw : T.at_ L i ≠ 1) : wE T L i = i := by
  unfold wE
  rw [drop_at h]
  simp only [inW]
  rw [if_neg (by exact hw)]
  rfl
theorem wE_step {i : Nat} (h : i < L.length) (hw : T.at_ L i = 1) : wE T L i = wE T L (i + 1) := by
  unfold wE
  rw [drop_at h]
  simp only [inW]
  rw [if_pos (by exact hw)]
  omega
theorem wE_end {i : Nat} (h : L.length ≤ i) : wE T L i = i := by
  unfold wE
  rw [List.drop_eq_nil_of_le h]
  rfl
theorem bN_stop {i : Nat} (hw : T.at_ L i = 1) : bN T L (i + 1) = i + 1 := by simp only [bN]; rw [if_pos hw]
theorem bN_step {i : Nat} (hw : T.at_ L i ≠ 1) : bN T L (i + 1) = bN T L i := by simp only [bN]; rw [if_neg hw]
theorem bE_stop {i : Nat} (hw : T.at_ L i ≠ 1) : bE T L (i + 1) = i + 1 := by simp only [bE]; rw [if_neg hw]
theorem bE_step {i : Nat} (hw : T.at_ L i = 1) : bE T L (i + 1) = bE T L i := by simp only [bE]; rw [if_pos hw]
/-- From i to wF there is no word, and a word begins there if it is not the end. -/
theorem wF_spec : ∀ {i : Nat}, i ≤ L.length → i ≤ wF T L i ∧ wF T L i ≤ L.length ∧ (∀ j, i ≤ j → j < wF T L i → T.at_ L j ≠ 1) ∧ (wF T L i < L.length → T.at_ L (wF T L i) = 1) := by
  intro i h
  obtain ⟨d, hd⟩ : ∃ d, d = L.length - i := ⟨_, rfl⟩
  induction d generalizing i with
  | zero =>
      have h2 : L.length ≤ i := by omega
      rw [wF_end h2]
      exact ⟨Nat.le_refl _, h, fun j h1 h3 => by omega, fun h3 => by omega⟩
  | succ d ih =>
      have h2 : i < L.length := by omega
      by_cases hw : T.at_ L i = 1
      · rw [wF_stop h2 hw]
        exact ⟨Nat.le_refl _, h, fun j h1 h3 => by omega, fun _ => hw⟩
      · rw [wF_step h2 hw]
        obtain ⟨h3, h4, h5, h6⟩ := ih (i := i + 1) (by omega) (by omega)
        refine ⟨by omega, h4, fun j h7 h8 => ?_, h6⟩
        by_cases e : j = i
        · rw [e]; exact hw
        · exact h5 j (by omega) h8
theorem wE_spec : ∀ {i : Nat}, i ≤ L.length → i ≤ wE T L i ∧ wE T L i ≤ L.length ∧ (∀ j, i ≤ j → j < wE T L i → T.at_ L j = 1) ∧ (wE T L i < L.length → T.at_ L (wE T L i) ≠ 1) := by
  intro i h
  obtain ⟨d, hd⟩ : ∃ d, d = L.length - i := ⟨_, rfl⟩
  induction d generalizing i with
  | zero =>
      have h2 : L.length ≤ i := by omega
      rw [wE_end h2]
      exact ⟨Nat.le_refl _, h, fun j h1 h3 => by omega, fun h3 => by omega⟩
  | succ d ih =>
      have h2 : i < L.length := by omega
      by_cases hw : T.at_ L i = 1
      · rw [wE_step h2 hw]
        obtain ⟨h3, h4, h5, h6⟩ := ih (i := i + 1) (by omega) (by omega)
        refine ⟨by omega, h4, fun j h7 h8 => ?_, h6⟩
        by_cases e : j = i
        · rw [e]; exact hw
        · exact h5 j (by omega) h8
      · rw [wE_stop h2 hw]
        exact ⟨Nat.le_refl _, h, fun j h1 h3 => by omega, fun _ => hw⟩
theorem bN_spec : ∀ {i : Nat}, bN T L i ≤ i ∧ (∀ j, bN T L i ≤ j → j < i → T.at_ L j ≠ 1) ∧ (0 < bN T L i → T.at_ L (bN T L i - 1) = 1) := by
  intro i
  induction i with
  | zero => exact ⟨Nat.le_refl _, fun j _ h => by omega, fun h => by simp [bN] at h⟩
  | succ i ih =>
      by_cases hw : T.at_ L i = 1
      · rw [bN_stop hw]
        exact ⟨Nat.le_refl _, fun j h1 h2 => by omega, fun _ => hw⟩
      · rw [bN_step hw]
        refine ⟨by omega, fun j h1 h2 => ?_, ih.2.2⟩
        by_cases e : j = i
        · rw [e]; exact hw
        · exact ih.2.1 j h1 (by omega)
theorem bE_spec : ∀ {i : Nat}, bE T L i ≤ i ∧ (∀ j, bE T L i ≤ j → j < i → T.at_ L j = 1) ∧ (0 < bE T L i → T.at_ L (bE T L i - 1) ≠ 1) := by
  intro i
  induction i with
  | zero => exact ⟨Nat.le_refl _, fun j _ h => by omega, fun h => by simp [bE] at h⟩
  | succ i ih =>
      by_cases hw : T.at_ L i = 1
      · rw [bE_step hw]
        refine ⟨by omega, fun j h1 h2 => ?_, ih.2.2⟩
        by_cases e : j = i
        · rw [e]; exact hw
        · exact ih.2.1 j h1 (by omega)
      · rw [bE_stop hw]
        exact ⟨Nat.le_refl _, fun j h1 h2 => by omega, fun _ => hw⟩
theorem runs_none : ∀ (m i : Nat) (s : Nat × Bool), (∀ j, i ≤ j → j < i + m → T.at_ L j ≠ 1) → (runs T L m i s).1 = s.1 ∧ (0 < m → (runs T L m i s).2 = false)
  | 0, _, _, _ => ⟨rfl, fun h => absurd h (by omega)⟩
  | m + 1, i, s, h => by
      have h0 := h i (Nat.le_refl _) (by omega)
      have ih := runs_none m (i + 1) (s.1, false) fun j h1 h2 => h j (by omega) (by omega)
      simp only [runs]
      rw [if_neg (fun e => h0 e.1), decide_eq_false h0]
      refine ⟨ih.1, fun _ => ?_⟩
      by_cases hm : 0 < m
      · exact ih.2 hm
      · have : m = 0 := by omega
        subst this
        rfl
theorem runs_all : ∀ (m i : Nat) (s : Nat × Bool), (∀ j, i ≤ j → j < i + m → T.at_ L j = 1) → runs T L m i s = (if 0 < m ∧ s.2 = false then s.1 + 1 else s.1, if 0 < m then true else s.2)
  | 0, _, _, _ => by simp [runs]
  | m + 1, i, s, h => by
      have h0 := h i (Nat.le_refl _) (by omega)
      simp only [runs]
      rw [runs_all m (i + 1) _ fun j h1 h2 => h j (by omega) (by omega), decide_eq_true h0]
      by_cases hs : s.2 = false
      · simp [h0, hs]
      · have hs' : s.2 = true := by simpa using hs
        simp [h0, hs']
theorem runs_add : ∀ (a b i : Nat) (s : Nat × Bool), runs T L (a + b) i s = runs T L b (i + a) (runs T L a i s)
  | 0, b, i, s => by simp [runs]
  | a + 1, b, i, s => by
      rw [show a + 1 + b = (a + b) + 1 by omega]
      simp only [runs]
      rw [runs_add a b (i + 1)]
      congr 1
      omega
end
end Go.Proofs.YtdojcgefiekleaaDoor
