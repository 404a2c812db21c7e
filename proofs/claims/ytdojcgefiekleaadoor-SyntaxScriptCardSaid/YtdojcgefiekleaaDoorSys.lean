/- The scans over a text, step by step: plain laws. No condition but those written. -/
import Derived.Test.YtdojcgefiekleaaDoorSyw
namespace Go.Proofs.YtdojcgefiekleaaDoor
open Go.RowKit

/-- From an index: behind the comment's end; behind the quote. -/
def cmtF (T : Tb) (L : List Nat) (i : Nat) : Nat := i + cmtN T (L.drop i)
def quoF (T : Tb) (L : List Nat) (q i : Nat) : Option Nat := (quoN T q (L.drop i)).map (· + i)
section
variable {T : Tb} {L : List Nat} {i : Nat}
theorem cmtA_eq : cmtA T L i = cmtF T L (i + 1) := rfl
theorem cmtF_end (h : L.length ≤ i) : cmtF T L i = i := by
  unfold cmtF
  rw [List.drop_eq_nil_of_le h]
  rfl
theorem cmtF_stop (h : i < L.length) (hw : T.at_ L i = 9) : cmtF T L i = i + 1 := by
  unfold cmtF
  rw [drop_at h]
  simp only [cmtN]
  rw [if_pos (by exact hw)]
theorem cmtF_step (h : i < L.length) (hw : T.at_ L i ≠ 9) : cmtF T L i = cmtF T L (i + 1) := by
  unfold cmtF
  rw [drop_at h]
  simp only [cmtN]
  rw [if_neg (by exact hw)]
  omega
theorem cmtN_le : ∀ r : List Nat, cmtN T r ≤ r.length
  | [] => Nat.le_refl _
  | c :: r => by
      have := cmtN_le r
      simp only [cmtN, List.length_cons]
      split <;> omega
theorem cmtF_le (h : i ≤ L.length) : i ≤ cmtF T L i ∧ cmtF T L i ≤ L.length := by
  have := cmtN_le (T := T) (L.drop i)
  rw [List.length_drop] at this
  unfold cmtF
  omega
theorem gapN_true : ∀ r : List Nat, gapN T true r = cmtN T r + gapN T false (r.drop (cmtN T r))
  | [] => rfl
  | c :: r => by
      have := gapN_true r
      simp only [gapN, cmtN]
      by_cases h : T.cl (c : Int) = 9
      · rw [if_pos h, if_pos h]
        simp
        omega
      · rw [if_neg h, if_neg h, this]
        simp
        omega
theorem gapA_end (h : L.length ≤ i) : gapA T L i = i := by
  unfold gapA
  rw [List.drop_eq_nil_of_le h]
  rfl
theorem gapA_cmt (h : i < L.length) (hw : T.at_ L i = 8) : gapA T L i = gapA T L (cmtA T L i) := by
  unfold gapA
  rw [drop_at h]
  simp only [gapN]
  rw [if_pos (by exact hw), gapN_true, List.drop_drop]
  unfold cmtA
  omega
theorem gapA_step (h : i < L.length) (hw : T.at_ L i = 3 ∨ T.at_ L i = 9 ∨ T.at_ L i = 0 ∨ T.at_ L i = 10) : gapA T L i = gapA T L (i + 1) := by
  have h8 : ¬ T.at_ L i = 8 := by omega
  unfold gapA
  rw [drop_at h]
  simp only [gapN]
  rw [if_neg (by exact h8), if_pos (by exact hw)]
  omega
theorem gapA_stop (h : i < L.length) (h8 : T.at_ L i ≠ 8) (hw : ¬ (T.at_ L i = 3 ∨ T.at_ L i = 9 ∨ T.at_ L i = 0 ∨ T.at_ L i = 10)) : gapA T L i = i := by
  unfold gapA
  rw [drop_at h]
  simp only [gapN]
  rw [if_neg (by exact h8), if_neg (by exact hw)]
  rfl
theorem gapA_le (h : i ≤ L.length) : i ≤ gapA T L i ∧ gapA T L i ≤ L.length := by
  have : ∀ (b : Bool) (r : List Nat), gapN T b r ≤ r.length := by
    intro b r
    induction r generalizing b with
    | nil => cases b <;> exact Nat.le_refl _
    | cons c r ih =>
        have := ih true
        have := ih false
        cases b <;> simp only [gapN, List.length_cons] <;> (repeat' split) <;> omega
  have := this false (L.drop i)
  rw [List.length_drop] at this
  unfold gapA
  omega
/-- Behind the separators: the end, or a character that is none. -/
theorem gapA_spec : ∀ {i : Nat}, i ≤ L.length → gapA T L i < L.length → T.at_ L (gapA T L i) ≠ 8 ∧ ¬ (T.at_ L (gapA T L i) = 3 ∨ T.at_ L (gapA T L i) = 9 ∨ T.at_ L (gapA T L i) = 0 ∨ T.at_ L (gapA T L i) = 10) := by
  intro i h
  obtain ⟨d, hd⟩ : ∃ d, d = L.length - i := ⟨_, rfl⟩
  induction d using Nat.strongRecOn generalizing i with
  | _ d ih =>
      by_cases h2 : i < L.length
      · by_cases h8 : T.at_ L i = 8
        · rw [gapA_cmt h2 h8]
          have := cmtF_le (T := T) (L := L) (i := i + 1) (by omega)
          rw [← cmtA_eq] at this
          exact ih _ (by omega) (by omega) rfl
        · by_cases hw : T.at_ L i = 3 ∨ T.at_ L i = 9 ∨ T.at_ L i = 0 ∨ T.at_ L i = 10
          · rw [gapA_step h2 hw]
            exact ih _ (by omega) (by omega) rfl
          · rw [gapA_stop h2 h8 hw]
            exact fun _ => ⟨h8, hw⟩
      · rw [gapA_end (by omega)]
        intro h3
        omega
theorem nameN_cons (c : Nat) (r : List Nat) : nameN T (c :: r) = if T.cl (c : Int) = 7 then (match r with | [] => 1 | _ :: r' => nameN T r' + 2) else
      if T.cl (c : Int) = 1 ∨ T.cl (c : Int) = 2 ∨ T.cl (c : Int) = 10 then nameN T r + 1 else 0 := by
  cases r <;> simp only [nameN]
theorem quoN_cons (q c : Nat) (r : List Nat) : quoN T q (c :: r) = if T.cl (c : Int) = 7 then (match r with | [] => none | _ :: r' => (quoN T q r').map (· + 2)) else
      if c = q then some 1 else (quoN T q r).map (· + 1) := by
  cases r <;> simp only [quoN]
theorem nameA_end (h : L.length ≤ i) : nameA T L i = i := by
  unfold nameA
  rw [List.drop_eq_nil_of_le h]
  rfl
theorem nameA_step (h : i < L.length) (hw : T.at_ L i = 1 ∨ T.at_ L i = 2 ∨ T.at_ L i = 10) : nameA T L i = nameA T L (i + 1) := by
  have h7 : ¬ T.at_ L i = 7 := by omega
  unfold nameA
  rw [drop_at h]
  rw [nameN_cons, if_neg (by exact h7), if_pos (by exact hw)]
  omega
theorem nameA_stop (h : i < L.length) (h7 : T.at_ L i ≠ 7) (hw : ¬ (T.at_ L i = 1 ∨ T.at_ L i = 2 ∨ T.at_ L i = 10)) : nameA T L i = i := by
  unfold nameA
  rw [drop_at h]
  rw [nameN_cons, if_neg (by exact h7), if_neg (by exact hw)]
  rfl
theorem nameA_esc (h : i + 1 < L.length) (h7 : T.at_ L i = 7) : nameA T L i = nameA T L (i + 2) := by
  unfold nameA
  rw [drop_at (by omega), drop_at h]
  rw [nameN_cons, if_pos (by exact h7), show i + 1 + 1 = i + 2 from rfl]
  simp only []
  omega
theorem nameA_last (h : i + 1 = L.length) (h7 : T.at_ L i = 7) : nameA T L i = i + 1 := by
  unfold nameA
  rw [drop_at (by omega), List.drop_eq_nil_of_le (by omega)]
  rw [nameN_cons, if_pos (by exact h7)]
theorem nameA_le : ∀ {i : Nat}, i ≤ L.length → i ≤ nameA T L i ∧ nameA T L i ≤ L.length := by
  intro i h
  obtain ⟨d, hd⟩ : ∃ d, d = L.length - i := ⟨_, rfl⟩
  induction d using Nat.strongRecOn generalizing i with
  | _ d ih =>
      by_cases h2 : i < L.length
      · by_cases h7 : T.at_ L i = 7
        · by_cases h3 : i + 1 < L.length
          · rw [nameA_esc h3 h7]
            have := ih (L.length - (i + 2)) (by omega) (by omega) rfl
            omega
          · rw [nameA_last (by omega) h7]
            omega
        · by_cases hw : T.at_ L i = 1 ∨ T.at_ L i = 2 ∨ T.at_ L i = 10
          · rw [nameA_step h2 hw]
            have := ih (L.length - (i + 1)) (by omega) (by omega) rfl
            omega
          · rw [nameA_stop h2 h7 hw]
            omega
      · rw [nameA_end (by omega)]
        omega
theorem quoA_eq : quoA T L i = quoF T L (L.getD i 0) (i + 1) := rfl
theorem quoF_end {q : Nat} (h : L.length ≤ i) : quoF T L q i = none := by
  unfold quoF
  rw [List.drop_eq_nil_of_le h]
  rfl
theorem quoF_hit {q : Nat} (h : i < L.length) (h7 : T.at_ L i ≠ 7) (hq : L.getD i 0 = q) : quoF T L q i = some (i + 1) := by
  unfold quoF
  rw [drop_at h]
  rw [quoN_cons, if_neg (by exact h7), if_pos hq]
  simp
  omega
theorem quoF_step {q : Nat} (h : i < L.length) (h7 : T.at_ L i ≠ 7) (hq : L.getD i 0 ≠ q) : quoF T L q i = quoF T L q (i + 1) := by
  unfold quoF
  rw [drop_at h]
  rw [quoN_cons, if_neg (by exact h7), if_neg hq, Option.map_map]
  congr 1
  funext x
  simp
  omega
theorem quoF_esc {q : Nat} (h : i < L.length) (h7 : T.at_ L i = 7) : quoF T L q i = quoF T L q (i + 2) := by
  unfold quoF
  rw [drop_at h]
  by_cases h2 : i + 1 < L.length
  · rw [drop_at h2]
    rw [quoN_cons, if_pos (by exact h7), Option.map_map]
    congr 1
    funext x
    simp
    omega
  · rw [List.drop_eq_nil_of_le (show L.length ≤ i + 1 by omega), List.drop_eq_nil_of_le (show L.length ≤ i + 2 by omega)]
    rw [quoN_cons, if_pos (by exact h7)]
    rfl
theorem quoF_le {q : Nat} : ∀ {i e : Nat}, quoF T L q i = some e → i < e ∧ e ≤ L.length := by
  intro i e
  obtain ⟨d, hd⟩ : ∃ d, d = L.length - i := ⟨_, rfl⟩
  induction d using Nat.strongRecOn generalizing i with
  | _ d ih =>
      intro h
      by_cases h2 : i < L.length
      · by_cases h7 : T.at_ L i = 7
        · rw [quoF_esc h2 h7] at h
          have := ih (L.length - (i + 2)) (by omega) rfl h
          omega
        · by_cases hq : L.getD i 0 = q
          · rw [quoF_hit h2 h7 hq] at h
            have : i + 1 = e := by simpa using h
            omega
          · rw [quoF_step h2 h7 hq] at h
            have := ih (L.length - (i + 1)) (by omega) rfl h
            omega
      · rw [quoF_end (by omega)] at h
        cases h
theorem preA_zero : preA T L 0 = 0 := rfl
theorem preA_step (h : T.at_ L i = 10) : preA T L (i + 1) = preA T L i := by simp only [preA]; rw [if_pos h]
theorem preA_stop (h : T.at_ L i ≠ 10) : preA T L (i + 1) = i + 1 := by simp only [preA]; rw [if_neg h]
theorem preA_le : ∀ i, preA T L i ≤ i
  | 0 => Nat.le_refl _
  | i + 1 => by
      have := preA_le i
      simp only [preA]
      split <;> omega
end
end Go.Proofs.YtdojcgefiekleaaDoor
