/- Moves over several expressions; the symbol around an index: plain laws. No condition but those written. -/
import Derived.Test.YtdojcgefiekleaaDoorSyn
namespace Go.Proofs.YtdojcgefiekleaaDoor
open Go.RowKit

section
variable (T : Tb)
/-- One move, and several. -/
def fwd1 (L : List Nat) (i : Nat) : Ans := fwd T 13 5 12 L (L.length + 1) [] i
def bck1 (L : List Nat) : Ans := bck T 13 5 12 9 L (L.length + 1) [] (-1) (-1) 0
def sexF (L : List Nat) : Nat → Nat → Ans
  | 0, i => (i, 0, 0)
  | n + 1, i => if (fwd1 T L i).2.1 = 0 then sexF L n (fwd1 T L i).1 else (0, (fwd1 T L i).2)
def sexB (L : List Nat) : Nat → Nat → Ans
  | 0, i => (i, 0, 0)
  | n + 1, i => if (bck1 T (L.take i)).2.1 = 0 then sexB L n (bck1 T (L.take i)).1 else (0, (bck1 T (L.take i)).2)
def sexps (L : List Nat) (n : Int) (i : Nat) : Ans := if n < 0 then sexB T L (-n).toNat i else sexF T L n.toNat i
end
section
variable {T : Tb} {L : List Nat} {i n : Nat}
theorem fwd1_more (h : T.Ok) (hi : i ≤ L.length) (h0 : (fwd1 T L i).2.1 = 0) : i < (fwd1 T L i).1 ∧ (fwd1 T L i).1 ≤ L.length ∧ (fwd1 T L i).2.2 = 0 := fwd_more h (by decide) (by decide) (by decide) hi (by omega) h0
theorem bck1_less (h : T.Ok) (h0 : (bck1 T L).2.1 = 0) : (bck1 T L).1 < L.length ∧ (bck1 T L).2.2 = 0 := bck_less h (by decide) (by decide) (by decide) (by decide) BckOk.start (by omega) (by omega) h0
theorem take_len (hi : i ≤ L.length) : (L.take i).length = i := by simp; omega
/-- Behind a fault-free move the rest is the same. -/
theorem sexF_ok (h0 : (fwd1 T L i).2.1 = 0) : sexF T L (n + 1) i = sexF T L n (fwd1 T L i).1 := by simp only [sexF]; rw [if_pos h0]
theorem sexF_bad (h0 : (fwd1 T L i).2.1 ≠ 0) : sexF T L (n + 1) i = (0, (fwd1 T L i).2) := by simp only [sexF]; rw [if_neg h0]
theorem sexB_ok (h0 : (bck1 T (L.take i)).2.1 = 0) : sexB T L (n + 1) i = sexB T L n (bck1 T (L.take i)).1 := by simp only [sexB]; rw [if_pos h0]
theorem sexB_bad (h0 : (bck1 T (L.take i)).2.1 ≠ 0) : sexB T L (n + 1) i = (0, (bck1 T (L.take i)).2) := by simp only [sexB]; rw [if_neg h0]
theorem sexF_one : sexF T L 1 i = if (fwd1 T L i).2.1 = 0 then ((fwd1 T L i).1, 0, 0) else (0, (fwd1 T L i).2) := rfl
theorem sexB_one : sexB T L 1 i = if (bck1 T (L.take i)).2.1 = 0 then ((bck1 T (L.take i)).1, 0, 0) else (0, (bck1 T (L.take i)).2) := rfl
end
section
variable (T : Tb)
def isPart (k : Int) : Bool := decide (k = 1 ∨ k = 2)
def sB (L : List Nat) : Nat → Nat
  | 0 => 0
  | i + 1 => if isPart (T.at_ L i) then sB L i else i + 1
def sN : List Nat → Nat
  | [] => 0
  | c :: r => if isPart (T.cl (c : Int)) then sN r + 1 else 0
def sF (L : List Nat) (i : Nat) : Nat := i + sN T (L.drop i)
/-- The symbol around an index. -/
def symb (L : List Nat) (i : Nat) : Nat × Nat × Bool := if sB T L i = sF T L i then (0, 0, false) else (sB T L i, sF T L i, true)
end
section
variable {T : Tb} {L : List Nat} {i : Nat}
theorem sB_step (h : isPart (T.at_ L i) = true) : sB T L (i + 1) = sB T L i := by simp only [sB]; rw [if_pos h]
theorem sB_stop (h : isPart (T.at_ L i) = false) : sB T L (i + 1) = i + 1 := by simp only [sB]; rw [if_neg (by simp [h])]
theorem sF_end (h : L.length ≤ i) : sF T L i = i := by
  unfold sF
  rw [List.drop_eq_nil_of_le h]
  rfl
theorem sF_step (h : i < L.length) (hp : isPart (T.at_ L i) = true) : sF T L i = sF T L (i + 1) := by
  unfold sF
  rw [drop_at h]
  simp only [sN]
  rw [if_pos (by exact hp)]
  omega
theorem sF_stop (h : i < L.length) (hp : isPart (T.at_ L i) = false) : sF T L i = i := by
  unfold sF
  rw [drop_at h]
  simp only [sN]
  rw [if_neg (by intro e; rw [show T.cl ((L.getD i 0 : Nat) : Int) = T.at_ L i from rfl, hp] at e; cases e)]
  rfl
theorem sB_spec : ∀ i, sB T L i ≤ i ∧ (∀ j, sB T L i ≤ j → j < i → isPart (T.at_ L j) = true) ∧ (0 < sB T L i → isPart (T.at_ L (sB T L i - 1)) = false) := by
  intro i
  induction i with
  | zero => exact ⟨Nat.le_refl _, fun j _ h => by omega, fun h => by simp [sB] at h⟩
  | succ i ih =>
      cases hp : isPart (T.at_ L i)
      · rw [sB_stop hp]
        exact ⟨Nat.le_refl _, fun j h1 h2 => by omega, fun _ => hp⟩
      · rw [sB_step hp]
        refine ⟨by omega, fun j h1 h2 => ?_, ih.2.2⟩
        by_cases e : j = i
        · rw [e]; exact hp
        · exact ih.2.1 j h1 (by omega)
theorem sF_spec : ∀ {i : Nat}, i ≤ L.length → i ≤ sF T L i ∧ sF T L i ≤ L.length ∧ (∀ j, i ≤ j → j < sF T L i → isPart (T.at_ L j) = true) ∧ (sF T L i < L.length → isPart (T.at_ L (sF T L i)) = false) := by
  intro i h
  obtain ⟨d, hd⟩ : ∃ d, d = L.length - i := ⟨_, rfl⟩
  induction d generalizing i with
  | zero =>
      have h2 : L.length ≤ i := by omega
      rw [sF_end h2]
      exact ⟨Nat.le_refl _, h, fun j h1 h3 => by omega, fun h3 => by omega⟩
  | succ d ih =>
      have h2 : i < L.length := by omega
      cases hp : isPart (T.at_ L i)
      · rw [sF_stop h2 hp]
        exact ⟨Nat.le_refl _, h, fun j h1 h3 => by omega, fun _ => hp⟩
      · rw [sF_step h2 hp]
        obtain ⟨h3, h4, h5, h6⟩ := ih (i := i + 1) (by omega) (by omega)
        refine ⟨by omega, h4, fun j h7 h8 => ?_, h6⟩
        by_cases e : j = i
        · rw [e]; exact hp
        · exact h5 j (by omega) h8
/-- Is there a word or symbol character at an index? -/
def namedAt (T : Tb) (L : List Nat) (i : Int) : Bool := decide (0 ≤ i ∧ i < L.length) && isPart (T.at_ L i.toNat)
/-- The law of Symbol. -/
theorem symb_none (h : i ≤ L.length) (hs : (symb T L i).2.2 = false) : (symb T L i).1 = 0 ∧ (symb T L i).2.1 = 0 ∧ namedAt T L ((i : Int) - 1) = false ∧ namedAt T L (i : Int) = false := by
  unfold symb at hs ⊢
  split at hs
  · rename_i e
    rw [if_pos e]
    have hB := sB_spec (T := T) (L := L) i
    have hF := sF_spec (T := T) (L := L) h
    have e1 : sB T L i = i := by omega
    have e2 : sF T L i = i := by omega
    refine ⟨rfl, rfl, ?_, ?_⟩
    · unfold namedAt
      by_cases hi : 0 < i
      · have := hB.2.2 (by omega)
        rw [e1] at this
        rw [show ((i : Int) - 1).toNat = i - 1 by omega, this]
        simp
      · rw [decide_eq_false (by omega)]
        rfl
    · unfold namedAt
      by_cases hi : i < L.length
      · have := hF.2.2.2 (by omega)
        rw [e2] at this
        rw [show ((i : Int)).toNat = i by omega, this]
        simp
      · rw [decide_eq_false (by omega)]
        rfl
  · cases hs
theorem symb_some (h : i ≤ L.length) (hs : (symb T L i).2.2 = true) : (symb T L i).1 < (symb T L i).2.1 ∧ (symb T L i).2.1 ≤ L.length ∧ (symb T L i).1 ≤ i ∧ i ≤ (symb T L i).2.1 ∧
    (∀ j, (symb T L i).1 ≤ j → j < (symb T L i).2.1 → namedAt T L (j : Int) = true) ∧ namedAt T L (((symb T L i).1 : Int) - 1) = false ∧ namedAt T L ((symb T L i).2.1 : Int) = false := by
  unfold symb at hs ⊢
  split at hs
  · cases hs
  · rename_i e
    rw [if_neg e]
    have hB := sB_spec (T := T) (L := L) i
    have hF := sF_spec (T := T) (L := L) h
    simp only []
    refine ⟨by omega, hF.2.1, hB.1, hF.1, fun j h1 h2 => ?_, ?_, ?_⟩
    · have hp : isPart (T.at_ L j) = true := by
        by_cases hj : j < i
        · exact hB.2.1 j h1 hj
        · exact hF.2.2.1 j (by omega) h2
      unfold namedAt
      rw [decide_eq_true (by omega), show ((j : Int)).toNat = j by omega, hp]
      rfl
    · unfold namedAt
      by_cases hi : 0 < sB T L i
      · have := hB.2.2 hi
        rw [show ((sB T L i : Int) - 1).toNat = sB T L i - 1 by omega, this]
        simp
      · rw [decide_eq_false (by omega)]
        rfl
    · unfold namedAt
      by_cases hi : sF T L i < L.length
      · have := hF.2.2.2 hi
        rw [show ((sF T L i : Int)).toNat = sF T L i by omega, this]
        simp
      · rw [decide_eq_false (by omega)]
        rfl
end
end Go.Proofs.YtdojcgefiekleaaDoor
