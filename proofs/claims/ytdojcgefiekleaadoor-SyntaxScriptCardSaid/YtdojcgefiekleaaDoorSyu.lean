/- Over a text character by character, from any state: plain laws. No condition but those written. -/
import Derived.Test.YtdojcgefiekleaaDoorSyo
namespace Go.Proofs.YtdojcgefiekleaaDoor
open Go.RowKit

/-- A state of the scan. -/
structure Sta where
  opens : List Int
  under : Int
  inn : Int
  comment : Bool
  start : Int
  quoted : Bool
/-- One more, as a 64-bit number. -/
def up1 (x : Int) : Int := if x = 9223372036854775807 then -9223372036854775808 else x + 1
def Sta.step (T : Tb) (s : Sta) (c : Nat) (i : Nat) : Sta :=
  if s.quoted then { s with quoted := false } else
  if s.inn ≠ 0 then (if T.cl (c : Int) = 7 then { s with quoted := true } else if (c : Int) = s.inn then { s with inn := 0, start := 0 } else s) else
  if s.comment then (if T.cl (c : Int) = 9 then { s with comment := false, start := 0 } else s) else
  if T.cl (c : Int) = 7 then { s with quoted := true } else
  if T.cl (c : Int) = 6 then { s with inn := (c : Int), start := (i : Int) } else
  if T.cl (c : Int) = 8 then { s with comment := true, start := (i : Int) } else
  if T.cl (c : Int) = 4 then { s with opens := s.opens ++ [(i : Int)] } else
  if T.cl (c : Int) = 5 then (if s.opens = [] then { s with under := up1 s.under } else { s with opens := s.opens.dropLast }) else s
/-- So many characters from an index; none: too deep. -/
def overN (T : Tb) (L : List Nat) : Nat → Nat → Sta → Option Sta
  | 0, _, s => some s
  | m + 1, i, s => if 200 < (s.step T (L.getD i 0) i).opens.length then none else overN T L m (i + 1) (s.step T (L.getD i 0) i)
section
variable {T : Tb} {L : List Nat}
theorem overN_add : ∀ (m k i : Nat) (s : Sta), overN T L (m + k) i s = (overN T L m i s).bind (overN T L k (i + m))
  | 0, k, i, s => by simp [overN]
  | m + 1, k, i, s => by
      rw [show m + 1 + k = (m + k) + 1 by omega]
      simp only [overN]
      split
      · rfl
      · rw [overN_add m k (i + 1), show i + 1 + m = i + (m + 1) by omega]
theorem step_under (s : Sta) (c i : Nat) (h : s.under < 9223372036854775807) : s.under ≤ (s.step T c i).under ∧ (s.step T c i).under ≤ s.under + 1 := by
  have e : up1 s.under = s.under + 1 := by unfold up1; rw [if_neg (by omega)]
  unfold Sta.step
  repeat' split
  all_goals try simp only [e]
  all_goals omega
theorem overN_deep : ∀ (m i : Nat) (s s' : Sta), s.opens.length ≤ 200 → overN T L m i s = some s' → s'.opens.length ≤ 200
  | 0, i, s, s', h, e => by
      simp only [overN, Option.some.injEq] at e
      rw [← e]
      exact h
  | m + 1, i, s, s', h, e => by
      simp only [overN] at e
      split at e
      · cases e
      · exact overN_deep m (i + 1) _ s' (by omega) e
theorem overN_under : ∀ (m i : Nat) (s s' : Sta), s.under + m ≤ 9223372036854775807 → overN T L m i s = some s' → s.under ≤ s'.under ∧ s'.under ≤ s.under + m
  | 0, i, s, s', h, e => by
      simp only [overN, Option.some.injEq] at e
      rw [← e]
      omega
  | m + 1, i, s, s', h, e => by
      simp only [overN] at e
      split at e
      · cases e
      · have h1 := step_under (T := T) s (L.getD i 0) i (by omega)
        have := overN_under m (i + 1) _ s' (by omega) e
        omega
end
end Go.Proofs.YtdojcgefiekleaaDoor
namespace Go.Proofs.YtdojcgefiekleaaDoor
open Go.RowKit

section
variable {T : Tb} {L : List Nat} {i n : Nat}
theorem wordsF_one : wordsF T L 1 i = if wF T L i = L.length then (wF T L i, false) else (wE T L (wF T L i), true) := rfl
theorem wordsB_one : wordsB T L 1 i = if bN T L i = 0 then (0, false) else (bE T L (bN T L i), true) := rfl
theorem wordsF_more : wordsF T L (n + 1) i = if (wordsF T L 1 i).2 then wordsF T L n (wordsF T L 1 i).1 else wordsF T L 1 i := by
  rw [wordsF_one]
  simp only [wordsF]
  split <;> rfl
theorem wordsB_more : wordsB T L (n + 1) i = if (wordsB T L 1 i).2 then wordsB T L n (wordsB T L 1 i).1 else wordsB T L 1 i := by
  rw [wordsB_one]
  simp only [wordsB]
  split <;> rfl
theorem word1_F (h : i ≤ L.length) {e : Nat} {o : Bool} (hr : wordsF T L 1 i = (e, o)) : i ≤ e ∧ e ≤ L.length ∧ (o = false → (runs T L (e - i) i (0, false)).1 = 0 ∧ e = L.length) ∧
    (o = true → (runs T L (e - i) i (0, false)).1 = 1 ∧ 0 < e ∧ T.at_ L (e - 1) = 1 ∧ (e < L.length → T.at_ L e ≠ 1)) := by
  have hw := wF_spec (T := T) (L := L) h
  have he := wE_spec (T := T) (L := L) hw.2.1
  rw [wordsF_one] at hr
  split at hr
  · rename_i e1
    obtain ⟨rfl, rfl⟩ := Prod.mk.inj hr
    refine ⟨hw.1, hw.2.1, fun _ => ⟨?_, e1⟩, fun h => by cases h⟩
    exact (runs_none _ _ _ fun j h1 h2 => hw.2.2.1 j h1 (by omega)).1
  · rename_i e1
    obtain ⟨rfl, rfl⟩ := Prod.mk.inj hr
    have hat := hw.2.2.2 (by omega)
    have hlt : wF T L i < wE T L (wF T L i) := by
      rw [wE_step (by omega) hat]
      have := (wE_spec (T := T) (L := L) (i := wF T L i + 1) (by omega)).1
      omega
    refine ⟨by omega, he.2.1, (fun h => nomatch h), fun _ => ⟨?_, by omega, he.2.2.1 _ (by omega) (by omega), he.2.2.2⟩⟩
    rw [show wE T L (wF T L i) - i = (wF T L i - i) + (wE T L (wF T L i) - wF T L i) by omega, runs_add]
    have h1 := runs_none (T := T) (L := L) (wF T L i - i) i (0, false) fun j h1 h2 => hw.2.2.1 j h1 (by omega)
    rw [show i + (wF T L i - i) = wF T L i by omega, runs_all _ _ _ fun j h1 h2 => he.2.2.1 j h1 (by omega)]
    have h2 : (runs T L (wF T L i - i) i (0, false)).2 = false := by
      by_cases hz : 0 < wF T L i - i
      · exact h1.2 hz
      · rw [show wF T L i - i = 0 by omega]
        rfl
    simp only [h2, h1.1]
    rw [if_pos ⟨by omega, trivial⟩]
theorem word1_B (h : i ≤ L.length) {e : Nat} {o : Bool} (hr : wordsB T L 1 i = (e, o)) : e ≤ i ∧ (o = false → (runs T L (i - e) e (0, false)).1 = 0 ∧ e = 0) ∧
    (o = true → (runs T L (i - e) e (0, false)).1 = 1 ∧ e < L.length ∧ T.at_ L e = 1 ∧ (0 < e → T.at_ L (e - 1) ≠ 1)) := by
  have hw := bN_spec (T := T) (L := L) (i := i)
  have he := bE_spec (T := T) (L := L) (i := bN T L i)
  rw [wordsB_one] at hr
  split at hr
  · rename_i e1
    obtain ⟨rfl, rfl⟩ := Prod.mk.inj hr
    refine ⟨by omega, fun _ => ⟨?_, rfl⟩, fun h => by cases h⟩
    exact (runs_none _ _ _ fun j h1 h2 => hw.2.1 j (by omega) (by omega)).1
  · rename_i e1
    obtain ⟨rfl, rfl⟩ := Prod.mk.inj hr
    have hat := hw.2.2 (by omega)
    have hlt : bE T L (bN T L i) < bN T L i := by
      obtain ⟨m, hm⟩ : ∃ m, bN T L i = m + 1 := ⟨bN T L i - 1, by omega⟩
      rw [hm] at hat ⊢
      rw [bE_step (by simpa using hat)]
      have := (bE_spec (T := T) (L := L) (i := m)).1
      omega
    refine ⟨by omega, (fun h => nomatch h), fun _ => ⟨?_, by omega, he.2.1 _ (by omega) (by omega), he.2.2⟩⟩
    rw [show i - bE T L (bN T L i) = (bN T L i - bE T L (bN T L i)) + (i - bN T L i) by omega, runs_add]
    rw [runs_all _ _ _ fun j h1 h2 => he.2.1 j h1 (by omega)]
    rw [if_pos ⟨by omega, rfl⟩, if_pos (by omega), show bE T L (bN T L i) + (bN T L i - bE T L (bN T L i)) = bN T L i by omega]
    exact (runs_none _ _ _ fun j h1 h2 => hw.2.1 j h1 (by omega)).1
end
end Go.Proofs.YtdojcgefiekleaaDoor
