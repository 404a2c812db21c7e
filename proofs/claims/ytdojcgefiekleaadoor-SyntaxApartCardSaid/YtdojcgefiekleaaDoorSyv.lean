/- Over a text character by character, from any state: plain laws. No condition but those written. -/
import Derived.Test.YtdojcgefiekleaaDoorSyo
namespace Go.Proofs.YtdojcgefiekleaaDoor
open Go.RowKit

/-- A state of the scan. -/
structure Sta where
  opens : List Int
  under : Int
  inn : Int
  comment : Bool
  start : Int
  quoted : Bool
/-- One more, as a 64-bit number. -/
def up1 (x : Int) : Int := if x = 9223372036854775807 then -9223372036854775808 else x + 1
def Sta.step (T : Tb) (s : Sta) (c : Nat) (i : Nat) : Sta :=
  if s.quoted then { s with quoted := false } else
  if s.inn ≠ 0 then (if T.cl (c : Int) = 7 then { s with quoted := true } else if (c : Int) = s.inn then { s with inn := 0, start := 0 } else s) else
  if s.comment then (if T.cl (c : Int) = 9 then { s with comment := false, start := 0 } else s) else
  if T.cl (c : Int) = 7 then { s with quoted := true } else
  if T.cl (c : Int) = 6 then { s with inn := (c : Int), start := (i : Int) } else
  if T.cl (c : Int) = 8 then { s with comment := true, start := (i : Int) } else
  if T.cl (c : Int) = 4 then { s with opens := s.opens ++ [(i : Int)] } else
  if T.cl (c : Int) = 5 then (if s.opens = [] then { s with under := up1 s.under } else { s with opens := s.opens.dropLast }) else s
/-- So many characters from an index; none: too deep. -/
def overN (T : Tb) (L : List Nat) : Nat → Nat → Sta → Option Sta
  | 0, _, s => some s
  | m + 1, i, s => if 200 < (s.step T (L.getD i 0) i).opens.length then none else overN T L m (i + 1) (s.step T (L.getD i 0) i)
section
variable {T : Tb} {L : List Nat}
theorem overN_add : ∀ (m k i : Nat) (s : Sta), overN T L (m + k) i s = (overN T L m i s).bind (overN T L k (i + m))
  | 0, k, i, s => by simp [overN]
  | m + 1, k, i, s => by
      rw [show m + 1 + k = (m + k) + 1 by omega]
      simp only [overN]
      split
      · rfl
      · rw [overN_add m k (i + 1), show i + 1 + m = i + (m + 1) by omega]
theorem step_under (s : Sta) (c i : Nat) (h : s.under < 9223372036854775807) : s.under ≤ (s.step T c i).under ∧ (s.step T c i).under ≤ s.under + 1 := by
  have e : up1 s.under = s.under + 1 := by unfold up1; rw [if_neg (by omega)]
  unfold Sta.step
  repeat' split
  all_goals try simp only [e]
  all_goals omega
theorem overN_deep : ∀ (m i : Nat) (s s' : Sta), s.opens.length ≤ 200 → overN T L m i s = some s' → s'.opens.length ≤ 200
  | 0, i, s, s', h, e => by
      simp only [overN, Option.some.injEq] at e
      rw [← e]
      exact h
  | m + 1, i, s, s', h, e => by
      simp only [overN] at e
      split at e
      · cases e
      · exact overN_deep m (i + 1) _ s' (by omega) e
theorem overN_under : ∀ (m i : Nat) (s s' : Sta), s.under + m ≤ 9223372036854775807 → overN T L m i s = some s' → s.under ≤ s'.under ∧ s'.under ≤ s.under + m
  | 0, i, s, s', h, e => by
      simp only [overN, Option.some.injEq] at e
      rw [← e]
      omega
  | m + 1, i, s, s', h, e => by
      simp only [overN] at e
      split at e
      · cases e
      · have h1 := step_under (T := T) s (L.getD i 0) i (by omega)
        have := overN_under m (i + 1) _ s' (by omega) e
        omega
end
end Go.Proofs.YtdojcgefiekleaaDoor
