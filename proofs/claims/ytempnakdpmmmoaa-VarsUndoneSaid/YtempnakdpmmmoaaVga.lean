/- Variables: marks, check and change at every number. No condition but those written. -/
import Derived.Test.YtempnakdpmmmoaaVarCon
import Derived.Test.YtempnakdpmmmoaaVarLoc3
namespace Go.Proofs.Ytempnakdpmmmoaa
open Go.RowKit

def markN (o : Option Bool) : Int := match o with
  | none => 0
  | some c => if c then 3 else 1
def putM : List (Int × Bool) → Int → Bool → List (Int × Bool)
  | [], n, c => [(n, c)]
  | x :: l, n, c => if n == x.1 then (n, c) :: l else x :: putM l n c
theorem putM_fnd (n : Int) (c : Bool) (m : Int) : ∀ l, fndM (putM l n c) m = if m = n then some c else fndM l m
  | [] => by
    unfold putM fndM
    by_cases h : m = n
    · simp [h]
    · simp [h]
  | x :: l => by
    have ih := putM_fnd n c m l
    unfold fndM at ih ⊢
    unfold putM
    by_cases hn : n = x.1
    · rw [if_pos (by simpa using hn)]
      by_cases h : m = n
      · simp [h]
      · have h2 : ¬ m = x.1 := by rw [← hn]; exact h
        simp [h, h2]
    · rw [if_neg (by simpa using hn)]
      by_cases h2 : m = x.1
      · have h : ¬ m = n := by rintro rfl; exact hn h2
        subst h2
        simp [h]
      · simp only [List.find?_cons]
        rw [show (m == x.1) = false by simpa using h2]
        exact ih
theorem putM_pairs (n : Int) (c : Bool) : ∀ l, mput (markPairs l) (.int .i64 n) (markV c) = markPairs (putM l n c)
  | [] => rfl
  | x :: l => by
    have ih := putM_pairs n c l
    simp only [markPairs] at ih
    simp only [markPairs, List.map_cons, mput, keyEq_int, putM]
    by_cases hn : n = x.1
    · simp [hn]
    · simp [hn, ih]
def chgV (s : Vst) (n : Int) : Int := if 0 ≤ n ∧ n < 16384 then (if fndM s.marks n = some true then 10 else 0) else 8
section
variable {W w w' : World} {b : Vb} {s : Vst} {R : Heap}
set_option maxRecDepth 100000 in
theorem marks_look (h : VarsAt W w b s R) (n : Int) : (Instr.lookup 54 (.map (some b.mb)) (.int .i64 n) false).run Try.prog w = .ok (.int .u8 (markN (fndM s.marks n))) w := by
  have hl := (h.mb).lookup (P := Try.prog) (mark_keys s.marks) Try.underlying54 Try.underlying3 (.int _ n) (zero_u8 w) false
  rw [mark_get] at hl
  cases hm : fndM s.marks n with
  | none => rw [hm] at hl; exact hl
  | some c => rw [hm] at hl; exact hl
set_option maxRecDepth 100000 in
set_option maxHeartbeats 1000000 in
theorem change_any (h : VarsAt W w b s R) (n : Int) : Calls Try.prog 34 #[.pointer (some ⟨b.vb, 0, none⟩), .int .i64 n] w fun e w' => e = .returned (.int .i64 (chgV s n)) ∧ w = w' := by
  unfold chgV
  by_cases hn : 0 ≤ n ∧ n < 16384
  · rw [if_pos hn]
    cases hm : fndM s.marks n with
    | none => rw [if_neg (by simp)]; exact change_ok h n hn hm
    | some c =>
      cases c with
      | true => rw [if_pos rfl]; exact change_const h n hn hm
      | false =>
        rw [if_neg (by simp)]
        have HC := hide (check_ok h n hn)
        have c2 : w.cell? ⟨b.vb, 2, none⟩ = some (.map (some b.mb)) := by rw [h.vb.cell]; rfl
        have hl := marks_look h n
        rw [hm] at hl
        simp only [markN, Bool.false_eq_true, if_false] at hl
        clear h hm hn
        go_enter Try.func34, Try.ntmps34
        go_wp2_with fail
        refine (Calls.mono HC.out) ?_
        rintro e w2 ⟨rfl, rfl⟩
        go_wp2
        go_ret
        exact ⟨rfl, rfl⟩
  · rw [if_neg hn]
    have HC := hide (check_unknown h n hn)
    clear h hn
    go_enter Try.func34, Try.ntmps34
    go_wp2_with fail
    refine (Calls.mono HC.out) ?_
    rintro e w2 ⟨rfl, rfl⟩
    go_wp2
    go_ret
    exact ⟨rfl, rfl⟩
end
end Go.Proofs.Ytempnakdpmmmoaa
