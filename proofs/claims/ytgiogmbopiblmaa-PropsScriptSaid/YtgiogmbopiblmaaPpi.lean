/- The object, where it lies; check. No condition but those written. -/
import Derived.Test.YtgiogmbopiblmaaPph
namespace Go.Proofs.Ytgiogmbopiblmaa
open Go.RowKit

/-- The properties of a text, in memory. -/
structure PropsAt (W : World) (b : Nat) (sv : Value) (L : List (Pc × Value)) : Prop where
  box : Blk W b 69 #[sv, .bool true]
  inn : PcsAt W sv L
  nf : Nf 0 [] (pcs L)
/-- The error of an interval and a name. -/
def chkE (a b n : Int) : Int := if 1 ≤ a ∧ a ≤ b ∧ b ≤ 65537 then (if n < 0 then 17 else 0) else 3
section
variable {w : World} {b : Nat} {sv : Value} {L : List (Pc × Value)}
theorem none_nil (w : World) : Calls Try.prog 52 #[.pointer none] w fun e w' => e = .returned (.bool true) ∧ w = w' := by
  go_enter Try.func52, Try.ntmps52
  go_wp2
  go_ret
  exact ⟨rfl, rfl⟩
theorem none_at (h : PropsAt w b sv L) : Calls Try.prog 52 #[.pointer (some ⟨b, 0, none⟩)] w fun e w' => e = .returned (.bool false) ∧ w = w' := by
  have c1 := h.box.cell 1
  have f1 := h.box.frozen 1
  clear h
  go_enter Try.func52, Try.ntmps52
  go_wp2
  go_ret
  exact ⟨rfl, rfl⟩
theorem check_nil (x y n : Int) (w : World) : Calls Try.prog 43 #[.pointer none, .int .i64 x, .int .i64 y, .int .i64 n] w fun e w' => e = .returned (.int .i64 1) ∧ w = w' := by
  go_enter Try.func43, Try.ntmps43
  go_wp2_with (go_at_call 52; (with_reducible refine Calls.mono (none_nil _) ?_); rintro r w2 ⟨rfl, rfl⟩)
  go_ret
  exact ⟨rfl, rfl⟩
theorem check_at (h : PropsAt w b sv L) (x y n : Int) : Calls Try.prog 43 #[.pointer (some ⟨b, 0, none⟩), .int .i64 x, .int .i64 y, .int .i64 n] w fun e w' => e = .returned (.int .i64 (chkE x y n)) ∧ w = w' := by
  have HN := hide (none_at h)
  have HM := hide (may_any x y w)
  clear h
  unfold chkE
  by_cases hm : 1 ≤ x ∧ x ≤ y ∧ y ≤ 65537
  · rw [decide_eq_true hm] at HM
    rw [if_pos hm]
    clear hm
    by_cases hn : n < 0
    · rw [if_pos hn]
      go_enter Try.func43, Try.ntmps43
      go_wp2_with (first | (go_at_call 52; (with_reducible refine Calls.mono HN.out ?_); rintro r w2 ⟨rfl, rfl⟩) | (go_at_call 53; (with_reducible refine Calls.mono HM.out ?_); rintro r w2 ⟨rfl, rfl⟩))
      go_ret
      exact ⟨rfl, rfl⟩
    · rw [if_neg hn]
      go_enter Try.func43, Try.ntmps43
      go_wp2_with (first | (go_at_call 52; (with_reducible refine Calls.mono HN.out ?_); rintro r w2 ⟨rfl, rfl⟩) | (go_at_call 53; (with_reducible refine Calls.mono HM.out ?_); rintro r w2 ⟨rfl, rfl⟩))
      go_ret
      exact ⟨rfl, rfl⟩
  · rw [decide_eq_false hm] at HM
    rw [if_neg hm]
    clear hm
    go_enter Try.func43, Try.ntmps43
    go_wp2_with (first | (go_at_call 52; (with_reducible refine Calls.mono HN.out ?_); rintro r w2 ⟨rfl, rfl⟩) | (go_at_call 53; (with_reducible refine Calls.mono HM.out ?_); rintro r w2 ⟨rfl, rfl⟩))
    go_ret
    exact ⟨rfl, rfl⟩
end
end Go.Proofs.Ytgiogmbopiblmaa
