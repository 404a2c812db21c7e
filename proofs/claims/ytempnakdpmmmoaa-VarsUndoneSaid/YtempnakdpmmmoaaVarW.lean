/- What the methods of the variables do: the small ones. No condition but those written. -/
import Derived.Test.YtempnakdpmmmoaaVar
import Derived.Test.YtempnakdpmmmoaaChecked
import Derived.RegionTactic
import Derived.BigRegion
import Derived.ChangeAlike
import Derived.BigQuiet
import Derived.Deep.QuietTactic
import Derived.Laws.ResultCell
import Derived.Laws.Rows
import Derived.Maps.RangeWalk
namespace Go.Proofs.Ytempnakdpmmmoaa
open Go.RowKit

theorem neq_cells (w : World) (r : Option Nat) : (binOp .neq 52 (.map r) (.map none)).run Try.prog w = .ok (.bool (!r.isNone)) w := run_neq_map_nil w _ _ _ r Try.underlying52
attribute [local go_sem] neq_cells

/-- What Pick returns. -/
def pickZ (n k : Int) : Int := if n.tmod k < 0 then n.tmod k + k else n.tmod k
theorem pickZ_ge {n k : Int} (hk : 0 < k) : 0 ≤ pickZ n k := by
  have := Int.lt_tmod_of_pos n hk
  unfold pickZ
  split <;> omega
theorem pickZ_lt {n k : Int} (hk : 0 < k) : pickZ n k < k := by
  have := Int.tmod_lt_of_pos n hk
  unfold pickZ
  split <;> omega
theorem pick_any (n k : Int) (w : World) (hk : 0 < k) (hk2 : k ≤ 100000) : Calls Try.prog 8 #[.int .i64 n, .int .i64 k] w fun e w' => e = .returned (.int .i64 (pickZ n k)) ∧ w = w' := by
  have hz : decide (k ≤ 0) = false := by simp; omega
  have b1 := Int.lt_tmod_of_pos n hk
  have b2 := Int.tmod_lt_of_pos n hk
  by_cases h : n.tmod k < 0
  · have hz2 : decide (n.tmod k < 0) = true := by simpa using h
    have HP := hide (show pickZ n k = n.tmod k + k by unfold pickZ; rw [if_pos h])
    go_enter Try.func8, Try.ntmps8
    go_wp2
    go_ret
    exact ⟨by rw [HP.out]; rfl, rfl⟩
  · have hz2 : decide (n.tmod k < 0) = false := by simpa using h
    have HP := hide (show pickZ n k = n.tmod k by unfold pickZ; rw [if_neg h])
    go_enter Try.func8, Try.ntmps8
    go_wp2
    go_ret
    exact ⟨by rw [HP.out]; rfl, rfl⟩

theorem int_any (n : Int) (w : World) : Calls Try.prog 38 #[.int .i64 n] w fun e w' => e = .returned (.agg #[.int .i64 0, .int .i64 n]) ∧ Below w.heap.size w w' := by
  go_enter Try.func38, Try.ntmps38
  go_wp2
  refine bodyPost_ret (v := .agg #[.int .i64 0, .int .i64 n]) ?_ rfl ⟨rfl, (Below.refl _ _).alloc (Nat.le_refl _) _⟩
  simp [results, Try.results38, go_sem]
theorem int1_any (n : Int) (w : World) : Calls Try.prog 11 #[.int .i64 n] w fun e w' => e = .returned (.agg #[.int .i64 0, .int .i64 n]) ∧ Below w.heap.size w w' := by
  have HI := hide (int_any n (w.alloc (.cells #[.int .i64 0, .int .i64 0] 29)))
  go_enter Try.func11, Try.ntmps11
  go_wp2_with fail
  refine (Calls.mono HI.out) ?_
  rintro e w2 ⟨rfl, hb⟩
  have hB := ((Below.refl _ w).alloc (Nat.le_refl _) (.cells #[.int .i64 0, .int .i64 0] 29)).trans (hb.mono (by simp))
  have hk : Blk w2 w.heap.size 29 #[.int .i64 0, .int .i64 0] := (Blk.new w 29 #[.int .i64 0, .int .i64 0]).below hb (by simp)
  have k0 : w2.cell? ⟨w.heap.size, 0, none⟩ = some (.int .i64 0) := by rw [hk.cell]; rfl
  have k1 : w2.cell? ⟨w.heap.size, 1, none⟩ = some (.int .i64 0) := by rw [hk.cell]; rfl
  have f0 := hk.frozen 0
  have f1 := hk.frozen 1
  have HK := hide ((hk.set_ 0 (.int .i64 0)).set_ 1 (.int .i64 n))
  have HB := hide ((hB.setCell (p := ⟨w.heap.size, 0, none⟩) (Nat.le_refl _) (.int .i64 0)).setCell (p := ⟨w.heap.size, 1, none⟩) (Nat.le_refl _) (.int .i64 n))
  clear hB hb hk HI
  go_wp2
  exact bodyPost_ret (v := .agg #[.int .i64 0, .int .i64 n]) (results_cell_row rfl _ _ w.heap.size _ _ (0, 0) _ rfl HK.out Try.underlying29 rfl (by kernel_rfl)) rfl ⟨rfl, HB.out⟩

theorem variable_any (n : Int) (w : World) : Calls Try.prog 50 #[.int .i64 n] w fun e w' => e = .returned (.bool (decide (0 ≤ n ∧ n < 16384))) ∧ w = w' := by
  by_cases h0 : 0 ≤ n
  · by_cases h1 : n < 16384
    · go_enter Try.func50, Try.ntmps50
      go_wp2
      go_ret
      exact ⟨ret_bool (by simp; omega), rfl⟩
    · go_enter Try.func50, Try.ntmps50
      go_wp2
      go_ret
      exact ⟨ret_bool (by simp; omega), rfl⟩
  · go_enter Try.func50, Try.ntmps50
    go_wp2
    go_ret
    exact ⟨ret_bool (by simp; omega), rfl⟩

section
variable {W w w' : World} {b : Vb} {s : Vst} {R : Heap}
theorem made_any (h : VarsAt W w b s R) : Calls Try.prog 39 #[.pointer (some ⟨b.vb, 0, none⟩)] w fun e w' => e = .returned (.bool true) ∧ w = w' := by
  have c0 : w.cell? ⟨b.vb, 0, none⟩ = some (.map (some b.db)) := by rw [h.vb.cell]; rfl
  clear h
  go_enter Try.func39, Try.ntmps39
  go_wp2
  go_ret
  exact ⟨rfl, rfl⟩
theorem check_ok (h : VarsAt W w b s R) (n : Int) (hn : 0 ≤ n ∧ n < 16384) : Calls Try.prog 40 #[.pointer (some ⟨b.vb, 0, none⟩), .int .i64 n] w fun e w' => e = .returned (.int .i64 0) ∧ w = w' := by
  have HM := hide (made_any h)
  have HV := hide (variable_any n w)
  rw [show decide (0 ≤ n ∧ n < 16384) = true by simp; omega] at HV
  clear h
  go_enter Try.func40, Try.ntmps40
  go_wp2_with fail
  refine (Calls.mono HM.out) ?_
  rintro e w2 ⟨rfl, rfl⟩
  go_wp2_with fail
  refine (Calls.mono HV.out) ?_
  rintro e w2 ⟨rfl, rfl⟩
  go_wp2
  go_ret
  exact ⟨rfl, rfl⟩
theorem check_unknown (h : VarsAt W w b s R) (n : Int) (hn : ¬ (0 ≤ n ∧ n < 16384)) : Calls Try.prog 40 #[.pointer (some ⟨b.vb, 0, none⟩), .int .i64 n] w fun e w' => e = .returned (.int .i64 8) ∧ w = w' := by
  have HM := hide (made_any h)
  have HV := hide (variable_any n w)
  rw [show decide (0 ≤ n ∧ n < 16384) = false by simp; omega] at HV
  clear h
  go_enter Try.func40, Try.ntmps40
  go_wp2_with fail
  refine (Calls.mono HM.out) ?_
  rintro e w2 ⟨rfl, rfl⟩
  go_wp2_with fail
  refine (Calls.mono HV.out) ?_
  rintro e w2 ⟨rfl, rfl⟩
  go_wp2
  go_ret
  exact ⟨rfl, rfl⟩
theorem depth_any (h : VarsAt W w b s R) : Calls Try.prog 14 #[.pointer (some ⟨b.vb, 0, none⟩)] w fun e w' => e = .returned (.int .i64 (s.notes.length : Int)) ∧ w = w' := by
  have HM := hide (made_any h)
  obtain ⟨A, c, hv, _⟩ := h.sl.form
  have c0 : w.cell? ⟨b.vb, 3, none⟩ = some (.slice A s.notes.length c) := by rw [h.vb.cell, hv]; rfl
  clear h hv
  go_enter Try.func14, Try.ntmps14
  go_wp2_with fail
  refine (Calls.mono HM.out) ?_
  rintro e w2 ⟨rfl, rfl⟩
  go_wp2
  go_ret
  exact ⟨rfl, rfl⟩
theorem zero_u8 (w : World) : (zeroValue 5).run Try.prog w = .ok (.int .u8 0) w := by kernel_rfl
set_option maxRecDepth 100000 in
theorem change_ok (h : VarsAt W w b s R) (n : Int) (hn : 0 ≤ n ∧ n < 16384) (hm : fndM s.marks n = none) : Calls Try.prog 34 #[.pointer (some ⟨b.vb, 0, none⟩), .int .i64 n] w fun e w' => e = .returned (.int .i64 0) ∧ w = w' := by
  have HC := hide (check_ok h n hn)
  have c2 : w.cell? ⟨b.vb, 2, none⟩ = some (.map (some b.mb)) := by rw [h.vb.cell]; rfl
  have hl := (h.mb).lookup (P := Try.prog) (mark_keys s.marks) Try.underlying54 Try.underlying3 (.int _ n) (zero_u8 w) false
  rw [mark_get, hm] at hl
  simp only [Option.map_none, Option.getD_none, Bool.false_eq_true, if_false] at hl
  clear h hm hn
  go_enter Try.func34, Try.ntmps34
  go_wp2_with fail
  refine (Calls.mono HC.out) ?_
  rintro e w2 ⟨rfl, rfl⟩
  go_wp2
  go_ret
  exact ⟨rfl, rfl⟩
end
end Go.Proofs.Ytempnakdpmmmoaa
