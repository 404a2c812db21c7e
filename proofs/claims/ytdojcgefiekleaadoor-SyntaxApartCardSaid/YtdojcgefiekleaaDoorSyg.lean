/- Set of a table: the program's. No condition but those written. -/
import Derived.Test.YtdojcgefiekleaaDoorSyf
namespace Go.Proofs.YtdojcgefiekleaaDoor
open Go.RowKit

section
variable {w : World} {p : TL} {T : Tb}
set_option maxRecDepth 100000 in
set_option maxHeartbeats 4000000 in
theorem tset_bad (h : TabAt w p T) (c k m : Int) (hs : setOk c k m = false) : Calls Tryd.prog 28 #[.pointer (some ⟨p.t, 0, none⟩), .int .i64 c, .int .i64 k, .int .i64 m] w fun e w' => e = .returned (.int .i64 2) ∧ w = w' := by
  have HN := hide (none_some h)
  obtain ⟨a, ha⟩ : ∃ a, a = isCh c := ⟨_, rfl⟩
  obtain ⟨b, hb⟩ : ∃ b, b = mated k := ⟨_, rfl⟩
  obtain ⟨d, hd⟩ : ∃ d, d = isCh m := ⟨_, rfl⟩
  unfold setOk at hs
  rw [← ha, ← hb, ← hd] at hs
  have HA := hide ha.symm
  have HB := hide hb.symm
  have HD := hide hd.symm
  clear ha hb hd h
  cases a
  · clear hs
    go_enter Tryd.func28, Tryd.ntmps28
    go_wp2_with (first | (go_at_call 61; refine (Calls.mono HN.out) ?_; rintro e w' ⟨rfl, rfl⟩) | (go_at_call 62; refine (ris_any _ _).mono ?_; rintro e w' ⟨rfl, rfl⟩; first | rw [HA.out] | rw [HD.out]) | (go_at_call 63; refine (mated_any _ _).mono ?_; rintro e w' ⟨rfl, rfl⟩; rw [HB.out]))
    all_goals go_ret
    all_goals exact ⟨rfl, rfl⟩
  · by_cases h1 : k < 0
    · clear hs
      go_enter Tryd.func28, Tryd.ntmps28
      go_wp2_with (first | (go_at_call 61; refine (Calls.mono HN.out) ?_; rintro e w' ⟨rfl, rfl⟩) | (go_at_call 62; refine (ris_any _ _).mono ?_; rintro e w' ⟨rfl, rfl⟩; first | rw [HA.out] | rw [HD.out]) | (go_at_call 63; refine (mated_any _ _).mono ?_; rintro e w' ⟨rfl, rfl⟩; rw [HB.out]))
      all_goals go_ret
      all_goals exact ⟨rfl, rfl⟩
    · by_cases h2 : 10 < k
      · clear hs
        go_enter Tryd.func28, Tryd.ntmps28
        go_wp2_with (first | (go_at_call 61; refine (Calls.mono HN.out) ?_; rintro e w' ⟨rfl, rfl⟩) | (go_at_call 62; refine (ris_any _ _).mono ?_; rintro e w' ⟨rfl, rfl⟩; first | rw [HA.out] | rw [HD.out]) | (go_at_call 63; refine (mated_any _ _).mono ?_; rintro e w' ⟨rfl, rfl⟩; rw [HB.out]))
        all_goals go_ret
        all_goals exact ⟨rfl, rfl⟩
      · have h3 : 0 ≤ k ∧ k ≤ 10 := by omega
        have hbd : b = true ∧ d = false := by
          cases b <;> cases d <;> simp_all
        obtain ⟨rfl, rfl⟩ := hbd
        clear hs h3
        go_enter Tryd.func28, Tryd.ntmps28
        go_wp2_with (first | (go_at_call 61; refine (Calls.mono HN.out) ?_; rintro e w' ⟨rfl, rfl⟩) | (go_at_call 62; refine (ris_any _ _).mono ?_; rintro e w' ⟨rfl, rfl⟩; first | rw [HA.out] | rw [HD.out]) | (go_at_call 63; refine (mated_any _ _).mono ?_; rintro e w' ⟨rfl, rfl⟩; rw [HB.out]))
        all_goals go_ret
        all_goals exact ⟨rfl, rfl⟩
end
end Go.Proofs.YtdojcgefiekleaaDoor
