/- The walk of the reference's Check. No condition but those written. -/
import Derived.Test.YtghcmakhfdnimaaDoorRefB
import Derived.Test.YtghcmakhfdnimaaDoorUndC
namespace Go.Proofs.YtghcmakhfdnimaaDoor
open Go.RowKit

theorem rplace_yes {a : Int} (h : 1 ≤ a ∧ a ≤ 1099511627776) (w : World) : Calls Tryd.prog 55 #[.int .i64 a] w fun e w' => e = .returned (.bool true) ∧ w = w' := by
  have := rplace_any a w
  rwa [decide_eq_true h] at this
theorem rplace_no {a : Int} (h : ¬ (1 ≤ a ∧ a ≤ 1099511627776)) (w : World) : Calls Tryd.prog 55 #[.int .i64 a] w fun e w' => e = .returned (.bool false) ∧ w = w' := by
  have := rplace_any a w
  rwa [decide_eq_false h] at this
set_option maxRecDepth 100000 in
set_option maxHeartbeats 1000000 in
theorem rcheck_k1 (c : Chg) (w : World) (hk : c.k = 1) (hs : c.tx.size ≤ 1099511627776) : Calls Tryd.prog 39 #[c.val] w (CheckRes w c.check) := by
  obtain ⟨k, a, t, id, nm, tx, vk, vn, had⟩ := c
  obtain rfl : k = 1 := hk
  have HB := hide ((Below.refl _ w).alloc (Nat.le_refl _) (.cells #[.int .i64 1, .int .i64 a, .int .i64 t, .int .i64 id, .int .i64 nm, .string tx, .int .i64 vk, .int .i64 vn, .bool had] 51))
  clear hs
  by_cases ha : 1 ≤ a ∧ a ≤ 1099511627776
  · have HPA := hide (rplace_yes ha)
    by_cases ht : t < a
    · have z0 : decide (t < a) = true := by simpa using ht
      have HC := hide (show Chg.check ⟨1, a, t, id, nm, tx, vk, vn, had⟩ = 2 by simp only [Chg.check]; (repeat' split) <;> (first | rfl | (exfalso; omega) | simp_all))
      clear ha ht
      go_enter Tryd.func39, Tryd.ntmps39
      go_wp2_with fail
      refine (Calls.mono (HPA.out _)) ?_
      rintro e w2 ⟨rfl, rfl⟩
      go_wp2
      go_ret
      exact ⟨by rw [HC.out]; rfl, HB.out⟩
    · have z0 : decide (t < a) = false := by simpa using ht
      by_cases hp : 1 ≤ t ∧ t ≤ 1099511627776
      · have HPT := hide (rplace_yes hp)
        have HC := hide (show Chg.check ⟨1, a, t, id, nm, tx, vk, vn, had⟩ = 0 by simp only [Chg.check]; (repeat' split) <;> (first | rfl | (exfalso; omega) | simp_all))
        clear ha ht hp
        go_enter Tryd.func39, Tryd.ntmps39
        go_wp2_with fail
        refine (Calls.mono (HPA.out _)) ?_
        rintro e w2 ⟨rfl, rfl⟩
        go_wp2_with fail
        refine (Calls.mono (HPT.out _)) ?_
        rintro e w2 ⟨rfl, rfl⟩
        go_wp2
        go_ret
        exact ⟨by rw [HC.out]; rfl, HB.out⟩
      · have HPT := hide (rplace_no hp)
        have hq : 1099511627776 < t := by omega
        have HC := hide (show Chg.check ⟨1, a, t, id, nm, tx, vk, vn, had⟩ = 2 by simp only [Chg.check]; (repeat' split) <;> (first | rfl | (exfalso; omega) | simp_all))
        clear ha ht hp hq
        go_enter Tryd.func39, Tryd.ntmps39
        go_wp2_with fail
        refine (Calls.mono (HPA.out _)) ?_
        rintro e w2 ⟨rfl, rfl⟩
        go_wp2_with fail
        refine (Calls.mono (HPT.out _)) ?_
        rintro e w2 ⟨rfl, rfl⟩
        go_wp2
        go_ret
        exact ⟨by rw [HC.out]; rfl, HB.out⟩
  · have HPA := hide (rplace_no ha)
    have HC := hide (show Chg.check ⟨1, a, t, id, nm, tx, vk, vn, had⟩ = 2 by simp only [Chg.check]; (repeat' split) <;> (first | rfl | (exfalso; omega) | simp_all))
    clear ha
    go_enter Tryd.func39, Tryd.ntmps39
    go_wp2_with fail
    refine (Calls.mono (HPA.out _)) ?_
    rintro e w2 ⟨rfl, rfl⟩
    go_wp2
    go_ret
    exact ⟨by rw [HC.out]; rfl, HB.out⟩
set_option maxRecDepth 100000 in
set_option maxHeartbeats 1000000 in
theorem rcheck_k2 (c : Chg) (w : World) (hk : c.k = 2) (hs : c.tx.size ≤ 1099511627776) : Calls Tryd.prog 39 #[c.val] w (CheckRes w c.check) := by
  obtain ⟨k, a, t, id, nm, tx, vk, vn, had⟩ := c
  obtain rfl : k = 2 := hk
  have HB := hide ((Below.refl _ w).alloc (Nat.le_refl _) (.cells #[.int .i64 2, .int .i64 a, .int .i64 t, .int .i64 id, .int .i64 nm, .string tx, .int .i64 vk, .int .i64 vn, .bool had] 51))
  have HV := hide (refvalid_any tx (w.alloc (.cells #[.int .i64 2, .int .i64 a, .int .i64 t, .int .i64 id, .int .i64 nm, .string tx, .int .i64 vk, .int .i64 vn, .bool had] 51)) (by simp at hs; omega))
  clear hs
  by_cases ha : 1 ≤ a ∧ a ≤ 1099511627776
  · have HPA := hide (rplace_yes ha)
    cases hv : validS tx with
    | true =>
      have HC := hide (show Chg.check ⟨2, a, t, id, nm, tx, vk, vn, had⟩ = 0 by simp only [Chg.check]; (repeat' split) <;> (first | rfl | (exfalso; omega) | simp_all))
      rw [hv] at HV
      clear ha hv
      go_enter Tryd.func39, Tryd.ntmps39
      go_wp2_with fail
      refine (Calls.mono (HPA.out _)) ?_
      rintro e w2 ⟨rfl, rfl⟩
      go_wp2_with fail
      refine (Calls.mono HV.out) ?_
      rintro e w2 ⟨rfl, hb2⟩
      have HB2 := hide (HB.out.trans (hb2.mono HB.out.size))
      clear hb2
      go_wp2
      go_ret
      exact ⟨by rw [HC.out]; rfl, HB2.out⟩
    | false =>
      have HC := hide (show Chg.check ⟨2, a, t, id, nm, tx, vk, vn, had⟩ = 5 by simp only [Chg.check]; (repeat' split) <;> (first | rfl | (exfalso; omega) | simp_all))
      rw [hv] at HV
      clear ha hv
      go_enter Tryd.func39, Tryd.ntmps39
      go_wp2_with fail
      refine (Calls.mono (HPA.out _)) ?_
      rintro e w2 ⟨rfl, rfl⟩
      go_wp2_with fail
      refine (Calls.mono HV.out) ?_
      rintro e w2 ⟨rfl, hb2⟩
      have HB2 := hide (HB.out.trans (hb2.mono HB.out.size))
      clear hb2
      go_wp2
      go_ret
      exact ⟨by rw [HC.out]; rfl, HB2.out⟩
  · have HPA := hide (rplace_no ha)
    have HC := hide (show Chg.check ⟨2, a, t, id, nm, tx, vk, vn, had⟩ = 2 by simp only [Chg.check]; (repeat' split) <;> (first | rfl | (exfalso; omega) | simp_all))
    clear ha
    go_enter Tryd.func39, Tryd.ntmps39
    go_wp2_with fail
    refine (Calls.mono (HPA.out _)) ?_
    rintro e w2 ⟨rfl, rfl⟩
    go_wp2
    go_ret
    exact ⟨by rw [HC.out]; rfl, HB.out⟩
set_option maxRecDepth 100000 in
set_option maxHeartbeats 1000000 in
theorem rcheck_k3 (c : Chg) (w : World) (hk : c.k = 3) (hs : c.tx.size ≤ 1099511627776) : Calls Tryd.prog 39 #[c.val] w (CheckRes w c.check) := by
  obtain ⟨k, a, t, id, nm, tx, vk, vn, had⟩ := c
  obtain rfl : k = 3 := hk
  have HB := hide ((Below.refl _ w).alloc (Nat.le_refl _) (.cells #[.int .i64 3, .int .i64 a, .int .i64 t, .int .i64 id, .int .i64 nm, .string tx, .int .i64 vk, .int .i64 vn, .bool had] 51))
  clear hs
  by_cases ha : 1 ≤ a ∧ a ≤ 1099511627776
  · have HPA := hide (rplace_yes ha)
    have HC := hide (show Chg.check ⟨3, a, t, id, nm, tx, vk, vn, had⟩ = 0 by simp only [Chg.check]; (repeat' split) <;> (first | rfl | (exfalso; omega) | simp_all))
    clear ha
    go_enter Tryd.func39, Tryd.ntmps39
    go_wp2_with fail
    refine (Calls.mono (HPA.out _)) ?_
    rintro e w2 ⟨rfl, rfl⟩
    go_wp2
    go_ret
    exact ⟨by rw [HC.out]; rfl, HB.out⟩
  · have HPA := hide (rplace_no ha)
    have HC := hide (show Chg.check ⟨3, a, t, id, nm, tx, vk, vn, had⟩ = 2 by simp only [Chg.check]; (repeat' split) <;> (first | rfl | (exfalso; omega) | simp_all))
    clear ha
    go_enter Tryd.func39, Tryd.ntmps39
    go_wp2_with fail
    refine (Calls.mono (HPA.out _)) ?_
    rintro e w2 ⟨rfl, rfl⟩
    go_wp2
    go_ret
    exact ⟨by rw [HC.out]; rfl, HB.out⟩
set_option maxRecDepth 100000 in
set_option maxHeartbeats 1000000 in
theorem rcheck_k4 (c : Chg) (w : World) (hk : c.k = 4) (hs : c.tx.size ≤ 1099511627776) : Calls Tryd.prog 39 #[c.val] w (CheckRes w c.check) := by
  obtain ⟨k, a, t, id, nm, tx, vk, vn, had⟩ := c
  obtain rfl : k = 4 := hk
  have HB := hide ((Below.refl _ w).alloc (Nat.le_refl _) (.cells #[.int .i64 4, .int .i64 a, .int .i64 t, .int .i64 id, .int .i64 nm, .string tx, .int .i64 vk, .int .i64 vn, .bool had] 51))
  clear hs
  by_cases ha : 1 ≤ a ∧ a ≤ 1099511627776
  · have HPA := hide (rplace_yes ha)
    have HC := hide (show Chg.check ⟨4, a, t, id, nm, tx, vk, vn, had⟩ = 0 by simp only [Chg.check]; (repeat' split) <;> (first | rfl | (exfalso; omega) | simp_all))
    clear ha
    go_enter Tryd.func39, Tryd.ntmps39
    go_wp2_with fail
    refine (Calls.mono (HPA.out _)) ?_
    rintro e w2 ⟨rfl, rfl⟩
    go_wp2
    go_ret
    exact ⟨by rw [HC.out]; rfl, HB.out⟩
  · have HPA := hide (rplace_no ha)
    have HC := hide (show Chg.check ⟨4, a, t, id, nm, tx, vk, vn, had⟩ = 2 by simp only [Chg.check]; (repeat' split) <;> (first | rfl | (exfalso; omega) | simp_all))
    clear ha
    go_enter Tryd.func39, Tryd.ntmps39
    go_wp2_with fail
    refine (Calls.mono (HPA.out _)) ?_
    rintro e w2 ⟨rfl, rfl⟩
    go_wp2
    go_ret
    exact ⟨by rw [HC.out]; rfl, HB.out⟩
set_option maxRecDepth 100000 in
set_option maxHeartbeats 1000000 in
theorem rcheck_k5 (c : Chg) (w : World) (hk : c.k = 5) (hs : c.tx.size ≤ 1099511627776) : Calls Tryd.prog 39 #[c.val] w (CheckRes w c.check) := by
  obtain ⟨k, a, t, id, nm, tx, vk, vn, had⟩ := c
  obtain rfl : k = 5 := hk
  have HB := hide ((Below.refl _ w).alloc (Nat.le_refl _) (.cells #[.int .i64 5, .int .i64 a, .int .i64 t, .int .i64 id, .int .i64 nm, .string tx, .int .i64 vk, .int .i64 vn, .bool had] 51))
  clear hs
  by_cases ha : 1 ≤ a ∧ a ≤ 1099511627776
  · have HPA := hide (rplace_yes ha)
    by_cases ht : t < a
    · have z0 : decide (t < a) = true := by simpa using ht
      have HC := hide (show Chg.check ⟨5, a, t, id, nm, tx, vk, vn, had⟩ = 2 by simp only [Chg.check]; (repeat' split) <;> (first | rfl | (exfalso; omega) | simp_all))
      clear ha ht
      go_enter Tryd.func39, Tryd.ntmps39
      go_wp2_with fail
      refine (Calls.mono (HPA.out _)) ?_
      rintro e w2 ⟨rfl, rfl⟩
      go_wp2
      go_ret
      exact ⟨by rw [HC.out]; rfl, HB.out⟩
    · have z0 : decide (t < a) = false := by simpa using ht
      by_cases hp : 1 ≤ t ∧ t ≤ 1099511627776
      · have HPT := hide (rplace_yes hp)
        by_cases hn : nm < 0
        · have z1 : decide (nm < 0) = true := by simpa using hn
          have HC := hide (show Chg.check ⟨5, a, t, id, nm, tx, vk, vn, had⟩ = 2 by simp only [Chg.check]; (repeat' split) <;> (first | rfl | (exfalso; omega) | simp_all))
          clear ha ht hp hn
          go_enter Tryd.func39, Tryd.ntmps39
          go_wp2_with fail
          refine (Calls.mono (HPA.out _)) ?_
          rintro e w2 ⟨rfl, rfl⟩
          go_wp2_with fail
          refine (Calls.mono (HPT.out _)) ?_
          rintro e w2 ⟨rfl, rfl⟩
          go_wp2
          go_ret
          exact ⟨by rw [HC.out]; rfl, HB.out⟩
        · have z1 : decide (nm < 0) = false := by simpa using hn
          have HC := hide (show Chg.check ⟨5, a, t, id, nm, tx, vk, vn, had⟩ = 0 by simp only [Chg.check]; (repeat' split) <;> (first | rfl | (exfalso; omega) | simp_all))
          clear ha ht hp hn
          go_enter Tryd.func39, Tryd.ntmps39
          go_wp2_with fail
          refine (Calls.mono (HPA.out _)) ?_
          rintro e w2 ⟨rfl, rfl⟩
          go_wp2_with fail
          refine (Calls.mono (HPT.out _)) ?_
          rintro e w2 ⟨rfl, rfl⟩
          go_wp2
          go_ret
          exact ⟨by rw [HC.out]; rfl, HB.out⟩
      · have HPT := hide (rplace_no hp)
        have hq : 1099511627776 < t := by omega
        have HC := hide (show Chg.check ⟨5, a, t, id, nm, tx, vk, vn, had⟩ = 2 by simp only [Chg.check]; (repeat' split) <;> (first | rfl | (exfalso; omega) | simp_all))
        clear ha ht hp hq
        go_enter Tryd.func39, Tryd.ntmps39
        go_wp2_with fail
        refine (Calls.mono (HPA.out _)) ?_
        rintro e w2 ⟨rfl, rfl⟩
        go_wp2_with fail
        refine (Calls.mono (HPT.out _)) ?_
        rintro e w2 ⟨rfl, rfl⟩
        go_wp2
        go_ret
        exact ⟨by rw [HC.out]; rfl, HB.out⟩
  · have HPA := hide (rplace_no ha)
    have HC := hide (show Chg.check ⟨5, a, t, id, nm, tx, vk, vn, had⟩ = 2 by simp only [Chg.check]; (repeat' split) <;> (first | rfl | (exfalso; omega) | simp_all))
    clear ha
    go_enter Tryd.func39, Tryd.ntmps39
    go_wp2_with fail
    refine (Calls.mono (HPA.out _)) ?_
    rintro e w2 ⟨rfl, rfl⟩
    go_wp2
    go_ret
    exact ⟨by rw [HC.out]; rfl, HB.out⟩
set_option maxRecDepth 100000 in
set_option maxHeartbeats 1000000 in
theorem rcheck_k6 (c : Chg) (w : World) (hk : c.k = 6) (hs : c.tx.size ≤ 1099511627776) : Calls Tryd.prog 39 #[c.val] w (CheckRes w c.check) := by
  obtain ⟨k, a, t, id, nm, tx, vk, vn, had⟩ := c
  obtain rfl : k = 6 := hk
  have HB := hide ((Below.refl _ w).alloc (Nat.le_refl _) (.cells #[.int .i64 6, .int .i64 a, .int .i64 t, .int .i64 id, .int .i64 nm, .string tx, .int .i64 vk, .int .i64 vn, .bool had] 51))
  clear hs
  have HC := hide (show Chg.check ⟨6, a, t, id, nm, tx, vk, vn, had⟩ = 0 by simp only [Chg.check]; (repeat' split) <;> (first | rfl | (exfalso; omega) | simp_all))
  go_enter Tryd.func39, Tryd.ntmps39
  go_wp2
  go_ret
  exact ⟨by rw [HC.out]; rfl, HB.out⟩
set_option maxRecDepth 100000 in
set_option maxHeartbeats 1000000 in
theorem rcheck_out (c : Chg) (w : World) (h : c.k < 1 ∨ 6 < c.k) : Calls Tryd.prog 39 #[c.val] w (CheckRes w c.check) := by
  have HC := hide (show c.check = 2 by unfold Chg.check; rw [if_pos h])
  have HB := hide ((Below.refl _ w).alloc (Nat.le_refl _) (.cells c.cells.toArray 51))
  have e1 : (c.k == 1) = false := by simp; omega
  have e5 : (c.k == 5) = false := by simp; omega
  rcases h with h | h
  · have z : decide (c.k < 1) = true := by simpa using h
    go_enter Tryd.func39, Tryd.ntmps39
    go_wp2
    go_ret
    exact ⟨by rw [HC.out]; rfl, HB.out⟩
  · have z : decide (c.k < 1) = false := by simp; omega
    have z2 : decide (6 < c.k) = true := by simpa using h
    go_enter Tryd.func39, Tryd.ntmps39
    go_wp2
    go_ret
    exact ⟨by rw [HC.out]; rfl, HB.out⟩
theorem rcheck_any (c : Chg) (w : World) (hs : c.tx.size ≤ 1099511627776) : Calls Tryd.prog 39 #[c.val] w (CheckRes w c.check) := by
  by_cases h : c.k < 1 ∨ 6 < c.k
  · exact rcheck_out c w h
  · have hc : c.k = 1 ∨ c.k = 2 ∨ c.k = 3 ∨ c.k = 4 ∨ c.k = 5 ∨ c.k = 6 := by omega
    rcases hc with e | e | e | e | e | e
    · exact rcheck_k1 c w e hs
    · exact rcheck_k2 c w e hs
    · exact rcheck_k3 c w e hs
    · exact rcheck_k4 c w e hs
    · exact rcheck_k5 c w e hs
    · exact rcheck_k6 c w e hs
end Go.Proofs.YtghcmakhfdnimaaDoor
