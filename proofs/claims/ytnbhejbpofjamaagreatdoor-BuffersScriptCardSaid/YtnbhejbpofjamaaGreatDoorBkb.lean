/- The check of a change. No condition but those written. -/
import Derived.Test.YtnbhejbpofjamaaGreatDoorBka
namespace Go.Proofs.YtnbhejbpofjamaaGreatDoor
open Go.RowKit

/-- One row of the table of rules. -/
structure RuleIs (w : World) (k : Nat) (a t n x : Bool) : Prop where
  r0 : w.cell? ⟨3, k * 4, none⟩ = some (.bool a)
  r1 : w.cell? ⟨3, k * 4 + 1, none⟩ = some (.bool t)
  r2 : w.cell? ⟨3, k * 4 + 2, none⟩ = some (.bool n)
  r3 : w.cell? ⟨3, k * 4 + 3, none⟩ = some (.bool x)
theorem RuleIs.below {w w' : World} {k B : Nat} {a t n x : Bool} (h : RuleIs w k a t n x) (hb : Below B w w') (h0 : 3 < B) : RuleIs w' k a t n x :=
  ⟨(hb.cell (p := ⟨3, k * 4, none⟩) h0).trans h.r0, (hb.cell (p := ⟨3, k * 4 + 1, none⟩) h0).trans h.r1, (hb.cell (p := ⟨3, k * 4 + 2, none⟩) h0).trans h.r2, (hb.cell (p := ⟨3, k * 4 + 3, none⟩) h0).trans h.r3⟩
/-- The table of rules holds what its initialiser lays; the tables of utf8 do. -/
structure Rules (w : World) : Prop where
  tabs : Tabs w
  pos : 3 < w.heap.size
  k1 : RuleIs w 1 true true false false
  k2 : RuleIs w 2 true false false true
  k3 : RuleIs w 3 true false false false
  k4 : RuleIs w 4 true false false false
  k5 : RuleIs w 5 true true true false
  k6 : RuleIs w 6 false false false false
theorem Rules.below {w w' : World} (h : Rules w) (hb : Below w.heap.size w w') : Rules w' :=
  ⟨h.tabs.below hb, Nat.lt_of_lt_of_le h.pos hb.size, h.k1.below hb h.pos, h.k2.below hb h.pos, h.k3.below hb h.pos, h.k4.below hb h.pos, h.k5.below hb h.pos, h.k6.below hb h.pos⟩

/-- What Check leaves. -/
def CheckRes (w : World) (n : Int) (e : Ending) (w' : World) : Prop := e = .returned (.int .i64 n) ∧ Below w.heap.size w w'
section
variable {w : World}
set_option maxRecDepth 100000 in
theorem check_kind (c : Chg) (w : World) (h : c.k < 1 ∨ 6 < c.k) : Calls Tryz.prog 191 #[c.val] w (CheckRes w 2) := by
  have HB := hide ((Below.refl _ w).alloc (Nat.le_refl _) (.cells c.cells.toArray 161))
  obtain ⟨k, a, t, id, nm, tx, vk, vn, had⟩ := c
  rcases h with h | h
  · have hz : decide (k < 1) = true := by simpa using h
    go_enter Tryz.func191, Tryz.ntmps191
    go_wp2
    go_ret
    exact ⟨rfl, HB.out⟩
  · have hz : decide (k < 1) = false := by simp at h ⊢; omega
    have hz : decide (6 < k) = true := by simpa using h
    go_enter Tryz.func191, Tryz.ntmps191
    go_wp2
    go_ret
    exact ⟨rfl, HB.out⟩
set_option maxRecDepth 100000 in
set_option maxHeartbeats 1000000 in
theorem check_k1 (c : Chg) (w : World) (hR : Rules w) (hk : c.k = 1) (hs : c.tx.size ≤ 140737488355328) : Calls Tryz.prog 191 #[c.val] w (CheckRes w c.check) := by
  obtain ⟨k, a, t, id, nm, tx, vk, vn, had⟩ := c
  obtain rfl : k = 1 := hk
  have hb := (Below.refl _ w).alloc (Nat.le_refl _) (.cells #[.int .i64 1, .int .i64 a, .int .i64 t, .int .i64 id, .int .i64 nm, .string tx, .int .i64 vk, .int .i64 vn, .bool had] 161)
  have hb2 := hb.alloc hb.size (.cells #[.bool true, .bool true, .bool false, .bool false] 256)
  have HB := hide hb2
  obtain ⟨r0, r1, r2, r3⟩ := (hR.below hb).k1
  have hp := hR.pos
  clear hR hb hb2 hs
  by_cases h0 : a < 1
  · have HC := hide (show Chg.check ⟨1, a, t, id, nm, tx, vk, vn, had⟩ = 2 by simp [Chg.check]; omega)
    have z0 : decide (a < 1) = true := by simpa using h0
    clear h0
    go_enter Tryz.func191, Tryz.ntmps191
    go_wp2
    go_ret
    exact ⟨by rw [HC.out]; rfl, HB.out⟩
  · have z0 : decide (a < 1) = false := by simpa using h0
    by_cases h1 : 1099511627776 < a
    · have HC := hide (show Chg.check ⟨1, a, t, id, nm, tx, vk, vn, had⟩ = 2 by simp [Chg.check]; omega)
      have z1 : decide (1099511627776 < a) = true := by simpa using h1
      clear h0 h1
      go_enter Tryz.func191, Tryz.ntmps191
      go_wp2
      go_ret
      exact ⟨by rw [HC.out]; rfl, HB.out⟩
    · have z1 : decide (1099511627776 < a) = false := by simpa using h1
      by_cases h2 : t < a
      · have HC := hide (show Chg.check ⟨1, a, t, id, nm, tx, vk, vn, had⟩ = 2 by simp [Chg.check]; omega)
        have z2 : decide (t < a) = true := by simpa using h2
        clear h0 h1 h2
        go_enter Tryz.func191, Tryz.ntmps191
        go_wp2
        go_ret
        exact ⟨by rw [HC.out]; rfl, HB.out⟩
      · have z2 : decide (t < a) = false := by simpa using h2
        by_cases h3 : 1099511627776 < t
        · have HC := hide (show Chg.check ⟨1, a, t, id, nm, tx, vk, vn, had⟩ = 2 by simp [Chg.check]; omega)
          have z3 : decide (1099511627776 < t) = true := by simpa using h3
          clear h0 h1 h2 h3
          go_enter Tryz.func191, Tryz.ntmps191
          go_wp2
          go_ret
          exact ⟨by rw [HC.out]; rfl, HB.out⟩
        · have z3 : decide (1099511627776 < t) = false := by simpa using h3
          have HC := hide (show Chg.check ⟨1, a, t, id, nm, tx, vk, vn, had⟩ = 0 by simp [Chg.check]; omega)
          go_enter Tryz.func191, Tryz.ntmps191
          go_wp2
          go_ret
          exact ⟨by rw [HC.out]; rfl, HB.out⟩
set_option maxRecDepth 100000 in
set_option maxHeartbeats 1000000 in
theorem check_k2 (c : Chg) (w : World) (hR : Rules w) (hk : c.k = 2) (hs : c.tx.size ≤ 140737488355328) : Calls Tryz.prog 191 #[c.val] w (CheckRes w c.check) := by
  obtain ⟨k, a, t, id, nm, tx, vk, vn, had⟩ := c
  obtain rfl : k = 2 := hk
  have hb := (Below.refl _ w).alloc (Nat.le_refl _) (.cells #[.int .i64 2, .int .i64 a, .int .i64 t, .int .i64 id, .int .i64 nm, .string tx, .int .i64 vk, .int .i64 vn, .bool had] 161)
  have hb2 := hb.alloc hb.size (.cells #[.bool true, .bool false, .bool false, .bool true] 256)
  have HB := hide hb2
  obtain ⟨r0, r1, r2, r3⟩ := (hR.below hb).k2
  have HV := hide (valid_any tx ((w.alloc (.cells #[.int .i64 2, .int .i64 a, .int .i64 t, .int .i64 id, .int .i64 nm, .string tx, .int .i64 vk, .int .i64 vn, .bool had] 161)).alloc (.cells #[.bool true, .bool false, .bool false, .bool true] 256)) (by simp at hs; omega) (hR.tabs.below hb2))
  have hp := hR.pos
  clear hR hb hb2 hs
  by_cases h0 : a < 1
  · have HC := hide (show Chg.check ⟨2, a, t, id, nm, tx, vk, vn, had⟩ = 2 by simp [Chg.check]; omega)
    have z0 : decide (a < 1) = true := by simpa using h0
    clear h0
    go_enter Tryz.func191, Tryz.ntmps191
    go_wp2
    go_ret
    exact ⟨by rw [HC.out]; rfl, HB.out⟩
  · have z0 : decide (a < 1) = false := by simpa using h0
    by_cases h1 : 1099511627776 < a
    · have HC := hide (show Chg.check ⟨2, a, t, id, nm, tx, vk, vn, had⟩ = 2 by simp [Chg.check]; omega)
      have z1 : decide (1099511627776 < a) = true := by simpa using h1
      clear h0 h1
      go_enter Tryz.func191, Tryz.ntmps191
      go_wp2
      go_ret
      exact ⟨by rw [HC.out]; rfl, HB.out⟩
    · have z1 : decide (1099511627776 < a) = false := by simpa using h1
      cases hv : validS tx with
      | true =>
        have HC := hide (show Chg.check ⟨2, a, t, id, nm, tx, vk, vn, had⟩ = 0 by simp [Chg.check, hv]; omega)
        rw [hv] at HV
        clear hv
        go_enter Tryz.func191, Tryz.ntmps191
        go_wp2_with fail
        refine (Calls.mono HV.out) ?_
        rintro e w2 ⟨rfl, hb2⟩
        have HB2 := hide (HB.out.trans (hb2.mono HB.out.size))
        clear hb2
        go_wp2
        go_ret
        exact ⟨by rw [HC.out]; rfl, HB2.out⟩
      | false =>
        have HC := hide (show Chg.check ⟨2, a, t, id, nm, tx, vk, vn, had⟩ = 5 by simp [Chg.check, hv]; omega)
        rw [hv] at HV
        clear hv
        go_enter Tryz.func191, Tryz.ntmps191
        go_wp2_with fail
        refine (Calls.mono HV.out) ?_
        rintro e w2 ⟨rfl, hb2⟩
        have HB2 := hide (HB.out.trans (hb2.mono HB.out.size))
        clear hb2
        go_wp2
        go_ret
        exact ⟨by rw [HC.out]; rfl, HB2.out⟩
set_option maxRecDepth 100000 in
set_option maxHeartbeats 1000000 in
theorem check_k3 (c : Chg) (w : World) (hR : Rules w) (hk : c.k = 3) (hs : c.tx.size ≤ 140737488355328) : Calls Tryz.prog 191 #[c.val] w (CheckRes w c.check) := by
  obtain ⟨k, a, t, id, nm, tx, vk, vn, had⟩ := c
  obtain rfl : k = 3 := hk
  have hb := (Below.refl _ w).alloc (Nat.le_refl _) (.cells #[.int .i64 3, .int .i64 a, .int .i64 t, .int .i64 id, .int .i64 nm, .string tx, .int .i64 vk, .int .i64 vn, .bool had] 161)
  have hb2 := hb.alloc hb.size (.cells #[.bool true, .bool false, .bool false, .bool false] 256)
  have HB := hide hb2
  obtain ⟨r0, r1, r2, r3⟩ := (hR.below hb).k3
  have hp := hR.pos
  clear hR hb hb2 hs
  by_cases h0 : a < 1
  · have HC := hide (show Chg.check ⟨3, a, t, id, nm, tx, vk, vn, had⟩ = 2 by simp [Chg.check]; omega)
    have z0 : decide (a < 1) = true := by simpa using h0
    clear h0
    go_enter Tryz.func191, Tryz.ntmps191
    go_wp2
    go_ret
    exact ⟨by rw [HC.out]; rfl, HB.out⟩
  · have z0 : decide (a < 1) = false := by simpa using h0
    by_cases h1 : 1099511627776 < a
    · have HC := hide (show Chg.check ⟨3, a, t, id, nm, tx, vk, vn, had⟩ = 2 by simp [Chg.check]; omega)
      have z1 : decide (1099511627776 < a) = true := by simpa using h1
      clear h0 h1
      go_enter Tryz.func191, Tryz.ntmps191
      go_wp2
      go_ret
      exact ⟨by rw [HC.out]; rfl, HB.out⟩
    · have z1 : decide (1099511627776 < a) = false := by simpa using h1
      have HC := hide (show Chg.check ⟨3, a, t, id, nm, tx, vk, vn, had⟩ = 0 by simp [Chg.check]; omega)
      go_enter Tryz.func191, Tryz.ntmps191
      go_wp2
      go_ret
      exact ⟨by rw [HC.out]; rfl, HB.out⟩
set_option maxRecDepth 100000 in
set_option maxHeartbeats 1000000 in
theorem check_k4 (c : Chg) (w : World) (hR : Rules w) (hk : c.k = 4) (hs : c.tx.size ≤ 140737488355328) : Calls Tryz.prog 191 #[c.val] w (CheckRes w c.check) := by
  obtain ⟨k, a, t, id, nm, tx, vk, vn, had⟩ := c
  obtain rfl : k = 4 := hk
  have hb := (Below.refl _ w).alloc (Nat.le_refl _) (.cells #[.int .i64 4, .int .i64 a, .int .i64 t, .int .i64 id, .int .i64 nm, .string tx, .int .i64 vk, .int .i64 vn, .bool had] 161)
  have hb2 := hb.alloc hb.size (.cells #[.bool true, .bool false, .bool false, .bool false] 256)
  have HB := hide hb2
  obtain ⟨r0, r1, r2, r3⟩ := (hR.below hb).k4
  have hp := hR.pos
  clear hR hb hb2 hs
  by_cases h0 : a < 1
  · have HC := hide (show Chg.check ⟨4, a, t, id, nm, tx, vk, vn, had⟩ = 2 by simp [Chg.check]; omega)
    have z0 : decide (a < 1) = true := by simpa using h0
    clear h0
    go_enter Tryz.func191, Tryz.ntmps191
    go_wp2
    go_ret
    exact ⟨by rw [HC.out]; rfl, HB.out⟩
  · have z0 : decide (a < 1) = false := by simpa using h0
    by_cases h1 : 1099511627776 < a
    · have HC := hide (show Chg.check ⟨4, a, t, id, nm, tx, vk, vn, had⟩ = 2 by simp [Chg.check]; omega)
      have z1 : decide (1099511627776 < a) = true := by simpa using h1
      clear h0 h1
      go_enter Tryz.func191, Tryz.ntmps191
      go_wp2
      go_ret
      exact ⟨by rw [HC.out]; rfl, HB.out⟩
    · have z1 : decide (1099511627776 < a) = false := by simpa using h1
      have HC := hide (show Chg.check ⟨4, a, t, id, nm, tx, vk, vn, had⟩ = 0 by simp [Chg.check]; omega)
      go_enter Tryz.func191, Tryz.ntmps191
      go_wp2
      go_ret
      exact ⟨by rw [HC.out]; rfl, HB.out⟩
set_option maxRecDepth 100000 in
set_option maxHeartbeats 1000000 in
theorem check_k5 (c : Chg) (w : World) (hR : Rules w) (hk : c.k = 5) (hs : c.tx.size ≤ 140737488355328) : Calls Tryz.prog 191 #[c.val] w (CheckRes w c.check) := by
  obtain ⟨k, a, t, id, nm, tx, vk, vn, had⟩ := c
  obtain rfl : k = 5 := hk
  have hb := (Below.refl _ w).alloc (Nat.le_refl _) (.cells #[.int .i64 5, .int .i64 a, .int .i64 t, .int .i64 id, .int .i64 nm, .string tx, .int .i64 vk, .int .i64 vn, .bool had] 161)
  have hb2 := hb.alloc hb.size (.cells #[.bool true, .bool true, .bool true, .bool false] 256)
  have HB := hide hb2
  obtain ⟨r0, r1, r2, r3⟩ := (hR.below hb).k5
  have hp := hR.pos
  clear hR hb hb2 hs
  by_cases h0 : a < 1
  · have HC := hide (show Chg.check ⟨5, a, t, id, nm, tx, vk, vn, had⟩ = 2 by simp [Chg.check]; omega)
    have z0 : decide (a < 1) = true := by simpa using h0
    clear h0
    go_enter Tryz.func191, Tryz.ntmps191
    go_wp2
    go_ret
    exact ⟨by rw [HC.out]; rfl, HB.out⟩
  · have z0 : decide (a < 1) = false := by simpa using h0
    by_cases h1 : 1099511627776 < a
    · have HC := hide (show Chg.check ⟨5, a, t, id, nm, tx, vk, vn, had⟩ = 2 by simp [Chg.check]; omega)
      have z1 : decide (1099511627776 < a) = true := by simpa using h1
      clear h0 h1
      go_enter Tryz.func191, Tryz.ntmps191
      go_wp2
      go_ret
      exact ⟨by rw [HC.out]; rfl, HB.out⟩
    · have z1 : decide (1099511627776 < a) = false := by simpa using h1
      by_cases h2 : t < a
      · have HC := hide (show Chg.check ⟨5, a, t, id, nm, tx, vk, vn, had⟩ = 2 by simp [Chg.check]; omega)
        have z2 : decide (t < a) = true := by simpa using h2
        clear h0 h1 h2
        go_enter Tryz.func191, Tryz.ntmps191
        go_wp2
        go_ret
        exact ⟨by rw [HC.out]; rfl, HB.out⟩
      · have z2 : decide (t < a) = false := by simpa using h2
        by_cases h3 : 1099511627776 < t
        · have HC := hide (show Chg.check ⟨5, a, t, id, nm, tx, vk, vn, had⟩ = 2 by simp [Chg.check]; omega)
          have z3 : decide (1099511627776 < t) = true := by simpa using h3
          clear h0 h1 h2 h3
          go_enter Tryz.func191, Tryz.ntmps191
          go_wp2
          go_ret
          exact ⟨by rw [HC.out]; rfl, HB.out⟩
        · have z3 : decide (1099511627776 < t) = false := by simpa using h3
          by_cases h4 : nm < 0
          · have HC := hide (show Chg.check ⟨5, a, t, id, nm, tx, vk, vn, had⟩ = 2 by simp [Chg.check]; omega)
            have z4 : decide (nm < 0) = true := by simpa using h4
            clear h0 h1 h2 h3 h4
            go_enter Tryz.func191, Tryz.ntmps191
            go_wp2
            go_ret
            exact ⟨by rw [HC.out]; rfl, HB.out⟩
          · have z4 : decide (nm < 0) = false := by simpa using h4
            have HC := hide (show Chg.check ⟨5, a, t, id, nm, tx, vk, vn, had⟩ = 0 by simp [Chg.check]; omega)
            go_enter Tryz.func191, Tryz.ntmps191
            go_wp2
            go_ret
            exact ⟨by rw [HC.out]; rfl, HB.out⟩
set_option maxRecDepth 100000 in
set_option maxHeartbeats 1000000 in
theorem check_k6 (c : Chg) (w : World) (hR : Rules w) (hk : c.k = 6) (hs : c.tx.size ≤ 140737488355328) : Calls Tryz.prog 191 #[c.val] w (CheckRes w c.check) := by
  obtain ⟨k, a, t, id, nm, tx, vk, vn, had⟩ := c
  obtain rfl : k = 6 := hk
  have hb := (Below.refl _ w).alloc (Nat.le_refl _) (.cells #[.int .i64 6, .int .i64 a, .int .i64 t, .int .i64 id, .int .i64 nm, .string tx, .int .i64 vk, .int .i64 vn, .bool had] 161)
  have hb2 := hb.alloc hb.size (.cells #[.bool false, .bool false, .bool false, .bool false] 256)
  have HB := hide hb2
  obtain ⟨r0, r1, r2, r3⟩ := (hR.below hb).k6
  have hp := hR.pos
  clear hR hb hb2 hs
  have HC := hide (show Chg.check ⟨6, a, t, id, nm, tx, vk, vn, had⟩ = 0 by simp [Chg.check])
  go_enter Tryz.func191, Tryz.ntmps191
  go_wp2
  go_ret
  exact ⟨by rw [HC.out]; rfl, HB.out⟩
theorem check_any (c : Chg) (w : World) (hR : Rules w) (hs : c.tx.size ≤ 140737488355328) : Calls Tryz.prog 191 #[c.val] w (CheckRes w c.check) := by
  by_cases h : c.k < 1 ∨ 6 < c.k
  · have e : c.check = 2 := by unfold Chg.check; rw [if_pos h]
    rw [e]
    exact check_kind c w h
  · have : c.k = 1 ∨ c.k = 2 ∨ c.k = 3 ∨ c.k = 4 ∨ c.k = 5 ∨ c.k = 6 := by omega
    rcases this with hk | hk | hk | hk | hk | hk
    · exact check_k1 c w hR hk hs
    · exact check_k2 c w hR hk hs
    · exact check_k3 c w hR hk hs
    · exact check_k4 c w hR hk hs
    · exact check_k5 c w hR hk hs
    · exact check_k6 c w hR hk hs
end
end Go.Proofs.YtnbhejbpofjamaaGreatDoor
