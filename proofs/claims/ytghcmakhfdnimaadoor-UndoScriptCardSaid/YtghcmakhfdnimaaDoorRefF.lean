/- The walk of the reference's Add where the last change is lengthened. No condition but those written. -/
import Derived.Test.YtghcmakhfdnimaaDoorRefE
namespace Go.Proofs.YtghcmakhfdnimaaDoor
open Go.RowKit
section
variable {W w w' : World} {b : Lb} {s : Lg} {R : Heap}
set_option maxRecDepth 100000 in
set_option maxHeartbeats 4000000 in
theorem radd_join (h : RefAt W w b s R) (c : Chg) (hs : c.tx.size ≤ 1099511627776) (hl : s.O.length ≤ 1000000) (hc : c.check = 0) (hj : s.joins c = true) : Calls Tryd.prog 52 #[.pointer (some ⟨b.lb, 0, none⟩), c.val] w (RAddRes W b s R c) := by
  have H1 := hide (h.box 51 #[.int .i64 c.k, .int .i64 c.a, .int .i64 c.t, .int .i64 c.id, .int .i64 c.nm, .string c.tx, .int .i64 c.vk, .int .i64 c.vn, .bool c.had])
  have HC := hide (rcheck_any c (w.alloc (.cells #[.int .i64 c.k, .int .i64 c.a, .int .i64 c.t, .int .i64 c.id, .int .i64 c.nm, .string c.tx, .int .i64 c.vk, .int .i64 c.vn, .bool c.had] 51)) hs)
  rw [hc] at HC
  obtain ⟨y, hy, hck, hyk, hyt⟩ := joins_yes hj
  have HA := hide (show s.add c = { s with O := s.O.set (s.O.length - 1) { y with t := c.t } } by unfold Lg.add Lg.add0; rw [if_pos hc, if_pos hj, lengthen_eq hy])
  have HCH := hide hc
  have HY := hide hy
  have HYY := hide (And.intro hck (And.intro hyk hyt))
  have HLL := hide hl
  clear h hs hc hj hy hck hyk hyt hl
  go_enter Tryd.func52, Tryd.ntmps52
  go_wp2_with fail
  refine (Calls.mono (HC.out)) ?_
  rintro e w2 ⟨rfl, hb⟩
  have h2 := H1.out.below hb
  obtain ⟨gw, hgw⟩ : ∃ gw, gw = w.heap.size := ⟨_, rfl⟩
  rw [← hgw] at h2 ⊢
  obtain ⟨m, hm⟩ : ∃ m, s.O.length = m + 1 := ⟨s.O.length - 1, by have := (List.getElem?_eq_some_iff.1 HY.out).1; omega⟩
  obtain ⟨g, off, cp, hv, _, _, _, hfz, hat⟩ := h2.slO.atC (by omega)
  have kb := h2.own.blk (g := gw) (t := 51) (cs := #[.int .i64 c.k, .int .i64 c.a, .int .i64 c.t, .int .i64 c.id, .int .i64 c.nm, .string c.tx, .int .i64 c.vk, .int .i64 c.vn, .bool c.had]) (by simp)
  have k0 : w2.cell? ⟨gw, 0, none⟩ = some (.int .i64 1) := by rw [kb.cell, ← HYY.out.1]; rfl
  have k1 : w2.cell? ⟨gw, 1, none⟩ = some (.int .i64 c.a) := by rw [kb.cell]; rfl
  have k2 : w2.cell? ⟨gw, 2, none⟩ = some (.int .i64 c.t) := by rw [kb.cell]; rfl
  have c1 := h2.c1
  rw [hv] at c1
  have HN := hide (h2.setTo (t := c.t) hv HY.out)
  have hy := HY.out
  rw [hm, Nat.add_sub_cancel] at hy HN
  rw [hm] at c1
  obtain ⟨p0, -, p2, -, -, -, -, -, -⟩ := hat m y hy
  rw [HYY.out.2.1] at p0
  rw [HYY.out.2.2] at p2
  have f2 := hfz (off + m * 9 + 2)
  have hl2 : m + 1 ≤ 1000000 := by have := HLL.out; omega
  have HM := hide hm
  have hi3 : (0 : Int) ≤ (m : Int) := by omega
  have hi4 : (m : Int) < (m : Int) + 1 := by omega
  have hw : IntKind.i64.wrap ((m : Int) + 1 - 1) = (m : Int) := by rw [Int.add_sub_cancel]; exact IntWalk.i64_in _ (by omega)
  clear hb h2 kb hy hat hv hm hfz H1 HC hgw
  go_wp2_with fail
  go_quiet (fail)
  go_wp2_with fail
  go_region
  go_wp2
  go_ret
  refine ⟨by rw [HCH.out]; rfl, b, rfl, ?_⟩
  rw [HA.out, HM.out, Nat.add_sub_cancel]
  have h9 : RefAt W ((w2.drewN (nq + 1)).setCell _ _) b _ (_ :: R) := HN.out.below ⟨rfl, rfl, rfl, Nat.le_refl _, fun _ _ => rfl⟩
  exact h9.sub (List.sublist_cons_self ..)
end
end Go.Proofs.YtghcmakhfdnimaaDoor
