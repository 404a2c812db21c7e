/- The walks of the reference's Add. No condition but those written. -/
import Derived.Test.YtghcmakhfdnimaaDoorRefD
namespace Go.Proofs.YtghcmakhfdnimaaDoor
open Go.RowKit

def RAddRes (W : World) (b : Lb) (s : Lg) (R : Heap) (c : Chg) (e : Ending) (w' : World) : Prop := e = .returned (.int .i64 c.check) ∧ ∃ b', b'.lb = b.lb ∧ RefAt W w' b' (s.add c) R
section
variable {W w w' : World} {b : Lb} {s : Lg} {R : Heap}
set_option maxRecDepth 100000 in
theorem radd_bad (h : RefAt W w b s R) (c : Chg) (hs : c.tx.size ≤ 1099511627776) (hc : ¬ c.check = 0) : Calls Tryd.prog 52 #[.pointer (some ⟨b.lb, 0, none⟩), c.val] w (RAddRes W b s R c) := by
  have h1 := h.skip (.cells #[.int .i64 c.k, .int .i64 c.a, .int .i64 c.t, .int .i64 c.id, .int .i64 c.nm, .string c.tx, .int .i64 c.vk, .int .i64 c.vn, .bool c.had] 51)
  have H1 := hide h1
  have HC := hide (rcheck_any c (w.alloc (.cells #[.int .i64 c.k, .int .i64 c.a, .int .i64 c.t, .int .i64 c.id, .int .i64 c.nm, .string c.tx, .int .i64 c.vk, .int .i64 c.vn, .bool c.had] 51)) hs)
  have HA := hide (show s.add c = s by unfold Lg.add; rw [if_neg hc])
  have hz : (c.check != 0) = true := by simpa using hc
  have hz2 : (c.check == 0) = false := by simpa using hc
  clear h h1 hs hc
  go_enter Tryd.func52, Tryd.ntmps52
  go_wp2_with fail
  refine (Calls.mono HC.out) ?_
  rintro e w2 ⟨rfl, hb⟩
  have H2 := hide (H1.out.below hb)
  clear hb
  go_wp2
  go_ret
  exact ⟨rfl, b, rfl, by rw [HA.out]; exact H2.out⟩
theorem RefAt.box (h : RefAt W w b s R) (t : TypeId) (cs : Array Value) : RefAt W (w.alloc (.cells cs t)) b s ((w.heap.size, .cells t cs) :: R) :=
  ⟨(h.own.newCells t cs).perm List.perm_middle.symm, h.ok⟩
end
end Go.Proofs.YtghcmakhfdnimaaDoor
