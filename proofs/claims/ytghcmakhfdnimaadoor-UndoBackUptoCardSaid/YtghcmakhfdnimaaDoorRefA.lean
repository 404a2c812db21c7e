/- The walks of the small methods of the reference's log. No condition but those written. -/
import Derived.Test.YtghcmakhfdnimaaDoorRef
namespace Go.Proofs.YtghcmakhfdnimaaDoor
open Go.RowKit

section
variable {W w w' : World} {b : Lb} {s : Lg} {R : Heap}
theorem rnew_ok {L : Heap} (h : Own W w L) (lim : Int) (h1 : 1 ≤ lim) (h2 : lim ≤ 1048576) : Calls Tryd.prog 32 #[.int .i64 lim] w fun e w' => e = .returned (.tuple #[.pointer (some ⟨w.heap.size, 0, none⟩), .int .i64 0]) ∧ RefAt W w' ⟨w.heap.size, .slice none 0 0, .slice none 0 0, []⟩ (Lg.new lim) L := by
  have HC := hide (RefAt.new L h lim)
  clear h
  go_enter Tryd.func32, Tryd.ntmps32
  go_wp2
  go_ret2
  exact ⟨rfl, HC.out⟩
theorem rnew_bad (lim : Int) (h1 : lim < 1 ∨ 1048576 < lim) : Calls Tryd.prog 32 #[.int .i64 lim] w fun e w' => e = .returned (.tuple #[.pointer none, .int .i64 2]) ∧ w = w' := by
  rcases h1 with h1 | h1
  · go_enter Tryd.func32, Tryd.ntmps32
    go_wp2
    go_ret2
    exact ⟨rfl, rfl⟩
  · have h2 : ¬ lim < 1 := by omega
    go_enter Tryd.func32, Tryd.ntmps32
    go_wp2
    go_ret2
    exact ⟨rfl, rfl⟩
theorem rplace_any (a : Int) (w : World) : Calls Tryd.prog 55 #[.int .i64 a] w fun e w' => e = .returned (.bool (decide (1 ≤ a ∧ a ≤ 1099511627776))) ∧ w = w' := by
  by_cases h1 : 1 ≤ a
  · by_cases h2 : a ≤ 1099511627776
    · rw [decide_eq_true ⟨h1, h2⟩]
      have y1 : decide (1 ≤ a) = true := by simpa using h1
      have y2 : decide (a ≤ 1099511627776) = true := by simpa using h2
      go_enter Tryd.func55, Tryd.ntmps55
      go_wp2
      go_ret
      exact ⟨rfl, rfl⟩
    · rw [decide_eq_false (fun h => h2 h.2)]
      have y1 : decide (1 ≤ a) = true := by simpa using h1
      have y2 : decide (a ≤ 1099511627776) = false := by simpa using h2
      go_enter Tryd.func55, Tryd.ntmps55
      go_wp2
      go_ret
      exact ⟨rfl, rfl⟩
  · rw [decide_eq_false (fun h => h1 h.1)]
    have y1 : decide (1 ≤ a) = false := by simpa using h1
    go_enter Tryd.func55, Tryd.ntmps55
    go_wp2
    go_ret
    exact ⟨rfl, rfl⟩
theorem rcost_any (h : RefAt W w b s R) (hc : 0 ≤ s.now ∧ s.now ≤ s.cost ∧ s.cost ≤ 1099511627776) : Calls Tryd.prog 37 #[.pointer (some ⟨b.lb, 0, none⟩)] w fun e w' => e = .returned (.int .i64 s.cost) ∧ ∃ q, w' = w.drewN q := by
  have c4 := h.c4
  have c5 := h.c5
  clear h
  obtain ⟨d, hd⟩ : ∃ d, s.cost - s.now = d := ⟨_, rfl⟩
  have HE := hide (show s.cost = d + s.now by omega)
  have hd0 : 0 ≤ d := by omega
  have hd1 : d ≤ 1099511627776 := by omega
  have hn0 := hc.1
  have hn1 : s.now ≤ 1099511627776 := by omega
  rw [hd] at c4
  clear hd hc
  go_enter Tryd.func37, Tryd.ntmps37
  go_wp2
  go_region
  go_wp2
  go_ret
  exact ⟨by rw [HE.out]; rfl, ⟨1, rfl⟩⟩
theorem rchain_any (h : RefAt W w b s R) : Calls Tryd.prog 35 #[.pointer (some ⟨b.lb, 0, none⟩)] w fun e w' => e = s.chain ∧ w = w' := by
  have c3 := h.c3
  clear h
  by_cases hc : s.ch < 0
  · have HA := hide (show s.chain = .returned (.tuple #[.int .i64 0, .bool false]) by unfold Lg.chain; rw [if_pos hc, decide_eq_false (by omega)])
    have hz : decide (s.ch < 0) = true := by simpa using hc
    go_enter Tryd.func35, Tryd.ntmps35
    go_wp2
    go_ret2
    exact ⟨by rw [HA.out]; rfl, rfl⟩
  · have HA := hide (show s.chain = .returned (.tuple #[.int .i64 s.ch, .bool true]) by unfold Lg.chain; rw [if_neg hc, decide_eq_true (by omega)])
    have hz : decide (s.ch < 0) = false := by simpa using hc
    go_enter Tryd.func35, Tryd.ntmps35
    go_wp2
    go_ret2
    exact ⟨by rw [HA.out]; rfl, rfl⟩
theorem RefAt.cleared (h : RefAt W w b s R) : RefAt W (((((w.setCell ⟨b.lb, 0, none⟩ (.slice none 0 0)).setCell ⟨b.lb, 1, none⟩ (.slice none 0 0)).setCell ⟨b.lb, 3, none⟩ (.int .i64 (-1))).setCell ⟨b.lb, 4, none⟩ (.int .i64 0)).setCell ⟨b.lb, 5, none⟩ (.int .i64 0)) b.cleared s.clear R := by
  have h1 := h.own
  unfold Lb.rheap at h1
  have h2 : Own W w ((b.lb, .cells 90 (refCells b s)) :: R) := h1.sub (List.Sublist.cons_cons _ (List.sublist_append_right _ _))
  exact ⟨((((h2.setCell 0 (.slice none 0 0)).setCell 1 (.slice none 0 0)).setCell 3 (.int .i64 (-1))).setCell 4 (.int .i64 0)).setCell 5 (.int .i64 0), rfl, RowOk.nil, RowOk.nil, fun x hx => by cases hx⟩
theorem rclear_any (h : RefAt W w b s R) : Calls Tryd.prog 62 #[.pointer (some ⟨b.lb, 0, none⟩)] w fun e w' => e = .returned (.tuple #[]) ∧ RefAt W w' b.cleared s.clear R := by
  have c0 := h.c0
  have c1 := h.c1
  have c3 := h.c3
  have c4 := h.c4
  have c5 := h.c5
  have f0 := h.blk.frozen 0
  have f1 := h.blk.frozen 1
  have f3 := h.blk.frozen 3
  have f4 := h.blk.frozen 4
  have f5 := h.blk.frozen 5
  have HC := hide h.cleared
  clear h
  go_enter Tryd.func62, Tryd.ntmps62
  go_wp2
  refine bodyPost_end (results_none rfl _ _ _) rfl ?_
  exact ⟨rfl, HC.out⟩
end
end Go.Proofs.YtghcmakhfdnimaaDoor
