/- What the small methods of the undo log do. No condition but those written. -/
import Derived.Test.YtghcmakhfdnimaaDoorUnd
import Derived.Test.YtghcmakhfdnimaaDoorChecked
import Derived.RegionTactic
import Derived.BigRegion
import Derived.ChangeAlike
import Derived.BigQuiet
import Derived.Deep.QuietTactic
import Derived.Laws.ResultCell
import Derived.Laws.Rows
namespace Go.Proofs.YtghcmakhfdnimaaDoor
open Go.RowKit

section
variable {W w w' : World} {b : Lb} {s : Lg} {R : Heap}
theorem LogAt.c0 (h : LogAt W w b s R) : w.cell? ⟨b.lb, 0, none⟩ = some (.int .i64 s.lim) := by rw [h.blk.cell]; rfl
theorem LogAt.c1 (h : LogAt W w b s R) : w.cell? ⟨b.lb, 1, none⟩ = some b.gv := by rw [h.blk.cell]; rfl
theorem LogAt.c2 (h : LogAt W w b s R) : w.cell? ⟨b.lb, 2, none⟩ = some b.ov := by rw [h.blk.cell]; rfl
theorem LogAt.c3 (h : LogAt W w b s R) : w.cell? ⟨b.lb, 3, none⟩ = some (.int .i64 s.ch) := by rw [h.blk.cell]; rfl
theorem LogAt.c4 (h : LogAt W w b s R) : w.cell? ⟨b.lb, 4, none⟩ = some (.int .i64 s.cost) := by rw [h.blk.cell]; rfl
theorem LogAt.c5 (h : LogAt W w b s R) : w.cell? ⟨b.lb, 5, none⟩ = some (.int .i64 s.now) := by rw [h.blk.cell]; rfl
theorem none_any (h : LogAt W w b s R) (hl : 1 ≤ s.lim) : Calls Tryd.prog 46 #[.pointer (some ⟨b.lb, 0, none⟩)] w fun e w' => e = .returned (.bool false) ∧ w = w' := by
  have c0 := h.c0
  have hz : (s.lim == 0) = false := by simp; omega
  clear h
  go_enter Tryd.func46, Tryd.ntmps46
  go_wp2
  go_ret
  exact ⟨rfl, rfl⟩
theorem none_nil (w : World) : Calls Tryd.prog 46 #[.pointer none] w fun e w' => e = .returned (.bool true) ∧ w = w' := by
  go_enter Tryd.func46, Tryd.ntmps46
  go_wp2
  go_ret
  exact ⟨rfl, rfl⟩
theorem cost_any (h : LogAt W w b s R) (hl : 1 ≤ s.lim) : Calls Tryd.prog 26 #[.pointer (some ⟨b.lb, 0, none⟩)] w fun e w' => e = .returned (.int .i64 s.cost) ∧ w = w' := by
  have HN := hide (none_any h hl)
  have c4 := h.c4
  clear h
  go_enter Tryd.func26, Tryd.ntmps26
  go_wp2_with fail
  refine (Calls.mono HN.out) ?_
  rintro e w2 ⟨rfl, rfl⟩
  go_wp2
  go_ret
  exact ⟨rfl, rfl⟩
theorem many_any (h : LogAt W w b s R) (hl : 1 ≤ s.lim) (hm : s.G.length ≤ 1000000) : Calls Tryd.prog 24 #[.pointer (some ⟨b.lb, 0, none⟩)] w fun e w' => e = .returned (.int .i64 (s.all.length : Int)) ∧ w = w' := by
  have HN := hide (none_any h hl)
  obtain ⟨A1, d1, hv1, _⟩ := h.slG.form
  obtain ⟨A2, d2, hv2, _⟩ := h.slO.form
  have c1 := h.c1
  have c2 := h.c2
  rw [hv1, ← h.len] at c1
  rw [hv2] at c2
  clear h hv1 hv2
  by_cases ho : s.O = []
  · have HA := hide (show s.all.length = s.G.length by unfold Lg.all; rw [if_pos ho])
    have hz : decide ((0 : Int) < (s.O.length : Int)) = false := by rw [ho]; rfl
    have hz2 : decide (0 < s.O.length) = false := by rw [ho]; rfl
    clear ho
    go_enter Tryd.func24, Tryd.ntmps24
    go_wp2_with fail
    refine (Calls.mono HN.out) ?_
    rintro e w2 ⟨rfl, rfl⟩
    go_wp2
    go_ret
    exact ⟨by rw [HA.out]; rfl, rfl⟩
  · have HA := hide (show s.all.length = s.G.length + 1 by unfold Lg.all; rw [if_neg ho]; simp)
    have hl : 0 < s.O.length := List.length_pos_iff.2 ho
    have hz : decide ((0 : Int) < (s.O.length : Int)) = true := by simp; omega
    have hz2 : decide (0 < s.O.length) = true := by simp; omega
    clear ho
    go_enter Tryd.func24, Tryd.ntmps24
    go_wp2_with fail
    refine (Calls.mono HN.out) ?_
    rintro e w2 ⟨rfl, rfl⟩
    go_wp2
    go_ret
    exact ⟨by rw [HA.out]; go_num, rfl⟩
/-- What Chain returns. -/
def Lg.chain (s : Lg) : Ending := .returned (.tuple #[.int .i64 (if s.ch < 0 then 0 else s.ch), .bool (decide (0 ≤ s.ch))])
theorem chain_any (h : LogAt W w b s R) (hl : 1 ≤ s.lim) : Calls Tryd.prog 25 #[.pointer (some ⟨b.lb, 0, none⟩)] w fun e w' => e = s.chain ∧ w = w' := by
  have HN := hide (none_any h hl)
  have c3 := h.c3
  clear h
  by_cases hc : s.ch < 0
  · have HA := hide (show s.chain = .returned (.tuple #[.int .i64 0, .bool false]) by unfold Lg.chain; rw [if_pos hc, decide_eq_false (by omega)])
    have hz : decide (s.ch < 0) = true := by simpa using hc
    go_enter Tryd.func25, Tryd.ntmps25
    go_wp2_with fail
    refine (Calls.mono HN.out) ?_
    rintro e w2 ⟨rfl, rfl⟩
    go_wp2
    go_ret2
    exact ⟨by rw [HA.out]; rfl, rfl⟩
  · have HA := hide (show s.chain = .returned (.tuple #[.int .i64 s.ch, .bool true]) by unfold Lg.chain; rw [if_neg hc, decide_eq_true (by omega)])
    have hz : decide (s.ch < 0) = false := by simpa using hc
    go_enter Tryd.func25, Tryd.ntmps25
    go_wp2_with fail
    refine (Calls.mono HN.out) ?_
    rintro e w2 ⟨rfl, rfl⟩
    go_wp2
    go_ret2
    exact ⟨by rw [HA.out]; rfl, rfl⟩
/-- The list of a log's blocks that Clear leaves. -/
def Lb.cleared (b : Lb) : Lb := ⟨b.lb, .slice none 0 0, .slice none 0 0, []⟩
theorem LogAt.cleared (h : LogAt W w b s R) : LogAt W (((((w.setCell ⟨b.lb, 1, none⟩ (.slice none 0 0)).setCell ⟨b.lb, 2, none⟩ (.slice none 0 0)).setCell ⟨b.lb, 3, none⟩ (.int .i64 (-1))).setCell ⟨b.lb, 4, none⟩ (.int .i64 0)).setCell ⟨b.lb, 5, none⟩ (.int .i64 0)) b.cleared s.clear R := by
  have h1 := h.own
  unfold Lb.heap at h1
  have h2 : Own W w ((b.lb, .cells 77 (logCells b s)) :: R) := h1.sub (List.Sublist.cons_cons _ (List.sublist_append_right _ _))
  exact ⟨((((h2.setCell 1 (.slice none 0 0)).setCell 2 (.slice none 0 0)).setCell 3 (.int .i64 (-1))).setCell 4 (.int .i64 0)).setCell 5 (.int .i64 0), rfl, RowOk.nil, RowOk.nil, fun x hx => by cases hx⟩
theorem clear_any (h : LogAt W w b s R) (hl : 1 ≤ s.lim) : Calls Tryd.prog 31 #[.pointer (some ⟨b.lb, 0, none⟩)] w fun e w' => e = .returned (.int .i64 0) ∧ LogAt W w' b.cleared s.clear R := by
  have HN := hide (none_any h hl)
  have c1 := h.c1
  have c2 := h.c2
  have c3 := h.c3
  have c4 := h.c4
  have c5 := h.c5
  have f1 := h.blk.frozen 1
  have f2 := h.blk.frozen 2
  have f3 := h.blk.frozen 3
  have f4 := h.blk.frozen 4
  have f5 := h.blk.frozen 5
  have HC := hide h.cleared
  clear h
  go_enter Tryd.func31, Tryd.ntmps31
  go_wp2_with fail
  refine (Calls.mono HN.out) ?_
  rintro e w2 ⟨rfl, rfl⟩
  go_wp2
  go_ret
  exact ⟨rfl, HC.out⟩
theorem LogAt.new (w : World) (lim : Int) : LogAt w (w.alloc (.cells #[.int .i64 lim, .slice none 0 0, .slice none 0 0, .int .i64 (-1), .int .i64 0, .int .i64 0] 77)) ⟨w.heap.size, .slice none 0 0, .slice none 0 0, []⟩ (Lg.new lim) [] :=
  ⟨(Own.refl w).newCells _ _, rfl, RowOk.nil, RowOk.nil, fun x hx => by cases hx⟩
theorem LogAt.newAt {L : Heap} (h : Own W w L) (lim : Int) : LogAt W (w.alloc (.cells #[.int .i64 lim, .slice none 0 0, .slice none 0 0, .int .i64 (-1), .int .i64 0, .int .i64 0] 77)) ⟨w.heap.size, .slice none 0 0, .slice none 0 0, []⟩ (Lg.new lim) L :=
  ⟨h.newCells _ _, rfl, RowOk.nil, RowOk.nil, fun x hx => by cases hx⟩
theorem new_ok {L : Heap} (h : Own W w L) (lim : Int) (h1 : 1 ≤ lim) (h2 : lim ≤ 1048576) : Calls Tryd.prog 11 #[.int .i64 lim] w fun e w' => e = .returned (.tuple #[.pointer (some ⟨w.heap.size, 0, none⟩), .int .i64 0]) ∧ LogAt W w' ⟨w.heap.size, .slice none 0 0, .slice none 0 0, []⟩ (Lg.new lim) L := by
  have HC := hide (LogAt.newAt h lim)
  clear h
  go_enter Tryd.func11, Tryd.ntmps11
  go_wp2
  go_ret2
  exact ⟨rfl, HC.out⟩
theorem new_bad (lim : Int) (h1 : lim < 1 ∨ 1048576 < lim) : Calls Tryd.prog 11 #[.int .i64 lim] w fun e w' => e = .returned (.tuple #[.pointer none, .int .i64 2]) ∧ w = w' := by
  rcases h1 with h1 | h1
  · go_enter Tryd.func11, Tryd.ntmps11
    go_wp2
    go_ret2
    exact ⟨rfl, rfl⟩
  · have h2 : ¬ lim < 1 := by omega
    go_enter Tryd.func11, Tryd.ntmps11
    go_wp2
    go_ret2
    exact ⟨rfl, rfl⟩
theorem price_any (c : Chg) (w : World) (hT : Tabs w) (hs : c.tx.size ≤ 140737488355328) : Calls Tryd.prog 50 #[c.val] w fun e w' => e = .returned (.int .i64 (c.price : Int)) ∧ Below w.heap.size w w' := by
  have HB := hide ((Below.refl _ w).alloc (Nat.le_refl _) (.cells c.cells.toArray 51))
  have hl := lenS_le c.tx
  have HL := hide (len_any c.tx (w.alloc (.cells c.cells.toArray 51)) (by omega) (hT.below HB.out))
  by_cases hk : c.k = 2
  · have HP := hide (show c.price = 1 + lenS c.tx by unfold Chg.price; rw [if_pos hk])
    have hz : (c.k == 2) = true := by simpa using hk
    clear hT hk
    go_enter Tryd.func50, Tryd.ntmps50
    go_wp2_with fail
    refine (Calls.mono HL.out) ?_
    rintro e w2 ⟨rfl, hb⟩
    have HB2 := hide (HB.out.trans (hb.mono HB.out.size))
    clear hb
    go_wp2
    go_ret
    exact ⟨by rw [HP.out]; go_num, HB2.out⟩
  · have HP := hide (show c.price = 1 by unfold Chg.price; rw [if_neg hk])
    have hz : (c.k == 2) = false := by simpa using hk
    clear hT hk
    go_enter Tryd.func50, Tryd.ntmps50
    go_wp2
    go_ret
    exact ⟨by rw [HP.out]; rfl, HB.out⟩
end
end Go.Proofs.YtghcmakhfdnimaaDoor
