/- A table in memory, and a character's entry: the program's. No condition but those written. -/
import Derived.Test.YtdojcgefiekleaaDoorSyd
namespace Go.Proofs.YtdojcgefiekleaaDoor
open Go.RowKit

/-- Where a table lies: its own two cells, its map of rules, and (a Lisp table) the box and the map that its rule has captured. -/
structure TL where
  t : Nat
  ow : Nat
  gs : Nat
  sb : Nat
def ruleV (lisp : Bool) (gs : Nat) : Value := if lisp then .func (.func 50) #[] #[.pointer (some ⟨gs, 0, none⟩)] else .func (.func 52) #[] #[]
structure TabAt (w : World) (p : TL) (T : Tb) : Prop where
  blk : Blk w p.t 77 #[ruleV T.lisp p.gs, .map (some p.ow)]
  own : ∃ M, MapIs w p.ow (entPairs M) ∧ (∀ c, pick c M = pick c T.own) ∧ (M.map (·.1)).Nodup
  rule : T.lisp = true → Blk w p.gs 73 #[.map (some p.sb)] ∧ MapIs w p.sb (entPairs special)
  ok : T.Ok
  ne : T.lisp = true → p.sb ≠ p.ow
section
variable {w w' : World} {p : TL} {T : Tb}
theorem TabAt.below (h : TabAt w p T) (hb : Below w.heap.size w w') : TabAt w' p T := by
  obtain ⟨M, hm, hM⟩ := h.own
  refine ⟨h.blk.below hb h.blk.lt, ⟨M, hm.same (hb.block _ hm.lt), hM⟩, fun hl => ?_, h.ok, h.ne⟩
  obtain ⟨h1, h2⟩ := h.rule hl
  exact ⟨h1.below hb h1.lt, h2.same (hb.block _ h2.lt)⟩
theorem TabAt.alloc (h : TabAt w p T) (o : Obj) : TabAt (w.alloc o) p T := h.below ((Below.refl _ w).alloc (Nat.le_refl _) o)
theorem func_nil1 (w : World) : (binOp .eql 67 (.func (.func 52) #[] #[]) .nilFunc).run Tryd.prog w = .ok (.bool false) w := by kernel_rfl
theorem func_nil2 (g : Nat) (w : World) : (binOp .eql 67 (.func (.func 50) #[] #[.pointer (some ⟨g, 0, none⟩)]) .nilFunc).run Tryd.prog w = .ok (.bool false) w := by kernel_rfl
set_option maxRecDepth 100000 in
set_option maxHeartbeats 4000000 in
theorem none_some (h : TabAt w p T) : Calls Tryd.prog 61 #[.pointer (some ⟨p.t, 0, none⟩)] w fun e w' => e = .returned (.bool false) ∧ w = w' := by
  have c0 : w.cell? ⟨p.t, 0, none⟩ = some (ruleV T.lisp p.gs) := (h.blk.cell 0).trans rfl
  have hq1 := func_nil1 w
  have hq2 := func_nil2 p.gs w
  clear h
  cases hl : T.lisp
  all_goals rw [hl] at c0
  all_goals simp only [ruleV, if_true, Bool.false_eq_true, if_false] at c0
  all_goals go_enter Tryd.func61, Tryd.ntmps61
  all_goals go_wp2
  all_goals go_ret
  all_goals exact ⟨rfl, rfl⟩
theorem none_nil (w : World) : Calls Tryd.prog 61 #[.pointer none] w fun e w' => e = .returned (.bool true) ∧ w = w' := by
  go_enter Tryd.func61, Tryd.ntmps61
  go_wp2
  all_goals go_ret
  all_goals exact ⟨rfl, rfl⟩
set_option maxRecDepth 100000 in
set_option maxHeartbeats 4000000 in
theorem ent_out (h : TabAt w p T) (c : Int) (hc : isCh c = false) : Calls Tryd.prog 46 #[.pointer (some ⟨p.t, 0, none⟩), .int .i64 c] w fun e w' => e = .returned (entV (T.ent c)) ∧ Below w.heap.size w w' := by
  have HP := hide (show T.ent c = (0, 0) by unfold Tb.ent; rw [hc]; rfl)
  have HN := hide (none_some (h.alloc (.cells #[.int .i64 0, .int .i64 0] 66)))
  have HC := hide hc
  clear h hc
  go_enter Tryd.func46, Tryd.ntmps46
  go_wp2_with (first | (go_at_call 61; refine (Calls.mono HN.out) ?_; rintro e w' ⟨rfl, rfl⟩) | (go_at_call 62; refine (ris_any _ _).mono ?_; rintro e w' ⟨rfl, rfl⟩; rw [HC.out]))
  refine bodyPost_ret (results_cell_row rfl _ _ w.heap.size 66 #[.int .i64 0, .int .i64 0] (0, 0) _ rfl (heap_alloc_new w _) Tryd.underlying66 rfl (by kernel_rfl)) rfl ?_
  exact ⟨by rw [HP.out]; rfl, (Below.refl _ _).alloc (Nat.le_refl _) _⟩
set_option maxRecDepth 100000 in
set_option maxHeartbeats 4000000 in
theorem ent_own (h : TabAt w p T) (c : Int) (hc : isCh c = true) (x : Int × Int) (hx : pick c T.own = some x) : Calls Tryd.prog 46 #[.pointer (some ⟨p.t, 0, none⟩), .int .i64 c] w fun e w' => e = .returned (entV (T.ent c)) ∧ Below w.heap.size w w' := by
  obtain ⟨x1, x2⟩ := x
  have HP := hide (show T.ent c = (x1, x2) by unfold Tb.ent; rw [hc, hx]; rfl)
  have h1 := h.alloc (.cells #[.int .i64 0, .int .i64 0] 66)
  have HN := hide (none_some h1)
  have HC := hide hc
  obtain ⟨M, hm1, hM⟩ := h1.own
  have c1 : (w.alloc (.cells #[.int .i64 0, .int .i64 0] 66)).cell? ⟨p.t, 1, none⟩ = some (.map (some p.ow)) := (h1.blk.cell 1).trans rfl
  have HG := hide (show mget (entPairs M) (.int .i64 c) = some (.agg #[.int .i64 x1, .int .i64 x2]) by rw [ent_get, hM.1, hx]; rfl)
  have HKeys := hide (ent_keys M)
  clear h hc hx h1 hM
  go_enter Tryd.func46, Tryd.ntmps46
  go_wp2_with (first | (go_at_call 61; refine (Calls.mono HN.out) ?_; rintro e w' ⟨rfl, rfl⟩) | (go_at_call 62; refine (ris_any _ _).mono ?_; rintro e w' ⟨rfl, rfl⟩; rw [HC.out]) | (at_lookup; go_loud (refine wpList_lookup_is rfl _ _ true rfl Tryd.underlying73 Tryd.underlying3 _ (zero_ent _) rfl hm1 HKeys.out (.int .i64 c) rfl (.int _ _) _ HG.out ?_)))
  refine bodyPost_ret (results_cell_row rfl _ _ w.heap.size 66 #[.int .i64 x1, .int .i64 x2] (0, 0) _ rfl ((Blk.new w _ _).alloc _) Tryd.underlying66 rfl (by kernel_rfl)) rfl ?_
  exact ⟨by rw [HP.out]; rfl, ((Below.refl _ _).alloc (Nat.le_refl _) _).alloc (by simp) _⟩
set_option maxRecDepth 100000 in
set_option maxHeartbeats 4000000 in
theorem ent_rule (h : TabAt w p T) (c : Int) (hc : isCh c = true) (hx : pick c T.own = none) : Calls Tryd.prog 46 #[.pointer (some ⟨p.t, 0, none⟩), .int .i64 c] w fun e w' => e = .returned (entV (T.ent c)) ∧ Below w.heap.size w w' := by
  obtain ⟨⟨x1, x2⟩, hy⟩ : ∃ x, x = T.ent c := ⟨_, rfl⟩
  have hP : T.ent c = if T.lisp then lispE c else plainE c := by
    unfold Tb.ent
    rw [hc, hx]
    rfl
  have HP := hide hy.symm
  have h1 := h.alloc (.cells #[.int .i64 0, .int .i64 0] 66)
  have h2 := h1.alloc (.cells #[.int .i64 0, .int .i64 0] 66)
  have HN := hide (none_some h1)
  have HC := hide hc
  obtain ⟨M, hm1, hM⟩ := h1.own
  have c1 : (w.alloc (.cells #[.int .i64 0, .int .i64 0] 66)).cell? ⟨p.t, 1, none⟩ = some (.map (some p.ow)) := (h1.blk.cell 1).trans rfl
  have c0 : ((w.alloc (.cells #[.int .i64 0, .int .i64 0] 66)).alloc (.cells #[.int .i64 0, .int .i64 0] 66)).cell? ⟨p.t, 0, none⟩ = some (ruleV T.lisp p.gs) := (h2.blk.cell 0).trans rfl
  have HG := hide (show mget (entPairs M) (.int .i64 c) = none by rw [ent_get, hM.1, hx]; rfl)
  have HKeys := hide (ent_keys M)
  obtain ⟨W2, hW2⟩ : ∃ W2, W2 = (w.alloc (.cells #[.int .i64 0, .int .i64 0] 66)).alloc (.cells #[.int .i64 0, .int .i64 0] 66) := ⟨_, rfl⟩
  have HW := hide (show Blk W2 w.heap.size 66 #[.int .i64 0, .int .i64 0] ∧ Below w.heap.size w W2 ∧ w.heap.size ≤ W2.heap.size from by
    rw [hW2]
    exact ⟨(Blk.new w _ _).alloc _, ((Below.refl _ _).alloc (Nat.le_refl _) _).alloc (by simp) _, by rw [World.size_alloc, World.size_alloc]; omega⟩)
  rw [← hW2] at h2
  have HE := hide hW2
  cases hl : T.lisp
  · rw [hl] at c0 hP
    simp only [ruleV, Bool.false_eq_true, if_false] at c0 hP
    have HR := hide (plain_any c W2)
    rw [← hP, ← hy] at HR
    simp only [entV] at HR
    clear h hc hx h1 hM hW2 h2 hP hy hl
    go_enter Tryd.func46, Tryd.ntmps46
    go_wp2_with (first | (go_at_call 61; refine (Calls.mono HN.out) ?_; rintro e w' ⟨rfl, rfl⟩) | (go_at_call 62; refine (ris_any _ _).mono ?_; rintro e w' ⟨rfl, rfl⟩; rw [HC.out]) | (at_lookup; go_loud (refine wpList_lookup_is rfl _ _ true rfl Tryd.underlying73 Tryd.underlying3 _ (zero_ent _) rfl hm1 HKeys.out (.int .i64 c) rfl (.int _ _) _ HG.out ?_)) | (go_at_call 52; rw [← HE.out]; refine (Calls.mono HR.out) ?_; rintro e w' ⟨rfl, hb⟩; have hk := HW.out.1.below hb HW.out.1.lt; have d0 := Blk.cell hk 0; have d1 := Blk.cell hk 1; have f0 := Blk.frozen hk 0; have f1 := Blk.frozen hk 1; have hB := hide (HW.out.2.1.trans (Below.mono hb HW.out.2.2)); have HK := hide hk; clear hb hk))
    refine bodyPost_ret (results_cell_row rfl _ _ w.heap.size 66 #[.int .i64 x1, .int .i64 x2] (0, 0) _ rfl ((HK.out.set_ 0 _).set_ 1 _) Tryd.underlying66 rfl (by kernel_rfl)) rfl ?_
    exact ⟨by rw [HP.out]; rfl, (hB.out.setCell (Nat.le_refl _) _).setCell (Nat.le_refl _) _⟩
  · have hr := h2.rule hl
    rw [hl] at c0 hP
    simp only [ruleV, if_true] at c0 hP
    have HR := hide (lisp1_any c p.gs p.sb W2 ((hr.1.cell 0).trans rfl) hr.2)
    rw [← hP, ← hy] at HR
    simp only [entV] at HR
    clear h hc hx h1 hM hW2 h2 hP hy hl hr
    go_enter Tryd.func46, Tryd.ntmps46
    go_wp2_with (first | (go_at_call 61; refine (Calls.mono HN.out) ?_; rintro e w' ⟨rfl, rfl⟩) | (go_at_call 62; refine (ris_any _ _).mono ?_; rintro e w' ⟨rfl, rfl⟩; rw [HC.out]) | (at_lookup; go_loud (refine wpList_lookup_is rfl _ _ true rfl Tryd.underlying73 Tryd.underlying3 _ (zero_ent _) rfl hm1 HKeys.out (.int .i64 c) rfl (.int _ _) _ HG.out ?_)) | (go_at_call 50; rw [← HE.out]; refine (Calls.mono HR.out) ?_; rintro e w' ⟨rfl, hb⟩; have hk := HW.out.1.below hb HW.out.1.lt; have d0 := Blk.cell hk 0; have d1 := Blk.cell hk 1; have f0 := Blk.frozen hk 0; have f1 := Blk.frozen hk 1; have hB := hide (HW.out.2.1.trans (Below.mono hb HW.out.2.2)); have HK := hide hk; clear hb hk))
    refine bodyPost_ret (results_cell_row rfl _ _ w.heap.size 66 #[.int .i64 x1, .int .i64 x2] (0, 0) _ rfl ((HK.out.set_ 0 _).set_ 1 _) Tryd.underlying66 rfl (by kernel_rfl)) rfl ?_
    exact ⟨by rw [HP.out]; rfl, (hB.out.setCell (Nat.le_refl _) _).setCell (Nat.le_refl _) _⟩
theorem ent_any (h : TabAt w p T) (c : Int) : Calls Tryd.prog 46 #[.pointer (some ⟨p.t, 0, none⟩), .int .i64 c] w fun e w' => e = .returned (entV (T.ent c)) ∧ Below w.heap.size w w' := by
  cases hc : isCh c
  · exact ent_out h c hc
  · cases hx : pick c T.own with
    | none => exact ent_rule h c hc hx
    | some x => exact ent_own h c hc x hx
end
end Go.Proofs.YtdojcgefiekleaaDoor
