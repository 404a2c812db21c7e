/- A change is added to a log. No condition but those written. -/
import Derived.Test.YtnbhejbpofjamaaGreatDoorBkb
import Derived.Deep.RegionLaw
import Derived.Deep.RegionHeld3
import Derived.Deep.DeepCutAuto
namespace Go.Proofs.YtnbhejbpofjamaaGreatDoor
open Go.RowKit

section
variable {W w w' : World} {b : Lb} {s : Lg} {R : Heap}
/-- The same blocks, the open group's row first. -/
theorem LogAt.toO (h : LogAt W w b s R) : Own W w (chgRow b.ov s.O ++ ((b.lb, .cells 192 (logCells b s)) :: (rowOf 190 1 b.gv b.gs.length (b.gs.map (·.1)) ++ (grpHeap b.gs ++ R)))) := by
  refine h.own.perm ?_
  unfold Lb.heap
  classical
  rw [List.perm_iff_count]
  intro x
  simp only [List.count_append, List.count_cons]
  omega
theorem LogAt.ofO {v : Value} {O : List Chg} {cs : Array Value} (ho : Own W w (chgRow v O ++ ((b.lb, .cells 192 cs) :: (rowOf 190 1 b.gv b.gs.length (b.gs.map (·.1)) ++ (grpHeap b.gs ++ R))))) (hg : s.G = b.gs.map (·.2)) (h1 : RowOk b.gv b.gs.length) (h2 : RowOk v s.O.length) (h3 : ∀ x ∈ b.gs, RowOk x.1 x.2.length) (hO : s.O = O) (hc : cs = logCells { b with ov := v } s) : LogAt W w { b with ov := v } s R := by
  subst hO hc
  refine ⟨ho.perm ?_, hg, h1, h2, h3⟩
  unfold Lb.heap
  classical
  rw [List.perm_iff_count]
  intro x
  simp only [List.count_append, List.count_cons]
  omega
/-- A field of the log is written. -/
theorem LogAt.setCell {i : Nat} {u : Value} {s' : Lg} (h : LogAt W w b s R) (hc : (logCells b s).setIfInBounds i u = logCells b s') (hO : s'.O = s.O) (hG : s'.G = s.G) : LogAt W (w.setCell ⟨b.lb, i, none⟩ u) b s' R := by
  have h1 := h.own
  unfold Lb.heap at h1
  have h2 := h1.setCell i u
  rw [hc] at h2
  refine ⟨?_, by rw [hG]; exact h.grp, h.okG, by rw [hO]; exact h.okO, h.okg⟩
  unfold Lb.heap
  rw [hO]
  exact h2
/-- What append to the open group leaves, stored back. -/
theorem LogAt.pushed {v' : Value} {c : Chg} (h : LogAt W w b s R) (hs : Sl w' 161 9 v' (s.O.length + 1) (rows Chg.cells s.O ++ c.cells)) (ho : Only (fun g => b.ov.ownBlock = some g) w w') (hv : v'.ownBlock = b.ov.ownBlock ∨ v'.ownBlock = some w.heap.size) :
    Blk w' b.lb 192 (logCells b s) ∧ LogAt W (w'.setCell ⟨b.lb, 2, none⟩ v') { b with ov := v' } { s with O := s.O ++ [c] } R := by
  have e : rows Chg.cells s.O ++ c.cells = rows Chg.cells (s.O ++ [c]) := by rw [rows_append, rows_one]
  have el : (s.O ++ [c]).length = s.O.length + 1 := by simp
  rw [e] at hs
  have h1 := h.toO
  unfold chgRow at h1
  have h2 := h1.appended hs ho hv
  have hb : Blk w' b.lb 192 (logCells b s) := h2.blk (by simp)
  have h3 : Own W w' (((b.lb, .cells 192 (logCells b s)) :: (rowOf 190 1 b.gv b.gs.length (b.gs.map (·.1)) ++ (grpHeap b.gs ++ R))) ++ rowOf 161 9 v' (s.O.length + 1) (rows Chg.cells (s.O ++ [c]))) := h2.perm List.perm_append_comm
  have h4 := h3.setCell 2 v'
  refine ⟨hb, LogAt.ofO (O := s.O ++ [c]) (cs := (logCells b s).setIfInBounds 2 v') ?_ h.grp h.okG ?_ h.okg rfl rfl⟩
  · unfold chgRow
    rw [el]
    exact (show Own W _ (((b.lb, .cells 192 ((logCells b s).setIfInBounds 2 v')) :: (rowOf 190 1 b.gv b.gs.length (b.gs.map (·.1)) ++ (grpHeap b.gs ++ R))) ++ rowOf 161 9 v' (s.O.length + 1) (rows Chg.cells (s.O ++ [c]))) from h4).perm List.perm_append_comm
  · show RowOk v' (s.O ++ [c]).length
    rw [el]
    exact hs.rowOk
/-- The field To of an element of the open group is written. -/
theorem LogAt.setTo {g off c i : Nat} {x : Chg} {t : Int} (h : LogAt W w b s R) (hv : b.ov = .slice (some ⟨g, off, none⟩) s.O.length c) (hx : s.O[i]? = some x) : LogAt W (w.setCell ⟨g, off + i * 9 + 2, none⟩ (.int .i64 t)) b { s with O := s.O.set i { x with t := t } } R := by
  have h1 := h.toO
  unfold chgRow at h1
  rw [rowOf_some (v := b.ov) (g := g) (by rw [hv]; rfl), hv] at h1
  have hi : i < s.O.length := (List.getElem?_eq_some_iff.1 hx).1
  have hj : i * 9 + 2 < (rows Chg.cells s.O).length := by rw [rows_len chg_len]; omega
  have h2 := h1.setRow (i * 9 + 2) hj (.int .i64 t)
  rw [rows_set chg_len { x with t := t } 2 (.int .i64 t) s.O i x hx (by omega) rfl] at h2
  rw [Nat.add_assoc]
  have hb : b = { b with ov := b.ov } := rfl
  rw [hb]
  refine LogAt.ofO (O := s.O.set i { x with t := t }) (cs := logCells b s) ?_ h.grp h.okG ?_ h.okg rfl rfl
  · unfold chgRow
    rw [rowOf_some (v := b.ov) (g := g) (by rw [hv]; rfl), hv, List.length_set]
    exact h2
  · show RowOk b.ov (s.O.set i _).length
    rw [List.length_set]
    exact h.okO
end
end Go.Proofs.YtnbhejbpofjamaaGreatDoor
namespace Go.Proofs.YtnbhejbpofjamaaGreatDoor
open Go.RowKit

/-- What Add leaves. -/
def AddRes (W : World) (b : Lb) (s : Lg) (R : Heap) (c : Chg) (e : Ending) (w' : World) : Prop := e = .returned (.int .i64 c.check) ∧ ∃ b', b'.lb = b.lb ∧ LogAt W w' b' (s.add c) R
section
variable {W w w' : World} {b : Lb} {s : Lg} {R : Heap}
set_option maxRecDepth 100000 in
set_option maxHeartbeats 1000000 in
theorem add_bad (h : LogAt W w b s R) (hl : 1 ≤ s.lim) (c : Chg) (hR : Rules w) (hs : c.tx.size ≤ 140737488355328) (hc : ¬ c.check = 0) : Calls Tryz.prog 168 #[.pointer (some ⟨b.lb, 0, none⟩), c.val] w (AddRes W b s R c) := by
  have h1 := h.skip (.cells #[.int .i64 c.k, .int .i64 c.a, .int .i64 c.t, .int .i64 c.id, .int .i64 c.nm, .string c.tx, .int .i64 c.vk, .int .i64 c.vn, .bool c.had] 161)
  have hR1 := hR.below ((Below.refl _ w).alloc (Nat.le_refl _) (.cells #[.int .i64 c.k, .int .i64 c.a, .int .i64 c.t, .int .i64 c.id, .int .i64 c.nm, .string c.tx, .int .i64 c.vk, .int .i64 c.vn, .bool c.had] 161))
  have HN := hide (lnone_any h1 hl)
  have HC := hide (check_any c _ hR1 hs)
  have H1 := hide h1
  have hz : (c.check != 0) = true := by simpa using hc
  have HA := hide (show s.add c = s by unfold Lg.add; rw [if_neg hc])
  clear h h1 hR hR1 hs hc
  go_enter Tryz.func168, Tryz.ntmps168
  go_wp2_with fail
  refine (Calls.mono HN.out) ?_
  rintro e w2 ⟨rfl, rfl⟩
  go_wp2_with fail
  refine (Calls.mono HC.out) ?_
  rintro e w2 ⟨rfl, hb⟩
  have HR := hide (show LogAt W w2 b (s.add c) R by rw [HA.out]; exact H1.out.below hb)
  clear hb
  go_wp2
  go_ret
  exact ⟨rfl, b, rfl, HR.out⟩
/-- The state behind Add where the change is right. -/
theorem add_eq {s : Lg} {c : Chg} (hc : c.check = 0) : s.add c = s.add0 c := by unfold Lg.add; rw [if_pos hc]
set_option maxRecDepth 100000 in
set_option maxHeartbeats 2000000 in
theorem add_join (h : LogAt W w b s R) (hl : 1 ≤ s.lim) (c : Chg) (hR : Rules w) (hs : c.tx.size ≤ 140737488355328) (hc : c.check = 0) (hj : s.joins c = true) (hn : s.O.length ≤ 1000000) : Calls Tryz.prog 168 #[.pointer (some ⟨b.lb, 0, none⟩), c.val] w (AddRes W b s R c) := by
  obtain ⟨x, hx, hck, hxk, hxt⟩ : ∃ x, s.O[s.O.length - 1]? = some x ∧ c.k = 1 ∧ x.k = 1 ∧ x.t = c.a := by
    unfold Lg.joins at hj
    split at hj
    · rename_i x hx
      simp at hj
      exact ⟨x, hx, hj⟩
    · cases hj
  have HA := hide (show s.add c = { s with O := s.O.set (s.O.length - 1) { x with t := c.t } } by rw [add_eq hc]; unfold Lg.add0; rw [if_pos hj]; unfold lengthen; rw [hx])
  have h1 := h.box 161 #[.int .i64 c.k, .int .i64 c.a, .int .i64 c.t, .int .i64 c.id, .int .i64 c.nm, .string c.tx, .int .i64 c.vk, .int .i64 c.vn, .bool c.had]
  have hR1 := hR.below ((Below.refl _ w).alloc (Nat.le_refl _) (.cells #[.int .i64 c.k, .int .i64 c.a, .int .i64 c.t, .int .i64 c.id, .int .i64 c.nm, .string c.tx, .int .i64 c.vk, .int .i64 c.vn, .bool c.had] 161))
  have HN := hide (lnone_any h1 hl)
  have HC := hide (check_any c _ hR1 hs)
  have hz : (c.check != 0) = false := by simp [hc]
  have H1 := hide h1
  have HCC := hide hc
  have hpos : 0 < s.O.length := by have := (List.getElem?_eq_some_iff.1 hx).1; omega
  obtain ⟨n, hnn⟩ : ∃ n, s.O.length = n + 1 := ⟨s.O.length - 1, by omega⟩
  have HNN := hide hnn
  have HX := hide hx
  have HCK := hide hck
  have HXK := hide hxk
  have HXT := hide hxt
  clear h h1 hR hR1 hs hc hj hx hck hxk hxt hnn
  go_enter Tryz.func168, Tryz.ntmps168
  go_wp2_with fail
  refine (Calls.mono HN.out) ?_
  rintro e w2 ⟨rfl, rfl⟩
  go_wp2_with fail
  refine (Calls.mono HC.out) ?_
  rintro e w2 ⟨rfl, hb⟩
  have h2 := H1.out.below hb
  clear hb HN HC
  obtain ⟨g, off, cp, hv, hcp, hcm, hgl, hfz, hat⟩ := h2.slO.atC hpos
  obtain ⟨p0, p1, p2, p3, p4, p5, p6, p7, p8⟩ := hat _ x HX.out
  have e1 : s.O.length - 1 = n := by rw [HNN.out]; rfl
  rw [e1] at p0 p2
  rw [HXK.out] at p0
  rw [HXT.out] at p2
  have c2 := h2.c2
  rw [hv, HNN.out] at c2
  have kb := h2.own.blk (g := w.heap.size) (t := 161) (cs := #[.int .i64 c.k, .int .i64 c.a, .int .i64 c.t, .int .i64 c.id, .int .i64 c.nm, .string c.tx, .int .i64 c.vk, .int .i64 c.vn, .bool c.had]) (by simp)
  have k0 : w2.cell? ⟨w.heap.size, 0, none⟩ = some (.int .i64 1) := by rw [kb.cell, ← HCK.out]; rfl
  have k1 : w2.cell? ⟨w.heap.size, 1, none⟩ = some (.int .i64 c.a) := by rw [kb.cell]; rfl
  have k2 : w2.cell? ⟨w.heap.size, 2, none⟩ = some (.int .i64 c.t) := by rw [kb.cell]; rfl
  have f2 := hfz (off + n * 9 + 2)
  have hs2 := h2.drop.setTo hv HX.out (t := c.t)
  rw [e1] at hs2
  have HS := hide hs2
  have HE1 := hide e1
  have hn1 : n + 1 ≤ 1000000 := by have := HNN.out; omega
  have HV := hide hv
  clear h2 hat hfz p1 p3 p4 p5 p6 p7 p8 kb hs2 hv hgl hcp hpos hn e1
  have hi1 : (0 : Int) ≤ (n : Int) := by omega
  have hi2 : (n : Int) < (n : Int) + 1 := by omega
  go_wp2
  go_quiet (fail)
  go_wp2
  go_region
  go_wp2
  go_ret
  refine ⟨by rw [HCC.out]; rfl, b, rfl, ?_⟩
  rw [HA.out, HE1.out]
  exact HS.out.below ⟨rfl, rfl, rfl, Nat.le_refl _, fun _ _ => rfl⟩

/-- Where nothing is joined: why. -/
theorem joins_no {s : Lg} {c : Chg} (h : s.joins c = false) : s.O = [] ∨ ∃ n x, s.O.length = n + 1 ∧ s.O[n]? = some x ∧ (¬ c.k = 1 ∨ (c.k = 1 ∧ ¬ x.k = 1) ∨ (c.k = 1 ∧ x.k = 1 ∧ ¬ x.t = c.a)) := by
  by_cases hO : s.O = []
  · exact .inl hO
  · have hpos := List.length_pos_iff.2 hO
    refine .inr ⟨s.O.length - 1, s.O[s.O.length - 1], by omega, List.getElem?_eq_getElem _, ?_⟩
    unfold Lg.joins at h
    rw [List.getElem?_eq_getElem (by omega)] at h
    simp at h
    by_cases h1 : c.k = 1
    · by_cases h2 : (s.O[s.O.length - 1]).k = 1
      · exact .inr (.inr ⟨h1, h2, h h1 h2⟩)
      · exact .inr (.inl ⟨h1, h2⟩)
    · exact .inl h1
set_option maxRecDepth 100000 in
set_option maxHeartbeats 4000000 in
theorem add_push (h : LogAt W w b s R) (hl : 1 ≤ s.lim) (c : Chg) (hR : Rules w) (hs : c.tx.size ≤ 140737488355328) (hc : c.check = 0) (hj : s.joins c = false) (hn : s.O.length ≤ 1000000) (hn0 : 0 ≤ s.now) (hn1 : s.now ≤ 1099511627776) (hc0 : 0 ≤ s.cost) (hc1 : s.cost ≤ 1099511627776) : Calls Tryz.prog 168 #[.pointer (some ⟨b.lb, 0, none⟩), c.val] w (AddRes W b s R c) := by
  have HA := hide (show s.add c = (if 1048576 < s.now + c.price then s.clear else s).push c by rw [add_eq hc]; unfold Lg.add0; rw [if_neg (by rw [hj]; simp)])
  have h1 := h.box 161 #[.int .i64 c.k, .int .i64 c.a, .int .i64 c.t, .int .i64 c.id, .int .i64 c.nm, .string c.tx, .int .i64 c.vk, .int .i64 c.vn, .bool c.had]
  have hR1 := hR.below ((Below.refl _ w).alloc (Nat.le_refl _) (.cells #[.int .i64 c.k, .int .i64 c.a, .int .i64 c.t, .int .i64 c.id, .int .i64 c.nm, .string c.tx, .int .i64 c.vk, .int .i64 c.vn, .bool c.had] 161))
  have HN := hide (lnone_any h1 hl)
  have HC := hide (check_any c _ hR1 hs)
  have HR1 := hide hR1
  have hz : (c.check != 0) = false := by simp [hc]
  have H1 := hide h1
  have HCC := hide hc
  have HJ := hide (joins_no hj)
  have HB := hide (And.intro hs (And.intro hn (And.intro hn0 (And.intro hn1 (And.intro hc0 hc1)))))
  clear h h1 hR hR1 hs hc hj hn hn0 hn1 hc0 hc1
  go_enter Tryz.func168, Tryz.ntmps168
  go_wp2_with fail
  refine (Calls.mono HN.out) ?_
  rintro e w2 ⟨rfl, rfl⟩
  go_wp2_with fail
  refine (Calls.mono HC.out) ?_
  rintro e w2 ⟨rfl, hb⟩
  have H2 := hide (H1.out.below hb)
  have HR2 := hide (HR1.out.below hb)
  clear hb HN HC H1 HR1
  obtain ⟨A1, d1, hv1, _⟩ := H2.out.slO.form
  have c2 := H2.out.c2
  rw [hv1] at c2
  clear hv1
  have hnn := HB.out.2.1
  go_upto_region 7 with fail
  go_cut [51] (fun v wx => v = .bool false ∧ ∃ q, wx = w2.drewN q)
  case first =>
    rcases HJ.out with hO | ⟨n, x, hnl, hx, hcase⟩
    · have hz1 : s.O.length = 0 := by rw [hO]; rfl
      have hz2 : decide ((0 : Int) ≤ (s.O.length : Int) - 1) = false := by simp; omega
      have hz3 : decide ((1 : Int) ≤ (s.O.length : Int)) = false := by simp; omega
      have hz4 : decide (1 ≤ s.O.length) = false := by simp; omega
      have hz5 : decide (0 < s.O.length) = false := by simp; omega
      clear hO hz1 hnn
      go_wp2_with fail
      go_quiet (fail)
      go_wp2_with fail
      go_meet
      exact ⟨rfl, _, rfl⟩
    · clear c2
      obtain ⟨g, off, cp, hv, hcp, hcm, hgl, hfz, hat⟩ := H2.out.slO.atC (by omega)
      obtain ⟨p0, p1, p2, p3, p4, p5, p6, p7, p8⟩ := hat n x hx
      have c2 := H2.out.c2
      rw [hv] at c2
      have hi3 : ((s.O.length : Int) - 1).toNat = n := by omega
      have hi4 : (0 : Int) ≤ (s.O.length : Int) - 1 := by omega
      have hi6 : (1 : Int) ≤ (s.O.length : Int) := by omega
      have hi7 : 1 ≤ s.O.length := by omega
      have hi5 : (s.O.length : Int) - 1 < (s.O.length : Int) := by omega
      have kb := H2.out.own.blk (g := w.heap.size) (t := 161) (cs := #[.int .i64 c.k, .int .i64 c.a, .int .i64 c.t, .int .i64 c.id, .int .i64 c.nm, .string c.tx, .int .i64 c.vk, .int .i64 c.vn, .bool c.had]) (by simp)
      have k0 := kb.cell 0
      have k1 := kb.cell 1
      clear hat hfz hx p1 p3 p4 p5 p6 p7 p8 kb hv hgl hcp hnl hnn
      rcases hcase with e1 | ⟨e1, e2⟩ | ⟨e1, e2, e3⟩
      · have hz1 : (c.k == 1) = false := by simpa using e1
        clear e1
        go_wp2_with fail
        go_quiet (fail)
        go_wp2_with fail
        go_meet
        exact ⟨rfl, _, rfl⟩
      · have hz1 : (c.k == 1) = true := by simpa using e1
        have hz2 : (x.k == 1) = false := by simpa using e2
        clear e1 e2
        go_wp2_with fail
        go_quiet (fail)
        go_wp2_with fail
        go_meet
        exact ⟨rfl, _, rfl⟩
      · have hz1 : (c.k == 1) = true := by simpa using e1
        have hz2 : (x.k == 1) = true := by simpa using e2
        have hz3 : (x.t == c.a) = false := by simpa using e3
        clear e1 e2 e3
        go_wp2_with fail
        go_quiet (fail)
        go_wp2_with fail
        go_meet
        exact ⟨rfl, _, rfl⟩
  case rest =>
    obtain ⟨rfl, q, rfl⟩ := hcut
    have H3 := hide (H2.out.drewN q)
    have HR3 := hide (HR2.out.below ⟨rfl, rfl, rfl, Nat.le_refl _, fun _ _ => rfl⟩ : Rules (w2.drewN q))
    clear c2 HJ H2 HR2
    generalize w2.drewN q = w3 at *
    have kb := H3.out.own.blk (g := w.heap.size) (t := 161) (cs := #[.int .i64 c.k, .int .i64 c.a, .int .i64 c.t, .int .i64 c.id, .int .i64 c.nm, .string c.tx, .int .i64 c.vk, .int .i64 c.vn, .bool c.had]) (by simp)
    have k0 := kb.cell 0
    have k1 := kb.cell 1
    have k2 := kb.cell 2
    have k3 := kb.cell 3
    have k4 := kb.cell 4
    have k5 := kb.cell 5
    have k6 := kb.cell 6
    have k7 := kb.cell 7
    have k8 := kb.cell 8
    have HP := hide (price_any c w3 HR3.out.tabs HB.out.1)
    clear kb
    go_wp2_with fail
    refine (Calls.mono HP.out) ?_
    rintro e w4 ⟨rfl, hb⟩
    have H4 := hide (H3.out.below hb)
    clear hb HP HR3 H3 k0 k1 k2 k3 k4 k5 k6 k7 k8
    have c5 := H4.out.c5
    have hpz : (0 : Int) ≤ (c.price : Int) := by omega
    have hpz1 : (c.price : Int) ≤ 140737488355329 := by have := price_le c; have := HB.out.1; omega
    have hno : 0 ≤ s.now ∧ s.now ≤ 1099511627776 := ⟨HB.out.2.2.1, HB.out.2.2.2.1⟩
    obtain ⟨hno1, hno2⟩ := hno
    obtain ⟨i0, hi, hz0, hz1, hz2⟩ := info_parts info_chg
    have HI := hide hi
    have HZ := hide hz0
    have HZ1 := hide hz1
    have HZ2 := hide hz2
    clear hi hz0 hz1 hz2
    by_cases hbig : 1048576 < s.now + c.price
    · have hzb : decide (1048576 < s.now + (c.price : Int)) = true := by simpa using hbig
      have HA2 := hide (show s.add c = s.clear.push c by rw [HA.out, if_pos hbig])
      have HCL := hide (clear_any H4.out hl)
      clear hbig
      go_wp2_with fail
      refine (Calls.mono HCL.out) ?_
      rintro e w5 ⟨rfl, h5⟩
      have hlen5 : s.clear.O.length ≤ 1000000 := Nat.zero_le _
      obtain ⟨s5, hs5⟩ : ∃ s5, s5 = s.clear := ⟨_, rfl⟩
      obtain ⟨b5, hb5⟩ : ∃ b5, b5 = b.cleared := ⟨_, rfl⟩
      rw [← hs5, ← hb5] at h5
      rw [← hs5] at hlen5
      have HM5 := hide (show 0 ≤ s5.cost ∧ s5.cost ≤ 1099511627776 ∧ 0 ≤ s5.now ∧ s5.now ≤ 1099511627776 by rw [hs5]; exact ⟨Int.le_refl _, by show (0 : Int) ≤ _; omega, Int.le_refl _, by show (0 : Int) ≤ _; omega⟩)
      have HS5 := hide hs5
      have HLB := hide (show b5.lb = b.lb by rw [hb5]; rfl)
      clear hs5 hb5 HCL c5
      obtain ⟨lb5, gv5, ov5, gs5⟩ := b5
      obtain rfl : lb5 = b.lb := HLB.out
      have hbx := h5.box 161 #[.int .i64 c.k, .int .i64 c.a, .int .i64 c.t, .int .i64 c.id, .int .i64 c.nm, .string c.tx, .int .i64 c.vk, .int .i64 c.vn, .bool c.had]
      have hbx2 := (h5.drew).skip (.cells #[.int .i64 c.k, .int .i64 c.a, .int .i64 c.t, .int .i64 c.id, .int .i64 c.nm, .string c.tx, .int .i64 c.vk, .int .i64 c.vn, .bool c.had] 161)
      obtain ⟨A5, d5, hv5, _⟩ := h5.slO.form
      have g2 : w5.cell? ⟨b.lb, 2, none⟩ = some (.slice A5 s5.O.length d5) := h5.c2.trans (congrArg some hv5)
      have g3 : (w5.alloc (.cells #[.int .i64 c.k, .int .i64 c.a, .int .i64 c.t, .int .i64 c.id, .int .i64 c.nm, .string c.tx, .int .i64 c.vk, .int .i64 c.vn, .bool c.had] 161)).cell? ⟨b.lb, 2, none⟩ = some (.slice A5 s5.O.length d5) := hbx.c2.trans (congrArg some hv5)
      have kb := h5.own.blk (g := w.heap.size) (t := 161) (cs := #[.int .i64 c.k, .int .i64 c.a, .int .i64 c.t, .int .i64 c.id, .int .i64 c.nm, .string c.tx, .int .i64 c.vk, .int .i64 c.vn, .bool c.had]) (by simp)
      have k0 := kb.cell 0
      have k1 := kb.cell 1
      have k2 := kb.cell 2
      have k3 := kb.cell 3
      have k4 := kb.cell 4
      have k5 := kb.cell 5
      have k6 := kb.cell 6
      have k7 := kb.cell 7
      have k8 := kb.cell 8
      have HSL := hide (show Sl (w5.drew.alloc (.cells #[.int .i64 c.k, .int .i64 c.a, .int .i64 c.t, .int .i64 c.id, .int .i64 c.nm, .string c.tx, .int .i64 c.vk, .int .i64 c.vn, .bool c.had] 161)) 161 9 (.slice A5 s5.O.length d5) s5.O.length (rows Chg.cells s5.O) by rw [← hv5]; exact hbx2.slO)
      have HX := hide hbx2
      have HV5 := hide hv5
      have HB5 := hide hlen5
      clear h5 hbx hbx2 kb hv5 hlen5
      go_upto_region 13 with fail
      go_cut [] (fun wx => ∃ v', LogAt W wx ⟨b.lb, gv5, v', gs5⟩ { s5 with O := s5.O ++ [c] } R)
      case first =>
        go_region_law
          ((refine step_append_sl rfl (.tmp 76) (.tmp 78) 190 rfl 161 i0 _ 9 80 Tryz.underlying190 HI.out HZ.out HZ1.out HZ2.out rfl _ s5.O.length (rows Chg.cells s5.O) rfl HSL.out _ rfl 1 _ (rd_elem w5.drew 161 9 (Chg.cells c) rfl) (chg_one _) (by have := HB5.out; unfold maxLen; omega) (by have := HB5.out; omega) ?_; intro v' w6 hs6 ho6 hv6; rw [← HV5.out] at ho6 hv6; have hadd := HX.out.pushed hs6 ho6 hv6; obtain ⟨A6, d6, rfl, _⟩ := hs6.form; have x2 : w6.cell? ⟨b.lb, 2, none⟩ = some _ := hadd.1.cell 2; have f2 : w6.frozen? ⟨b.lb, 2, none⟩ = false := hadd.1.frozen 2; have HN6 := hide hadd.2; clear hs6 ho6 hv6 hadd))
        all_goals (go_wp2_with fail; go_meet; exact ⟨_, HN6.out.drop⟩)
      case rest =>
        obtain ⟨v', hN⟩ := hcut
        have n4 : wc.cell? ⟨b.lb, 4, none⟩ = some (.int .i64 s5.cost) := hN.c4
        have n5 : wc.cell? ⟨b.lb, 5, none⟩ = some (.int .i64 s5.now) := hN.c5
        have f4 : wc.frozen? ⟨b.lb, 4, none⟩ = false := hN.blk.frozen 4
        have f5 : wc.frozen? ⟨b.lb, 5, none⟩ = false := hN.blk.frozen 5
        have hN2 := (hN.setCell (i := 4) (u := .int .i64 (s5.cost + c.price)) (s' := { s5 with O := s5.O ++ [c], cost := s5.cost + c.price }) rfl rfl rfl).setCell (i := 5) (u := .int .i64 (s5.now + c.price)) (s' := s5.push c) rfl rfl rfl
        have HN2 := hide hN2
        obtain ⟨m1, m2, m3, m4⟩ := HM5.out
        clear hN hN2 HX HSL
        go_wp2_with fail
        go_region
        go_wp2
        go_ret
        refine ⟨by rw [HCC.out]; rfl, ⟨b.lb, gv5, v', gs5⟩, rfl, ?_⟩
        rw [HA2.out, ← HS5.out]
        exact HN2.out.below ⟨rfl, rfl, rfl, Nat.le_refl _, fun _ _ => rfl⟩
    · have hzb : decide (1048576 < s.now + (c.price : Int)) = false := by simpa using hbig
      have HA2 := hide (show s.add c = s.push c by rw [HA.out, if_neg hbig])
      have h5 := H4.out
      have hlen5 := HB.out.2.1
      obtain ⟨s5, hs5⟩ : ∃ s5, s5 = s := ⟨_, rfl⟩
      obtain ⟨b5, hb5⟩ : ∃ b5, b5 = b := ⟨_, rfl⟩
      rw [← hs5, ← hb5] at h5
      rw [← hs5] at hlen5
      have HM5 := hide (show 0 ≤ s5.cost ∧ s5.cost ≤ 1099511627776 ∧ 0 ≤ s5.now ∧ s5.now ≤ 1099511627776 by rw [hs5]; exact ⟨HB.out.2.2.2.2.1, HB.out.2.2.2.2.2, HB.out.2.2.1, HB.out.2.2.2.1⟩)
      have HS5 := hide hs5
      have HLB := hide (show b5.lb = b.lb by rw [hb5])
      obtain ⟨w5, hw5⟩ : ∃ w5, w5 = w4 := ⟨_, rfl⟩
      subst hw5
      clear hs5 hb5 hbig H4
      obtain ⟨lb5, gv5, ov5, gs5⟩ := b5
      obtain rfl : lb5 = b.lb := HLB.out
      have hbx := h5.box 161 #[.int .i64 c.k, .int .i64 c.a, .int .i64 c.t, .int .i64 c.id, .int .i64 c.nm, .string c.tx, .int .i64 c.vk, .int .i64 c.vn, .bool c.had]
      have hbx2 := (h5.drew).skip (.cells #[.int .i64 c.k, .int .i64 c.a, .int .i64 c.t, .int .i64 c.id, .int .i64 c.nm, .string c.tx, .int .i64 c.vk, .int .i64 c.vn, .bool c.had] 161)
      obtain ⟨A5, d5, hv5, _⟩ := h5.slO.form
      have g2 : w5.cell? ⟨b.lb, 2, none⟩ = some (.slice A5 s5.O.length d5) := h5.c2.trans (congrArg some hv5)
      have g3 : (w5.alloc (.cells #[.int .i64 c.k, .int .i64 c.a, .int .i64 c.t, .int .i64 c.id, .int .i64 c.nm, .string c.tx, .int .i64 c.vk, .int .i64 c.vn, .bool c.had] 161)).cell? ⟨b.lb, 2, none⟩ = some (.slice A5 s5.O.length d5) := hbx.c2.trans (congrArg some hv5)
      have kb := h5.own.blk (g := w.heap.size) (t := 161) (cs := #[.int .i64 c.k, .int .i64 c.a, .int .i64 c.t, .int .i64 c.id, .int .i64 c.nm, .string c.tx, .int .i64 c.vk, .int .i64 c.vn, .bool c.had]) (by simp)
      have k0 := kb.cell 0
      have k1 := kb.cell 1
      have k2 := kb.cell 2
      have k3 := kb.cell 3
      have k4 := kb.cell 4
      have k5 := kb.cell 5
      have k6 := kb.cell 6
      have k7 := kb.cell 7
      have k8 := kb.cell 8
      have HSL := hide (show Sl (w5.drew.alloc (.cells #[.int .i64 c.k, .int .i64 c.a, .int .i64 c.t, .int .i64 c.id, .int .i64 c.nm, .string c.tx, .int .i64 c.vk, .int .i64 c.vn, .bool c.had] 161)) 161 9 (.slice A5 s5.O.length d5) s5.O.length (rows Chg.cells s5.O) by rw [← hv5]; exact hbx2.slO)
      have HX := hide hbx2
      have HV5 := hide hv5
      have HB5 := hide hlen5
      clear h5 hbx hbx2 kb hv5 hlen5
      go_upto_region 13 with fail
      go_cut [] (fun wx => ∃ v', LogAt W wx ⟨b.lb, gv5, v', gs5⟩ { s5 with O := s5.O ++ [c] } R)
      case first =>
        go_region_law
          ((refine step_append_sl rfl (.tmp 76) (.tmp 78) 190 rfl 161 i0 _ 9 80 Tryz.underlying190 HI.out HZ.out HZ1.out HZ2.out rfl _ s5.O.length (rows Chg.cells s5.O) rfl HSL.out _ rfl 1 _ (rd_elem w5.drew 161 9 (Chg.cells c) rfl) (chg_one _) (by have := HB5.out; unfold maxLen; omega) (by have := HB5.out; omega) ?_; intro v' w6 hs6 ho6 hv6; rw [← HV5.out] at ho6 hv6; have hadd := HX.out.pushed hs6 ho6 hv6; obtain ⟨A6, d6, rfl, _⟩ := hs6.form; have x2 : w6.cell? ⟨b.lb, 2, none⟩ = some _ := hadd.1.cell 2; have f2 : w6.frozen? ⟨b.lb, 2, none⟩ = false := hadd.1.frozen 2; have HN6 := hide hadd.2; clear hs6 ho6 hv6 hadd))
        all_goals (go_wp2_with fail; go_meet; exact ⟨_, HN6.out.drop⟩)
      case rest =>
        obtain ⟨v', hN⟩ := hcut
        have n4 : wc.cell? ⟨b.lb, 4, none⟩ = some (.int .i64 s5.cost) := hN.c4
        have n5 : wc.cell? ⟨b.lb, 5, none⟩ = some (.int .i64 s5.now) := hN.c5
        have f4 : wc.frozen? ⟨b.lb, 4, none⟩ = false := hN.blk.frozen 4
        have f5 : wc.frozen? ⟨b.lb, 5, none⟩ = false := hN.blk.frozen 5
        have hN2 := (hN.setCell (i := 4) (u := .int .i64 (s5.cost + c.price)) (s' := { s5 with O := s5.O ++ [c], cost := s5.cost + c.price }) rfl rfl rfl).setCell (i := 5) (u := .int .i64 (s5.now + c.price)) (s' := s5.push c) rfl rfl rfl
        have HN2 := hide hN2
        obtain ⟨m1, m2, m3, m4⟩ := HM5.out
        clear hN hN2 HX HSL
        go_wp2_with fail
        go_region
        go_wp2
        go_ret
        refine ⟨by rw [HCC.out]; rfl, ⟨b.lb, gv5, v', gs5⟩, rfl, ?_⟩
        rw [HA2.out, ← HS5.out]
        exact HN2.out.below ⟨rfl, rfl, rfl, Nat.le_refl _, fun _ _ => rfl⟩
end
end Go.Proofs.YtnbhejbpofjamaaGreatDoor
