/- The walk of the reference's Add where a change joins the open group. No condition but those written. -/
import Derived.Test.YtghcmakhfdnimaaDoorRefF
import Derived.Test.YtghcmakhfdnimaaDoorDraw
import Derived.Deep.RegionHeld3
namespace Go.Proofs.YtghcmakhfdnimaaDoor
open Go.RowKit
section
variable {W w w' : World} {b : Lb} {s : Lg} {R : Heap}
/-- The log between the append and its stores. -/
structure RefMid (W w : World) (b : Lb) (v : Value) (s : Lg) (c : Chg) (R : Heap) : Prop where
  own : Own W w (chgRow v (s.O ++ [c]) ++ ((b.lb, .cells 90 (refCells b s)) :: (rowOf 40 1 b.gv b.gs.length (b.gs.map (·.1)) ++ (grpHeap b.gs ++ R))))
  ok : LbOk b s
  okv : RowOk v (s.O.length + 1)
theorem RefMid.below {v : Value} {c : Chg} (h : RefMid W w b v s c R) (hb : Below w.heap.size w w') : RefMid W w' b v s c R := ⟨h.own.below hb, h.ok, h.okv⟩
theorem RefAt.mid {v' : Value} {c : Chg} (h : RefAt W w b s R) (hs : Sl w' 51 9 v' (s.O.length + 1) (rows Chg.cells s.O ++ c.cells)) (ho : Only (fun g => b.ov.ownBlock = some g) w w') (hv : v'.ownBlock = b.ov.ownBlock ∨ v'.ownBlock = some w.heap.size) : RefMid W w' b v' s c R := by
  have e : rows Chg.cells s.O ++ c.cells = rows Chg.cells (s.O ++ [c]) := by rw [rows_append, rows_one]
  have el : (s.O ++ [c]).length = s.O.length + 1 := by simp
  have hok := hs.rowOk
  rw [e] at hs
  have h1 := h.toO
  unfold chgRow at h1
  have h2 := h1.appended hs ho hv
  exact ⟨by unfold chgRow; rw [el]; exact h2, h.ok, hok⟩
theorem RefMid.done {v : Value} {c : Chg} (h : RefMid W w b v s c R) (p : Int) : RefAt W ((w.setCell ⟨b.lb, 1, none⟩ v).setCell ⟨b.lb, 5, none⟩ (.int .i64 (s.now + p))) { b with ov := v } { s with O := s.O ++ [c], cost := s.cost + p, now := s.now + p } R := by
  have h3 : Own W w (((b.lb, .cells 90 (refCells b s)) :: (rowOf 40 1 b.gv b.gs.length (b.gs.map (·.1)) ++ (grpHeap b.gs ++ R))) ++ chgRow v (s.O ++ [c])) := h.own.perm List.perm_append_comm
  have h4 := (h3.setCell 1 v).setCell 5 (.int .i64 (s.now + p))
  refine RefAt.ofO (O := s.O ++ [c]) (cs := ((refCells b s).setIfInBounds 1 v).setIfInBounds 5 (.int .i64 (s.now + p))) ?_ h.ok.grp h.ok.okG ?_ h.ok.okg rfl ?_
  · exact (show Own W _ (((b.lb, .cells 90 (((refCells b s).setIfInBounds 1 v).setIfInBounds 5 (.int .i64 (s.now + p)))) :: (rowOf 40 1 b.gv b.gs.length (b.gs.map (·.1)) ++ (grpHeap b.gs ++ R))) ++ chgRow v (s.O ++ [c])) from h4).perm List.perm_append_comm
  · show RowOk v (s.O ++ [c]).length
    rw [show (s.O ++ [c]).length = s.O.length + 1 by simp]
    exact h.okv
  · simp only [refCells]
    rw [show s.cost + p - (s.now + p) = s.cost - s.now by omega]
    rfl
/-- What the loads of the last statement read. -/
def AddS (lb gw : Nat) (ov : Value) (now : Int) (c : Chg) (w' : World) : Prop :=
  w'.cell? ⟨lb, 1, none⟩ = some ov ∧ w'.cell? ⟨lb, 5, none⟩ = some (.int .i64 now) ∧ w'.cell? ⟨gw, 0, none⟩ = some (.int .i64 c.k) ∧ w'.cell? ⟨gw, 1, none⟩ = some (.int .i64 c.a) ∧ w'.cell? ⟨gw, 2, none⟩ = some (.int .i64 c.t) ∧ w'.cell? ⟨gw, 3, none⟩ = some (.int .i64 c.id) ∧ w'.cell? ⟨gw, 4, none⟩ = some (.int .i64 c.nm) ∧ w'.cell? ⟨gw, 5, none⟩ = some (.string c.tx) ∧ w'.cell? ⟨gw, 6, none⟩ = some (.int .i64 c.vk) ∧ w'.cell? ⟨gw, 7, none⟩ = some (.int .i64 c.vn) ∧ w'.cell? ⟨gw, 8, none⟩ = some (.bool c.had)
abbrev chgBox (g : Nat) (c : Chg) : Nat × Ast := (g, .cells 51 #[.int .i64 c.k, .int .i64 c.a, .int .i64 c.t, .int .i64 c.id, .int .i64 c.nm, .string c.tx, .int .i64 c.vk, .int .i64 c.vn, .bool c.had])
theorem addS_of {gw : Nat} {c : Chg} {L : Heap} (h : Own W w L) (h1 : (b.lb, Ast.cells 90 (refCells b s)) ∈ L) (h2 : chgBox gw c ∈ L) : AddS b.lb gw b.ov s.now c w := by
  have k := h.blk h1
  have q := h.blk h2
  exact ⟨k.cell 1, k.cell 5, q.cell 0, q.cell 1, q.cell 2, q.cell 3, q.cell 4, q.cell 5, q.cell 6, q.cell 7, q.cell 8⟩
theorem RefAt.addS {gw : Nat} {c : Chg} (h : RefAt W w b s (chgBox gw c :: R)) : AddS b.lb gw b.ov s.now c w := addS_of h.own (by simp [Lb.rheap]) (by simp)
theorem RefMid.addS {gw : Nat} {v : Value} {c d : Chg} (h : RefMid W w b v s c (chgBox gw d :: R)) : AddS b.lb gw b.ov s.now d w := addS_of h.own (by simp) (by simp)
set_option maxRecDepth 100000 in
set_option maxHeartbeats 4000000 in
theorem radd_push (h : RefAt W w b s R) (c : Chg) (hs : c.tx.size ≤ 1099511627776) (hl : s.O.length ≤ 1000000) (hc : c.check = 0) (hj : s.joins c = false) (hn : 0 ≤ s.now ∧ s.now ≤ s.cost ∧ s.cost ≤ 1099511627776) : Calls Tryd.prog 52 #[.pointer (some ⟨b.lb, 0, none⟩), c.val] w (RAddRes W b s R c) := by
  have HA := hide (show s.add c = (if 1048576 < s.now + c.price then s.clear else s).push c by rw [add_eq hc]; unfold Lg.add0; rw [if_neg (by rw [hj]; simp)])
  have H1 := hide (h.box 51 #[.int .i64 c.k, .int .i64 c.a, .int .i64 c.t, .int .i64 c.id, .int .i64 c.nm, .string c.tx, .int .i64 c.vk, .int .i64 c.vn, .bool c.had])
  have HC := hide (rcheck_any c (w.alloc (.cells #[.int .i64 c.k, .int .i64 c.a, .int .i64 c.t, .int .i64 c.id, .int .i64 c.nm, .string c.tx, .int .i64 c.vk, .int .i64 c.vn, .bool c.had] 51)) hs)
  rw [hc] at HC
  have HCC := hide hc
  have HJ := hide (joins_no hj)
  have HS := hide hs
  have HL := hide hl
  have HN := hide hn
  clear h hc hj hs hl hn
  go_enter Tryd.func52, Tryd.ntmps52
  go_wp2_with fail
  refine (Calls.mono HC.out) ?_
  rintro e w2 ⟨rfl, hb⟩
  obtain ⟨gw, hgw⟩ : ∃ gw, gw = w.heap.size := ⟨_, rfl⟩
  have H2 := hide (show RefAt W w2 b s (chgBox gw c :: R) by rw [hgw]; exact H1.out.below hb)
  rw [← hgw]
  clear hb hgw HC H1
  obtain ⟨A1, d1, hv1, _⟩ := H2.out.slO.form
  obtain ⟨nO, hnO⟩ : ∃ nO, nO = s.O.length := ⟨_, rfl⟩
  have HNO := hide hnO
  have c1 := H2.out.c1
  rw [hv1, ← hnO] at c1
  have hnb : nO ≤ 1000000 := by rw [hnO]; exact HL.out
  clear hv1 hnO
  go_upto_region 5 with fail
  go_cut [49] (fun v wx => v = .bool false ∧ ∃ q, wx = w2.drewN q)
  case first =>
    rcases HJ.out with hO | ⟨n, x, hnl, hx, hcase⟩
    · obtain rfl : nO = 0 := by rw [HNO.out, hO]; rfl
      clear hO
      go_wp2_with fail
      go_quiet (fail)
      go_wp2_with fail
      go_meet
      exact ⟨rfl, _, rfl⟩
    · obtain rfl : nO = n + 1 := by rw [HNO.out, hnl]
      clear c1
      obtain ⟨g, off, cp, hv, hcp, hcm, hgl, hfz, hat⟩ := H2.out.slO.atC (by omega)
      obtain ⟨p0, p1, p2, p3, p4, p5, p6, p7, p8⟩ := hat n x hx
      have c1 := H2.out.c1
      rw [hv, hnl] at c1
      have hi3 : (0 : Int) ≤ (n : Int) := by omega
      have hi4 : (n : Int) < (n : Int) + 1 := by omega
      have hw : IntKind.i64.wrap ((n : Int) + 1 - 1) = (n : Int) := by rw [Int.add_sub_cancel]; exact IntWalk.i64_in _ (by omega)
      obtain ⟨-, -, k0, k1, -⟩ := H2.out.addS
      clear hat hfz hx p1 p3 p4 p5 p6 p7 p8 hv hgl hcp hcm hnl
      rcases hcase with e1 | ⟨e1, e2⟩ | ⟨e1, e2, e3⟩
      · have hz1 : (c.k == 1) = false := by simpa using e1
        clear e1
        go_wp2_with fail
        go_quiet (fail)
        go_wp2_with fail
        go_meet
        exact ⟨rfl, _, rfl⟩
      · have hz1 : (c.k == 1) = true := by simpa using e1
        have hz2 : (x.k == 1) = false := by simpa using e2
        clear e1 e2
        go_wp2_with fail
        go_quiet (fail)
        go_wp2_with fail
        go_meet
        exact ⟨rfl, _, rfl⟩
      · have hz1 : (c.k == 1) = true := by simpa using e1
        have hz2 : (x.k == 1) = true := by simpa using e2
        have hz3 : (x.t == c.a) = false := by simpa using e3
        clear e1 e2 e3
        go_wp2_with fail
        go_quiet (fail)
        go_wp2_with fail
        go_meet
        exact ⟨rfl, _, rfl⟩
  case rest =>
    obtain ⟨rfl, q, rfl⟩ := hcut
    have H3 := hide (H2.out.drewN q)
    clear c1 HJ H2 hnb HNO
    generalize w2.drewN q = w3 at *
    have hno := HN.out.1
    have hno2 : s.now ≤ 1099511627776 := by have := HN.out; omega
    have hpz : (0 : Int) ≤ (c.price : Int) := by omega
    have hpz1 : (c.price : Int) ≤ 140737488355329 := by have := price_le c; have := HS.out; omega
    have HW1 := hide (show IntKind.i64.wrap (s.now + (c.price : Int)) = s.now + (c.price : Int) from IntWalk.i64_in _ (by omega))
    obtain ⟨pr, hpr⟩ : ∃ pr : Int, pr = (c.price : Int) := ⟨_, rfl⟩
    have HPR := hide (fun w => by have := rprice_any c w HS.out; rwa [← hpr] at this : ∀ w, Calls Tryd.prog 61 #[c.val] w fun e w' => e = .returned (.int .i64 pr) ∧ Below w.heap.size w w')
    rw [← hpr] at HW1 HA hpz hpz1
    have HP := hide hpr
    obtain ⟨qb, hqb⟩ : ∃ qb, qb = decide (1048576 < s.now + pr) := ⟨_, rfl⟩
    have HQB := hide hqb
    have hw1 := HW1.out
    have HK := hide (show ∀ wx, RefAt W wx b s (chgBox gw c :: R) → AddS b.lb gw b.ov s.now c wx from fun wx h => h.addS)
    clear hpr hqb
    unfold AddS at HK
    go_upto_region 8 with fail
    go_cut [67] (fun v wx => v = .bool qb ∧ RefAt W wx b s (chgBox gw c :: R))
    case first =>
      go_region_held3 (fun w' => w'.cell? ⟨b.lb, 1, none⟩ = some b.ov ∧ w'.cell? ⟨b.lb, 5, none⟩ = some (.int .i64 s.now) ∧ w'.cell? ⟨gw, 0, none⟩ = some (.int .i64 c.k) ∧ w'.cell? ⟨gw, 1, none⟩ = some (.int .i64 c.a) ∧ w'.cell? ⟨gw, 2, none⟩ = some (.int .i64 c.t) ∧ w'.cell? ⟨gw, 3, none⟩ = some (.int .i64 c.id) ∧ w'.cell? ⟨gw, 4, none⟩ = some (.int .i64 c.nm) ∧ w'.cell? ⟨gw, 5, none⟩ = some (.string c.tx) ∧ w'.cell? ⟨gw, 6, none⟩ = some (.int .i64 c.vk) ∧ w'.cell? ⟨gw, 7, none⟩ = some (.int .i64 c.vn) ∧ w'.cell? ⟨gw, 8, none⟩ = some (.bool c.had))
        (first | exact HK.out _ H3.out.drew | exact HK.out _ H4.out)
        ((go_at_call 61; refine (Calls.mono (HPR.out _)) ?_; rintro e w4 ⟨rfl, hb⟩; have H4 := hide (H3.out.drew.below hb); clear hb))
      all_goals (go_wp2_with fail; go_meet; exact ⟨by rw [HQB.out], H4.out⟩)
    case rest =>
      obtain ⟨rfl, h4⟩ := hcut
      have H4 := hide h4
      clear h4 H3 HK
      go_upto_if 67 with fail
      go_cut [] (fun wx => ∃ b5 s5, b5.lb = b.lb ∧ RefAt W wx b5 s5 (chgBox gw c :: R) ∧ s.add c = s5.push c ∧ s5.O.length ≤ 1000000 ∧ 0 ≤ s5.now ∧ s5.now ≤ s5.cost ∧ s5.cost ≤ 1099511627776)
      case first =>
        cases qb with
        | true =>
          have hbig : 1048576 < s.now + pr := by simpa using HQB.out.symm
          have HE := hide (show s.add c = s.clear.push c by rw [HA.out, if_pos hbig])
          have HCL := hide (rclear_any H4.out)
          clear hbig
          go_wp2_with fail
          refine (Calls.mono HCL.out) ?_
          rintro e w5 ⟨rfl, h5⟩
          have H5 := hide h5
          clear h5
          go_wp2_with fail
          go_meet
          exact ⟨b.cleared, s.clear, rfl, H5.out, HE.out, Nat.zero_le _, Int.le_refl _, Int.le_refl _, by show (0 : Int) ≤ _; omega⟩
        | false =>
          have hbig : ¬ 1048576 < s.now + pr := by simpa using HQB.out.symm
          have HE := hide (show s.add c = s.push c by rw [HA.out, if_neg hbig])
          clear hbig
          go_wp2_with fail
          go_meet
          exact ⟨b, s, rfl, H4.out, HE.out, HL.out, HN.out.1, HN.out.2.1, HN.out.2.2⟩
      case rest =>
        obtain ⟨⟨lb5, gv5, ov5, gs5⟩, s5, hlb, h5, hadd, hO5, hn1, hn2, hn3⟩ := hcut
        obtain rfl : lb5 = b.lb := hlb
        obtain ⟨A5, d5, hv5, _⟩ := h5.slO.form
        obtain rfl : ov5 = .slice A5 s5.O.length d5 := hv5
        have HADD := hide hadd
        have HB := hide hO5
        have H5 := hide h5
        have hw5 : IntKind.i64.wrap (s5.now + pr) = s5.now + pr := IntWalk.i64_in _ (by omega)
        obtain ⟨i0, hi, hz0, hz1, hz2⟩ := info_parts info_chg
        have HI := hide hi
        have HZ := hide hz0
        have HZ1 := hide hz1
        have HZ2 := hide hz2
        have hS : AddS b.lb gw (.slice A5 s5.O.length d5) s5.now c wc.drew := h5.drew.addS
        have HSL := hide (show Sl (wc.drew.alloc (.cells #[.int .i64 c.k, .int .i64 c.a, .int .i64 c.t, .int .i64 c.id, .int .i64 c.nm, .string c.tx, .int .i64 c.vk, .int .i64 c.vn, .bool c.had] 51)) 51 9 (.slice A5 s5.O.length d5) s5.O.length (rows Chg.cells s5.O) from (h5.drew.skip _).slO)
        have HX := hide (h5.drew.skip (.cells #[.int .i64 c.k, .int .i64 c.a, .int .i64 c.t, .int .i64 c.id, .int .i64 c.nm, .string c.tx, .int .i64 c.vk, .int .i64 c.vn, .bool c.had] 51))
        clear h5 hadd hO5 hi hz0 hz1 hz2 H4 HL HN HA hw1 HW1 hno hno2 hn1 hn2 hn3
        go_upto_region 10 with fail
        refine wp_region_d (S := AddS b.lb gw (.slice A5 s5.O.length d5) s5.now c) (D := [18, 19, 20, 21]) (by kernel_rfl) ?_
        change wpAnyD _ _ _ _ _ _ _ _ _ (World.drew _)
        refine wpAnyD_takeW (i := 0) (oi := { dst := some 70, op := Op.move (Operand.tmp 0), type := 63, pos := "ref.go:70", after := #[], guard := none }) (v := ?_) rfl (by kernel_rfl) (by kernel_rfl) (by kernel_rfl) (fun _ _ _ h => h) (Or.inl ⟨by rfl, ?_⟩) ?_
        rotate_left
        · intro w hSw
          clear hSw
          go_simp
          all_goals with_reducible rfl
        simp only [Act.put, List.setIfInBounds_toArray, List.set_cons_zero, List.set_cons_succ]
        refine wpAnyD_takeW (i := 1) (oi := { dst := some 71, op := Op.move (Operand.tmp 0), type := 63, pos := "ref.go:70", after := #[{ on := 18, ground := Ground.gcOnly Departure.lateStores }], guard := none }) (v := ?_) rfl (by kernel_rfl) (by kernel_rfl) (by kernel_rfl) (fun _ _ _ h => h) (Or.inl ⟨by rfl, ?_⟩) ?_
        rotate_left
        · intro w hSw
          clear hSw
          go_simp
          all_goals with_reducible rfl
        simp only [Act.put, List.setIfInBounds_toArray, List.set_cons_zero, List.set_cons_succ]
        refine wpAnyD_takeW (i := 2) (oi := { dst := some 72, op := Op.move (Operand.tmp 0), type := 63, pos := "ref.go:70", after := #[], guard := none }) (v := ?_) rfl (by kernel_rfl) (by kernel_rfl) (by kernel_rfl) (fun _ _ _ h => h) (Or.inl ⟨by rfl, ?_⟩) ?_
        rotate_left
        · intro w hSw
          clear hSw
          go_simp
          all_goals with_reducible rfl
        simp only [Act.put, List.setIfInBounds_toArray, List.set_cons_zero, List.set_cons_succ]
        refine wpAnyD_takeW (i := 3) (oi := { dst := some 73, op := Op.nilCheck (Operand.tmp 72), type := 0, pos := "ref.go:70", after := #[{ on := 2, ground := Ground.data }], guard := none }) (v := ?_) rfl (by kernel_rfl) (by kernel_rfl) (by kernel_rfl) (fun _ _ _ h => h) (Or.inl ⟨by rfl, ?_⟩) ?_
        rotate_left
        · intro w hSw
          clear hSw
          go_simp
          all_goals with_reducible rfl
        simp only [Act.put, List.setIfInBounds_toArray, List.set_cons_zero, List.set_cons_succ]
        refine wpAnyD_takeW (i := 4) (oi := { dst := some 74, op := Op.fieldAddr 90 (Operand.tmp 73) 1, type := 0, pos := "ref.go:70", after := #[{ on := 3, ground := Ground.data }], guard := none }) (v := ?_) rfl (by kernel_rfl) (by kernel_rfl) (by kernel_rfl) (fun _ _ _ h => h) (Or.inl ⟨by rfl, ?_⟩) ?_
        rotate_left
        · intro w hSw
          clear hSw
          go_simp
          all_goals with_reducible rfl
        simp only [Act.put, List.setIfInBounds_toArray, List.set_cons_zero, List.set_cons_succ]
        refine wpAnyD_take (i := 5) (oi := { dst := some 75, op := Op.load 40 (Operand.tmp 74), type := 40, pos := "ref.go:70", after := #[{ on := 4, ground := Ground.data }], guard := none }) (v := ?_) rfl (by kernel_rfl) (by kernel_rfl) (by kernel_rfl) (by kernel_rfl) (by kernel_rfl) (fun _ _ _ h => h) (Or.inl ⟨by rfl, ?_⟩) hS ?_
        rotate_left
        · intro w hSw
          unfold AddS at hSw
          go_split_ands
          go_simp
          all_goals with_reducible rfl
        simp only [Act.put, List.setIfInBounds_toArray, List.set_cons_zero, List.set_cons_succ]
        refine wpAnyD_take (i := 6) (oi := { dst := some 76, op := Op.load 51 (Operand.tmp 3), type := 51, pos := "ref.go:70", after := #[], guard := none }) (v := ?_) rfl (by kernel_rfl) (by kernel_rfl) (by kernel_rfl) (by kernel_rfl) (by kernel_rfl) (fun _ _ _ h => h) (Or.inl ⟨by rfl, ?_⟩) hS ?_
        rotate_left
        · intro w hSw
          unfold AddS at hSw
          go_split_ands
          go_simp
          all_goals with_reducible rfl
        simp only [Act.put, List.setIfInBounds_toArray, List.set_cons_zero, List.set_cons_succ]
        refine wpAnyD_takeW (i := 9) (oi := { dst := some 79, op := Op.move (Operand.tmp 0), type := 63, pos := "ref.go:70", after := #[], guard := none }) (v := ?_) rfl (by kernel_rfl) (by kernel_rfl) (by kernel_rfl) (fun _ _ _ h => h) (Or.inl ⟨by rfl, ?_⟩) ?_
        rotate_left
        · intro w hSw
          clear hSw
          go_simp
          all_goals with_reducible rfl
        simp only [Act.put, List.setIfInBounds_toArray, List.set_cons_zero, List.set_cons_succ]
        refine wpAnyD_takeW (i := 10) (oi := { dst := some 80, op := Op.nilCheck (Operand.tmp 79), type := 0, pos := "ref.go:70", after := #[{ on := 9, ground := Ground.data }], guard := none }) (v := ?_) rfl (by kernel_rfl) (by kernel_rfl) (by kernel_rfl) (fun _ _ _ h => h) (Or.inl ⟨by rfl, ?_⟩) ?_
        rotate_left
        · intro w hSw
          clear hSw
          go_simp
          all_goals with_reducible rfl
        simp only [Act.put, List.setIfInBounds_toArray, List.set_cons_zero, List.set_cons_succ]
        refine wpAnyD_takeW (i := 11) (oi := { dst := some 81, op := Op.fieldAddr 90 (Operand.tmp 80) 5, type := 0, pos := "ref.go:70", after := #[{ on := 10, ground := Ground.data }], guard := none }) (v := ?_) rfl (by kernel_rfl) (by kernel_rfl) (by kernel_rfl) (fun _ _ _ h => h) (Or.inl ⟨by rfl, ?_⟩) ?_
        rotate_left
        · intro w hSw
          clear hSw
          go_simp
          all_goals with_reducible rfl
        simp only [Act.put, List.setIfInBounds_toArray, List.set_cons_zero, List.set_cons_succ]
        refine wpAnyD_take (i := 12) (oi := { dst := some 82, op := Op.load 3 (Operand.tmp 81), type := 3, pos := "ref.go:70", after := #[{ on := 11, ground := Ground.data }], guard := none }) (v := ?_) rfl (by kernel_rfl) (by kernel_rfl) (by kernel_rfl) (by kernel_rfl) (by kernel_rfl) (fun _ _ _ h => h) (Or.inl ⟨by rfl, ?_⟩) hS ?_
        rotate_left
        · intro w hSw
          unfold AddS at hSw
          go_split_ands
          go_simp
          all_goals with_reducible rfl
        simp only [Act.put, List.setIfInBounds_toArray, List.set_cons_zero, List.set_cons_succ]
        refine wpAnyD_take (i := 13) (oi := { dst := some 83, op := Op.load 51 (Operand.tmp 3), type := 51, pos := "ref.go:70", after := #[], guard := none }) (v := ?_) rfl (by kernel_rfl) (by kernel_rfl) (by kernel_rfl) (by kernel_rfl) (by kernel_rfl) (fun _ _ _ h => h) (Or.inl ⟨by rfl, ?_⟩) hS ?_
        rotate_left
        · intro w hSw
          unfold AddS at hSw
          go_split_ands
          go_simp
          all_goals with_reducible rfl
        simp only [Act.put, List.setIfInBounds_toArray, List.set_cons_zero, List.set_cons_succ]
        refine wpAnyD_one (i := 7) (o := { dst := some 77, op := Op.buildSlice 40 1 #[(0, Operand.tmp 76)], type := 40, pos := "ref.go:70", after := #[{ on := 6, ground := Ground.data }], guard := none }) (by kernel_rfl) rfl (fun K hK => ?_)
        obtain ⟨q0, q1, q2, q3, q4, q5, q6, q7, q8, q9, q10⟩ := hS
        go_simp
        refine hK _ _ (fun _ _ => HX.out.addS) ?_
        clear hK K q0 q1 q2 q3 q4 q5 q6 q7 q8 q9 q10
        have hS := HX.out.addS
        refine wpAnyD_one (i := 8) (o := { dst := some 78, op := Op.call { callee := Callee.builtin Builtin.append, args := #[Operand.tmp 75, Operand.tmp 77], argTypes := #[40, 40] }, type := 40, pos := "ref.go:70", after := #[{ on := 5, ground := Ground.data }, { on := 7, ground := Ground.data }], guard := none }) (by kernel_rfl) rfl (fun K hK => ?_)
        refine step_append_sl rfl (.tmp 75) (.tmp 77) 40 rfl 51 i0 _ 9 80 Tryd.underlying40 HI.out HZ.out HZ1.out HZ2.out rfl _ s5.O.length (rows Chg.cells s5.O) rfl HSL.out _ rfl 1 _ (rd_elem wc.drew 51 9 (Chg.cells c) rfl) (chg_one _) (by have := HB.out; unfold maxLen; omega) (by have := HB.out; omega) ?_
        intro v' w6 hs6 ho6 hv6
        obtain ⟨A6, d6, rfl, _⟩ := id hs6.form
        have hm := HX.out.mid (b := ⟨b.lb, gv5, .slice A5 s5.O.length d5, gs5⟩) hs6 ho6 hv6
        have HM := hide hm
        refine hK _ _ (fun _ _ => hm.addS) ?_
        clear hK K hS hs6 ho6 hv6
        have hS : AddS b.lb gw (.slice A5 s5.O.length d5) s5.now c w6 := hm.addS
        clear hm HSL HX
        simp only [Act.put, List.setIfInBounds_toArray, List.set_cons_zero, List.set_cons_succ]
        refine wpAnyD_one (i := 14) (o := { dst := some 84, op := Op.call { callee := Callee.value (Operand.func 61), args := #[Operand.tmp 83], argTypes := #[51] }, type := 3, pos := "ref.go:70", after := #[{ on := 13, ground := Ground.data }, { on := 8, ground := Ground.chain }], guard := none }) (by kernel_rfl) rfl (fun K hK => ?_)
        go_simp
        refine (Calls.mono (HPR.out _)) ?_
        rintro e w7 ⟨rfl, hb⟩
        have hm := HM.out.below hb
        have HM7 := hide hm
        clear hb HM
        go_wp2_with fail
        refine hK _ _ (fun _ _ => hm.addS) ?_
        clear hK K hS
        have hS : AddS b.lb gw (.slice A5 s5.O.length d5) s5.now c w7 := hm.addS
        clear hm
        refine wpAnyD_takeW (i := 15) (oi := { dst := some 85, op := Op.binOp BinOp.add 3 (Operand.tmp 82) (Operand.tmp 84) 3, type := 3, pos := "ref.go:70", after := #[{ on := 12, ground := Ground.data }, { on := 14, ground := Ground.data }], guard := none }) (v := ?_) rfl (by kernel_rfl) (by kernel_rfl) (by kernel_rfl) (fun _ _ _ h => h) (Or.inl ⟨by rfl, ?_⟩) ?_
        rotate_left
        · intro w hSw
          clear hSw
          go_simp
          all_goals with_reducible rfl
        simp only [Act.put, List.setIfInBounds_toArray, List.set_cons_zero, List.set_cons_succ]
        refine wpAnyD_takeW (i := 16) (oi := { dst := some 86, op := Op.nilCheck (Operand.tmp 70), type := 0, pos := "ref.go:70", after := #[{ on := 0, ground := Ground.data }, { on := 0, ground := Ground.phase }, { on := 1, ground := Ground.textOnly Departure.lateStores }, { on := 2, ground := Ground.phase }, { on := 3, ground := Ground.phase }, { on := 4, ground := Ground.phase }, { on := 5, ground := Ground.phase }, { on := 6, ground := Ground.phase }, { on := 7, ground := Ground.phase }, { on := 8, ground := Ground.phase }, { on := 9, ground := Ground.textOnly Departure.lateStores }, { on := 10, ground := Ground.textOnly Departure.lateStoresUnsure }, { on := 11, ground := Ground.textOnly Departure.lateStoresUnsure }, { on := 12, ground := Ground.phase }, { on := 13, ground := Ground.textOnly Departure.lateStores }, { on := 14, ground := Ground.phase }, { on := 15, ground := Ground.textOnly Departure.lateStoresUnsure }], guard := none }) (v := ?_) rfl (by kernel_rfl) (by kernel_rfl) (by kernel_rfl) (fun _ _ _ h => h) (Or.inl ⟨by rfl, ?_⟩) ?_
        rotate_left
        · intro w hSw
          clear hSw
          go_simp
          all_goals with_reducible rfl
        simp only [Act.put, List.setIfInBounds_toArray, List.set_cons_zero, List.set_cons_succ]
        refine wpAnyD_takeW (i := 17) (oi := { dst := some 87, op := Op.fieldAddr 90 (Operand.tmp 86) 1, type := 0, pos := "ref.go:70", after := #[{ on := 16, ground := Ground.data }, { on := 0, ground := Ground.phase }, { on := 1, ground := Ground.textOnly Departure.lateStores }, { on := 2, ground := Ground.phase }, { on := 3, ground := Ground.phase }, { on := 4, ground := Ground.phase }, { on := 5, ground := Ground.phase }, { on := 6, ground := Ground.phase }, { on := 7, ground := Ground.phase }, { on := 8, ground := Ground.phase }, { on := 9, ground := Ground.textOnly Departure.lateStores }, { on := 10, ground := Ground.textOnly Departure.lateStoresUnsure }, { on := 11, ground := Ground.textOnly Departure.lateStoresUnsure }, { on := 12, ground := Ground.phase }, { on := 13, ground := Ground.textOnly Departure.lateStores }, { on := 14, ground := Ground.phase }, { on := 15, ground := Ground.textOnly Departure.lateStoresUnsure }], guard := none }) (v := ?_) rfl (by kernel_rfl) (by kernel_rfl) (by kernel_rfl) (fun _ _ _ h => h) (Or.inl ⟨by rfl, ?_⟩) ?_
        rotate_left
        · intro w hSw
          clear hSw
          go_simp
          all_goals with_reducible rfl
        simp only [Act.put, List.setIfInBounds_toArray, List.set_cons_zero, List.set_cons_succ]
        refine wpAnyD_one (i := 18) (o := { dst := none, op := Op.store 40 (Operand.tmp 87) (Operand.tmp 78), type := 0, pos := "ref.go:70", after := #[{ on := 17, ground := Ground.data }, { on := 8, ground := Ground.data }, { on := 14, ground := Ground.chain }, { on := 0, ground := Ground.phase }, { on := 1, ground := Ground.textOnly Departure.lateStores }, { on := 2, ground := Ground.phase }, { on := 3, ground := Ground.phase }, { on := 4, ground := Ground.phase }, { on := 5, ground := Ground.phase }, { on := 6, ground := Ground.phase }, { on := 7, ground := Ground.phase }, { on := 8, ground := Ground.phase }, { on := 9, ground := Ground.textOnly Departure.lateStores }, { on := 10, ground := Ground.textOnly Departure.lateStoresUnsure }, { on := 11, ground := Ground.textOnly Departure.lateStoresUnsure }, { on := 12, ground := Ground.phase }, { on := 13, ground := Ground.textOnly Departure.lateStores }, { on := 14, ground := Ground.phase }, { on := 15, ground := Ground.textOnly Departure.lateStoresUnsure }], guard := none }) (by kernel_rfl) rfl (fun K hK => ?_)
        obtain ⟨q0, q1, -⟩ := hS
        have kb : Blk w7 b.lb 90 (refCells ⟨b.lb, gv5, .slice A5 s5.O.length d5, gs5⟩ s5) := HM7.out.own.blk (by simp)
        have f1 := kb.frozen 1
        have f5 := kb.frozen 5
        clear kb
        go_simp
        refine hK _ _ (fun h _ => absurd h (by decide)) ?_
        clear hK K
        refine wpAnyD_takeW (i := 19) (oi := { dst := some 88, op := Op.nilCheck (Operand.tmp 71), type := 0, pos := "ref.go:70", after := #[{ on := 1, ground := Ground.data }, { on := 0, ground := Ground.phase }, { on := 1, ground := Ground.phase }, { on := 2, ground := Ground.phase }, { on := 3, ground := Ground.phase }, { on := 4, ground := Ground.phase }, { on := 5, ground := Ground.phase }, { on := 6, ground := Ground.phase }, { on := 7, ground := Ground.phase }, { on := 8, ground := Ground.phase }, { on := 9, ground := Ground.phase }, { on := 10, ground := Ground.phase }, { on := 11, ground := Ground.phase }, { on := 12, ground := Ground.phase }, { on := 13, ground := Ground.phase }, { on := 14, ground := Ground.phase }, { on := 15, ground := Ground.phase }, { on := 16, ground := Ground.phase }, { on := 17, ground := Ground.phase }, { on := 18, ground := Ground.phase }], guard := none }) (v := ?_) rfl (by kernel_rfl) (by kernel_rfl) (by kernel_rfl) (fun _ _ _ h => h) (Or.inl ⟨by rfl, ?_⟩) ?_
        rotate_left
        · intro w hSw
          clear hSw
          go_simp
          all_goals with_reducible rfl
        simp only [Act.put, List.setIfInBounds_toArray, List.set_cons_zero, List.set_cons_succ]
        refine wpAnyD_takeW (i := 20) (oi := { dst := some 89, op := Op.fieldAddr 90 (Operand.tmp 88) 5, type := 0, pos := "ref.go:70", after := #[{ on := 19, ground := Ground.data }, { on := 0, ground := Ground.phase }, { on := 1, ground := Ground.phase }, { on := 2, ground := Ground.phase }, { on := 3, ground := Ground.phase }, { on := 4, ground := Ground.phase }, { on := 5, ground := Ground.phase }, { on := 6, ground := Ground.phase }, { on := 7, ground := Ground.phase }, { on := 8, ground := Ground.phase }, { on := 9, ground := Ground.phase }, { on := 10, ground := Ground.phase }, { on := 11, ground := Ground.phase }, { on := 12, ground := Ground.phase }, { on := 13, ground := Ground.phase }, { on := 14, ground := Ground.phase }, { on := 15, ground := Ground.phase }, { on := 16, ground := Ground.phase }, { on := 17, ground := Ground.phase }, { on := 18, ground := Ground.phase }], guard := none }) (v := ?_) rfl (by kernel_rfl) (by kernel_rfl) (by kernel_rfl) (fun _ _ _ h => h) (Or.inl ⟨by rfl, ?_⟩) ?_
        rotate_left
        · intro w hSw
          clear hSw
          go_simp
          all_goals with_reducible rfl
        simp only [Act.put, List.setIfInBounds_toArray, List.set_cons_zero, List.set_cons_succ]
        refine wpAnyD_one (i := 21) (o := { dst := none, op := Op.store 3 (Operand.tmp 89) (Operand.tmp 85), type := 0, pos := "ref.go:70", after := #[{ on := 20, ground := Ground.data }, { on := 15, ground := Ground.data }, { on := 18, ground := Ground.chain }, { on := 0, ground := Ground.phase }, { on := 1, ground := Ground.phase }, { on := 2, ground := Ground.phase }, { on := 3, ground := Ground.phase }, { on := 4, ground := Ground.phase }, { on := 5, ground := Ground.phase }, { on := 6, ground := Ground.phase }, { on := 7, ground := Ground.phase }, { on := 8, ground := Ground.phase }, { on := 9, ground := Ground.phase }, { on := 10, ground := Ground.phase }, { on := 11, ground := Ground.phase }, { on := 12, ground := Ground.phase }, { on := 13, ground := Ground.phase }, { on := 14, ground := Ground.phase }, { on := 15, ground := Ground.phase }, { on := 16, ground := Ground.phase }, { on := 17, ground := Ground.phase }, { on := 18, ground := Ground.phase }], guard := none }) (by kernel_rfl) rfl (fun K hK => ?_)
        go_simp
        refine hK _ _ (fun h _ => absurd h (by decide)) ?_
        clear hK K
        refine wpAnyD_done (by kernel_rfl) ?_ _
        go_wp2_with fail
        go_ret
        refine ⟨by rw [HCC.out]; rfl, ⟨b.lb, gv5, .slice A6 (s5.O.length + 1) d6, gs5⟩, rfl, ?_⟩
        rw [HADD.out]
        rw [show s5.push c = { s5 with O := s5.O ++ [c], cost := s5.cost + pr, now := s5.now + pr } by rw [HP.out]; rfl]
        exact (HM7.out.done pr).sub (List.sublist_cons_self ..)
end
end Go.Proofs.YtghcmakhfdnimaaDoor
