/- The walk of the reference's Undo. No condition but those written. -/
import Derived.Test.YtghcmakhfdnimaaDoorRefH
namespace Go.Proofs.YtghcmakhfdnimaaDoor
open Go.RowKit

section
variable {W w w' : World} {b : Lb} {s : Lg} {R : Heap}
theorem RefAt.pushC {v v' : Value} {l : List Chg} {c : Chg} (h : RefAt W w b s (chgRow v l ++ R)) (hs : Sl w' 51 9 v' (l.length + 1) (rows Chg.cells l ++ c.cells)) (ho : Only (fun g => v.ownBlock = some g) w w') (hv : v'.ownBlock = v.ownBlock ∨ v'.ownBlock = some w.heap.size) :
    RefAt W w' b s (chgRow v' (l ++ [c]) ++ R) ∧ RowOk v' (l ++ [c]).length := by
  have e : rows Chg.cells l ++ c.cells = rows Chg.cells (l ++ [c]) := by rw [rows_append, rows_one]
  have el : (l ++ [c]).length = l.length + 1 := by simp
  rw [e] at hs
  rw [el]
  refine ⟨⟨?_, h.ok⟩, hs.rowOk⟩
  have h1 : Own W w (rowOf 51 9 v l.length (rows Chg.cells l) ++ (b.rheap s ++ R)) := h.own.perm (by
    unfold chgRow
    classical
    rw [List.perm_iff_count]
    intro x
    simp only [List.count_append, List.count_cons]
    omega
    )
  have h2 := h1.appended hs ho hv
  unfold chgRow
  rw [el]
  refine h2.perm ?_
  classical
  rw [List.perm_iff_count]
  intro x
  simp only [List.count_append, List.count_cons]
  omega
theorem RefAt.slC {v : Value} {l : List Chg} (h : RefAt W w b s (chgRow v l ++ R)) (ok : RowOk v l.length) : Sl w 51 9 v l.length (rows Chg.cells l) :=
  h.own.slOf (fun y hy => by simp [chgRow]; exact .inr (.inl hy)) (by rw [rows_len chg_len]) ok
theorem RefAt.ch_ (h : RefAt W w b s R) (c : Int) : RefAt W (w.setCell ⟨b.lb, 3, none⟩ (.int .i64 c)) b { s with ch := c } R := h.setCell rfl rfl rfl
theorem RefAt.gtr (h : RefAt W w b s R) {x : Value × List Chg} (hx : x ∈ b.gs) : x.2 ∈ s.G := by rw [h.ok.grp]; exact List.mem_map_of_mem hx
/-- What the loads of the loop read. -/
def UndoS (lb : Nat) (gv : Value) (ch : Int) (gb off : Nat) (v0 : Value) (g3 o3 : Nat) (c : Chg) (w' : World) : Prop :=
  w'.cell? ⟨lb, 0, none⟩ = some gv ∧ w'.cell? ⟨lb, 3, none⟩ = some (.int .i64 ch) ∧ w'.cell? ⟨gb, off, none⟩ = some v0 ∧
  w'.cell? ⟨g3, o3, none⟩ = some (.int .i64 c.k) ∧ w'.cell? ⟨g3, o3 + 1, none⟩ = some (.int .i64 c.a) ∧ w'.cell? ⟨g3, o3 + 2, none⟩ = some (.int .i64 c.t) ∧ w'.cell? ⟨g3, o3 + 3, none⟩ = some (.int .i64 c.id) ∧ w'.cell? ⟨g3, o3 + 4, none⟩ = some (.int .i64 c.nm) ∧ w'.cell? ⟨g3, o3 + 5, none⟩ = some (.string c.tx) ∧ w'.cell? ⟨g3, o3 + 6, none⟩ = some (.int .i64 c.vk) ∧ w'.cell? ⟨g3, o3 + 7, none⟩ = some (.int .i64 c.vn) ∧ w'.cell? ⟨g3, o3 + 8, none⟩ = some (.bool c.had)
theorem RefAt.undoS {lb gb off n cp k m : Nat} {ov A : Value} {gs : List (Value × List Chg)} {l0 : List Chg} {c : Chg} {g3 o3 n0 c3 : Nat} (h : RefAt W w ⟨lb, .slice (some ⟨gb, off, none⟩) n cp, ov, gs⟩ s R) (hn : n = gs.length) (hx : gs[k]? = some (.slice (some ⟨g3, o3, none⟩) n0 c3, l0)) (hn0 : n0 = l0.length) (hc : l0[m]? = some c) :
    UndoS lb (.slice (some ⟨gb, off, none⟩) n cp) s.ch gb (off + k) (.slice (some ⟨g3, o3, none⟩) n0 c3) g3 (o3 + m * 9) c w := by
  subst hn hn0
  have hkl := (List.getElem?_eq_some_iff.1 hx).1
  obtain ⟨gb', off', cp', hv9', _, _, hcell', _⟩ := h.slG.at_ (show 0 < gs.length by omega)
  obtain ⟨rfl, rfl⟩ : gb = gb' ∧ off = off' := by
    injection hv9' with e1 _ e2
    injection e1 with e1
    injection e1 with e3 e4
    exact ⟨e3, e4⟩
  obtain ⟨g4, o4, c4, hv3, _, _, _, _, hat⟩ := Sl.atC (L := l0) (h.slg (List.mem_of_getElem? hx)) (by have := (List.getElem?_eq_some_iff.1 hc).1; omega)
  obtain ⟨rfl, rfl⟩ : g3 = g4 ∧ o3 = o4 := by
    injection hv3 with e1 _ e2
    injection e1 with e1
    injection e1 with e3 e4
    exact ⟨e3, e4⟩
  obtain ⟨p0, p1, p2, p3, p4, p5, p6, p7, p8⟩ := hat m c hc
  exact ⟨h.c0, h.c3, hcell' k _ (by rw [List.getElem?_map, hx]; rfl), p0, p1, p2, p3, p4, p5, p6, p7, p8⟩
/-- What Undo leaves. -/
def RUndoRes (W : World) (b : Lb) (s : Lg) (R : Heap) (again : Bool) (e : Ending) (w' : World) : Prop :=
  ∃ b' v, b'.lb = b.lb ∧ e = .returned (.tuple #[v, .int .i64 (s.undoErr again)]) ∧ RefAt W w' b' (s.undo again) (chgRow v (s.undone again) ++ R) ∧ RowOk v (s.undone again).length
set_option maxRecDepth 100000 in
set_option maxHeartbeats 4000000 in
theorem rundo_any (h : RefAt W w b s R) (hg : Good s) (hS : Small s) (hm : s.all.length ≤ 1000000) (again : Bool) : Calls Tryd.prog 54 #[.pointer (some ⟨b.lb, 0, none⟩), .bool again] w (RUndoRes W b s R again) := by
  have HC := hide (rclose_any h hg hS)
  have HF := hide (close_facts hg)
  have HSC := hide (hS.close hg hm)
  clear h hg hS hm
  go_enter Tryd.func54, Tryd.ntmps54
  go_wp2_with fail
  refine (Calls.mono (HC.out)) ?_
  rintro e w2 ⟨rfl, b2, hb2, h2⟩
  obtain ⟨lb2, gv2, ov2, gs2⟩ := b2
  obtain rfl : lb2 = b.lb := hb2
  have HLEN := hide h2.len
  obtain ⟨A9, d9, hv9, hd9, _⟩ := h2.slG.form
  have c0 : w2.cell? ⟨b.lb, 0, none⟩ = some (.slice A9 gs2.length d9) := h2.c0.trans (congrArg some hv9)
  have c3 : w2.cell? ⟨b.lb, 3, none⟩ = some (.int .i64 s.close.ch) := h2.c3
  have f3 : w2.frozen? ⟨b.lb, 3, none⟩ = false := h2.blk.frozen 3
  have H2 := hide h2
  have hgl : gs2.length ≤ 1000000 := by have := HSC.out.many; rw [HLEN.out] at this; exact this
  clear h2 hv9 HC hd9
  obtain ⟨C, hC⟩ : ∃ C, C = s.close.chain0 again := ⟨_, rfl⟩
  have HCC := hide hC
  have HCB := hide (show 0 ≤ C ∧ C ≤ (s.close.G.length : Int) from by
    rw [hC]
    have h1 := HF.out.2.1
    have h2 := HF.out.2.2.1
    unfold Lg.chain0
    split
    · omega
    · rename_i hh
      simp only [not_or] at hh
      omega)
  clear hC
  obtain ⟨q, hq⟩ : ∃ q, q = decide (again = false ∨ s.close.ch < 0) := ⟨_, rfl⟩
  have HQ := hide hq
  clear hq
  go_upto_region 2 with fail
  go_cut [18] (fun v wx => v = .bool q ∧ wx = w2)
  case first =>
    cases again with
    | false =>
      go_wp2_with fail
      go_meet
      exact ⟨by rw [HQ.out]; simp, rfl⟩
    | true =>
      by_cases hneg : s.close.ch < 0
      · have z1 : decide (s.close.ch < 0) = true := by simpa using hneg
        go_wp2_with fail
        go_meet
        exact ⟨by rw [HQ.out]; simp [hneg], rfl⟩
      · have z1 : decide (s.close.ch < 0) = false := by simpa using hneg
        have HNG := hide hneg
        clear hneg
        go_wp2_with fail
        go_meet
        exact ⟨by rw [HQ.out]; simp [HNG.out], rfl⟩
  case rest =>
    obtain ⟨rfl, rfl⟩ := hcut
    go_upto_if 18 with fail
    go_cut [] (fun wx => RefAt W wx ⟨b.lb, gv2, ov2, gs2⟩ { s.close with ch := C } R)
    case first =>
      cases q with
      | true =>
        have HE := hide (show C = (gs2.length : Int) by rw [HCC.out]; unfold Lg.chain0; rw [if_pos (by simpa using HQ.out.symm), HLEN.out])
        go_wp2_with fail
        go_meet
        rw [HE.out]
        exact H2.out.ch_ (gs2.length : Int)
      | false =>
        have HE := hide (show C = s.close.ch by rw [HCC.out]; unfold Lg.chain0; rw [if_neg (by simpa using HQ.out.symm)])
        go_wp2_with fail
        go_meet
        rw [HE.out]
        exact H2.out
    case rest =>
      have H3 := hide hcut
      clear hcut c0 c3 f3 H2
      have c3 : wc.cell? ⟨b.lb, 3, none⟩ = some (.int .i64 C) := H3.out.c3
      have f3 : wc.frozen? ⟨b.lb, 3, none⟩ = false := H3.out.blk.frozen 3
      by_cases hz : C = 0
      · have HE := hide (show s.undo again = { s.close with ch := C } ∧ s.undone again = [] ∧ s.undoErr again = 13 from ⟨by
          show ({ s.close with ch := if s.close.chain0 again = 0 then 0 else s.close.chain0 again - 1 } : Lg) = _
          rw [← HCC.out, if_pos hz, hz], by
          show (if s.close.chain0 again = 0 then _ else _) = _
          rw [← HCC.out, if_pos hz], by
          show (if s.close.chain0 again = 0 then _ else _) = _
          rw [← HCC.out, if_pos hz]⟩)
        have HZ := hide hz
        subst hz
        go_wp2
        go_ret2
        refine ⟨⟨b.lb, gv2, ov2, gs2⟩, .slice none 0 0, rfl, ?_, ?_, ?_⟩
        · rw [HE.out.2.2]; rfl
        · rw [HE.out.1, HE.out.2.1]; exact H3.out
        · rw [HE.out.2.1]; exact RowOk.nil
      · have z1 : (C == 0) = false := by simpa using hz
        obtain ⟨k, hk⟩ : ∃ k : Nat, C = (k : Int) + 1 := ⟨(C - 1).toNat, by have := HCB.out.1; omega⟩
        subst hk
        have hkl : k < gs2.length := by have := HCB.out.2; rw [HLEN.out] at this; omega
        have H4 := hide (show RefAt W (wc.setCell ⟨b.lb, 3, none⟩ (.int .i64 (k : Int))) ⟨b.lb, gv2, ov2, gs2⟩ { s.close with ch := (k : Int) } R from H3.out.ch_ (k : Int))
        obtain ⟨gb, off, cp, hv, hcp, hcm, hcell, hfz, hgbl⟩ := H4.out.slG.at_ (show 0 < gs2.length by omega)
        obtain rfl : gv2 = .slice (some ⟨gb, off, none⟩) gs2.length cp := hv
        obtain ⟨⟨v0, l0⟩, hx0⟩ : ∃ x, gs2[k]? = some x := ⟨_, List.getElem?_eq_getElem hkl⟩
        have hmem := List.mem_of_getElem? hx0
        have d1 := hcell k v0 (by rw [List.getElem?_map, hx0]; rfl)
        have g1 : (wc.setCell ⟨b.lb, 3, none⟩ (.int .i64 (k : Int))).cell? ⟨b.lb, 0, none⟩ = some (.slice (some ⟨gb, off, none⟩) gs2.length cp) := H4.out.c0
        have g3 : (wc.setCell ⟨b.lb, 3, none⟩ (.int .i64 (k : Int))).cell? ⟨b.lb, 3, none⟩ = some (.int .i64 (k : Int)) := H4.out.c3
        obtain ⟨A0, d0, hv0, _⟩ := (H4.out.slg hmem).form
        obtain ⟨n0, hn0⟩ : ∃ n0, n0 = l0.length := ⟨_, rfl⟩
        rw [show ((v0, l0) : Value × List Chg).1 = v0 from rfl, show ((v0, l0) : Value × List Chg).2 = l0 from rfl, ← hn0] at hv0
        obtain rfl : v0 = .slice A0 n0 d0 := hv0
        have hl0 : n0 ≤ 1000000 := by rw [hn0]; exact HSC.out.len l0 (by have := H4.out.gtr hmem; exact this)
        have HN0 := hide hn0
        have HX0 := hide hx0
        have HMEM := hide hmem
        have HE := hide (show s.undo again = { s.close with ch := (k : Int) } ∧ s.undone again = l0.reverse ∧ s.undoErr again = 0 from by
          have e0 : ¬ s.close.chain0 again = 0 := by rw [← HCC.out]; omega
          have eG : s.close.G[k]? = some l0 := by
            rw [show s.close.G = gs2.map (·.2) from H4.out.ok.grp, List.getElem?_map, hx0]
            rfl
          refine ⟨?_, ?_, ?_⟩
          · show ({ s.close with ch := if s.close.chain0 again = 0 then 0 else s.close.chain0 again - 1 } : Lg) = _
            have e2 : s.close.chain0 again - 1 = (k : Int) := by rw [← HCC.out]; omega
            rw [if_neg e0, e2]
          · show (if s.close.chain0 again = 0 then _ else _) = _
            rw [if_neg e0, ← HCC.out, show ((k : Int) + 1 - 1).toNat = k by omega, eG]
            rfl
          · show (if s.close.chain0 again = 0 then _ else _) = _
            rw [if_neg e0])
        have hw1 : (k : Int) < (gs2.length : Int) := by omega
        have hw0 : (0 : Int) ≤ (k : Int) := by omega
        have hw2 : IntKind.i64.wrap ((n0 : Int) - 1) = (n0 : Int) - 1 := IntWalk.i64_in _ (by omega)
        clear hx0 hmem hcell hfz hz hn0
        go_upto_region 8 with fail
        clear c3 f3 z1
        generalize wc.setCell ⟨b.lb, 3, none⟩ (.int .i64 (k : Int)) = w4 at *
        go_quiet (fail)
        go_wp2_with fail
        have H5 := hide (H4.out.drewN nq)
        clear g1 g3 d1 hw2 H4
        generalize w4.drewN nq = w5 at *
        go_loopw [6, 7] (fun v i wr => ∃ m : Nat, m ≤ n0 ∧ i = .int .i64 ((m : Int) - 1) ∧ RefAt W wr ⟨b.lb, .slice (some ⟨gb, off, none⟩) gs2.length cp, ov2, gs2⟩ { s.close with ch := (k : Int) } (chgRow v (l0.drop m).reverse ++ R) ∧ RowOk v (l0.drop m).reverse.length) (fun _ i _ => (intOf i + 1).toNat)
        case atStart => exact ⟨n0, Nat.le_refl _, rfl, by rw [HN0.out, List.drop_length]; exact H5.out, by rw [HN0.out, List.drop_length]; exact RowOk.nil⟩
        case round =>
          obtain ⟨m, hm, rfl, h6, ok6⟩ := hrel
          cases m with
          | zero =>
            have H6 := hide h6
            have OK6 := hide ok6
            clear h6 ok6
            go_wp2
            go_ret2
            refine ⟨⟨b.lb, .slice (some ⟨gb, off, none⟩) gs2.length cp, ov2, gs2⟩, _, rfl, by rw [HE.out.2.2]; rfl, ?_, ?_⟩
            · rw [HE.out.1, HE.out.2.1]
              exact H6.out
            · rw [HE.out.2.1]
              exact OK6.out
          | succ m =>
            rw [show ((m + 1 : Nat) : Int) - 1 = (m : Int) by omega]
            obtain ⟨c, hc⟩ : ∃ c, l0[m]? = some c := ⟨_, List.getElem?_eq_getElem (by rw [← HN0.out]; omega)⟩
            have HC := hide hc
            have HD := hide (show (l0.drop m).reverse = (l0.drop (m + 1)).reverse ++ [c] by
              rw [List.drop_eq_getElem_cons (by have := (List.getElem?_eq_some_iff.1 hc).1; omega), List.reverse_cons, (List.getElem?_eq_some_iff.1 hc).2])
            obtain ⟨L, hL⟩ : ∃ L, L = (l0.drop (m + 1)).reverse := ⟨_, rfl⟩
            have HLL := hide (show L.length ≤ 1000000 by rw [hL]; simp; have := HN0.out; omega)
            rw [← hL] at h6 ok6 HD
            clear hL
            obtain ⟨Av, dv, hvv, _⟩ := (h6.slC ok6).form
            obtain ⟨nL, hnL⟩ : ∃ nL, nL = L.length := ⟨_, rfl⟩
            rw [← hnL] at hvv
            subst hvv
            have HNL := hide hnL
            obtain ⟨g3, o3, c3, hv3, _⟩ := Sl.atC (L := l0) (h6.slg HMEM.out) (by rw [← HN0.out]; omega)
            obtain ⟨rfl, rfl⟩ : A0 = some ⟨g3, o3, none⟩ ∧ d0 = c3 := by
              injection hv3 with e1 _ e2
              exact ⟨e1, e2⟩
            have hS := h6.drew.undoS rfl HX0.out HN0.out hc (A := undef)
            have HX := hide (h6.drew.skip (.cells #[.int .i64 c.k, .int .i64 c.a, .int .i64 c.t, .int .i64 c.id, .int .i64 c.nm, .string c.tx, .int .i64 c.vk, .int .i64 c.vn, .bool c.had] 51))
            have HSL := hide (show Sl (wr.drew.alloc (.cells #[.int .i64 c.k, .int .i64 c.a, .int .i64 c.t, .int .i64 c.id, .int .i64 c.nm, .string c.tx, .int .i64 c.vk, .int .i64 c.vn, .bool c.had] 51)) 51 9 (.slice Av nL dv) L.length (rows Chg.cells L) from HX.out.slC ok6)
            obtain ⟨i0, hi, hz0, hz1, hz2⟩ := info_parts info_chg
            have HI := hide hi
            have HZ := hide hz0
            have HZ1 := hide hz1
            have HZ2 := hide hz2
            have hk0 : (0 : Int) ≤ (m : Int) := by omega
            have hk1 : (m : Int) < (n0 : Int) := by omega
            have hmm : m + 1 ≤ 1000000 := by omega
            clear h6 ok6 hc hnL hv3 hi hz0 hz1 hz2
            go_upto_region 11 with fail
            refine wp_region_d (S := UndoS b.lb (.slice (some ⟨gb, off, none⟩) gs2.length cp) (k : Int) gb (off + k) (.slice (some ⟨g3, o3, none⟩) n0 d0) g3 (o3 + m * 9) c) (D := []) (by kernel_rfl) ?_
            change wpAnyD _ _ _ _ _ _ _ _ _ (World.drew _)
            refine wpAnyD_takeW (i := 0) (oi := { dst := some 55, op := Op.move (Operand.tmp 6), type := 40, pos := "ref.go:103", after := #[], guard := none }) (v := ?_) rfl (by kernel_rfl) (by kernel_rfl) (by kernel_rfl) (fun _ _ _ h => h) (Or.inl ⟨by rfl, ?_⟩) ?_
            rotate_left
            · intro w hSw
              clear hSw
              go_simp
              all_goals with_reducible rfl
            simp only [Act.put, List.setIfInBounds_toArray, List.set_cons_zero, List.set_cons_succ]
            refine wpAnyD_takeW (i := 1) (oi := { dst := some 56, op := Op.move (Operand.tmp 0), type := 63, pos := "ref.go:103", after := #[], guard := none }) (v := ?_) rfl (by kernel_rfl) (by kernel_rfl) (by kernel_rfl) (fun _ _ _ h => h) (Or.inl ⟨by rfl, ?_⟩) ?_
            rotate_left
            · intro w hSw
              clear hSw
              go_simp
              all_goals with_reducible rfl
            simp only [Act.put, List.setIfInBounds_toArray, List.set_cons_zero, List.set_cons_succ]
            refine wpAnyD_takeW (i := 2) (oi := { dst := some 57, op := Op.nilCheck (Operand.tmp 56), type := 0, pos := "ref.go:103", after := #[{ on := 1, ground := Ground.data }], guard := none }) (v := ?_) rfl (by kernel_rfl) (by kernel_rfl) (by kernel_rfl) (fun _ _ _ h => h) (Or.inl ⟨by rfl, ?_⟩) ?_
            rotate_left
            · intro w hSw
              clear hSw
              go_simp
              all_goals with_reducible rfl
            simp only [Act.put, List.setIfInBounds_toArray, List.set_cons_zero, List.set_cons_succ]
            refine wpAnyD_takeW (i := 3) (oi := { dst := some 58, op := Op.fieldAddr 90 (Operand.tmp 57) 0, type := 0, pos := "ref.go:103", after := #[{ on := 2, ground := Ground.data }], guard := none }) (v := ?_) rfl (by kernel_rfl) (by kernel_rfl) (by kernel_rfl) (fun _ _ _ h => h) (Or.inl ⟨by rfl, ?_⟩) ?_
            rotate_left
            · intro w hSw
              clear hSw
              go_simp
              all_goals with_reducible rfl
            simp only [Act.put, List.setIfInBounds_toArray, List.set_cons_zero, List.set_cons_succ]
            refine wpAnyD_take (i := 4) (oi := { dst := some 59, op := Op.load 47 (Operand.tmp 58), type := 47, pos := "ref.go:103", after := #[{ on := 3, ground := Ground.data }], guard := none }) (v := ?_) rfl (by kernel_rfl) (by kernel_rfl) (by kernel_rfl) (by kernel_rfl) (by kernel_rfl) (fun _ _ _ h => h) (Or.inl ⟨by rfl, ?_⟩) hS ?_
            rotate_left
            · intro w hSw
              unfold UndoS at hSw
              go_split_ands
              go_simp
              all_goals with_reducible rfl
            simp only [Act.put, List.setIfInBounds_toArray, List.set_cons_zero, List.set_cons_succ]
            refine wpAnyD_takeW (i := 5) (oi := { dst := some 60, op := Op.move (Operand.tmp 0), type := 63, pos := "ref.go:103", after := #[], guard := none }) (v := ?_) rfl (by kernel_rfl) (by kernel_rfl) (by kernel_rfl) (fun _ _ _ h => h) (Or.inl ⟨by rfl, ?_⟩) ?_
            rotate_left
            · intro w hSw
              clear hSw
              go_simp
              all_goals with_reducible rfl
            simp only [Act.put, List.setIfInBounds_toArray, List.set_cons_zero, List.set_cons_succ]
            refine wpAnyD_takeW (i := 6) (oi := { dst := some 61, op := Op.nilCheck (Operand.tmp 60), type := 0, pos := "ref.go:103", after := #[{ on := 5, ground := Ground.data }], guard := none }) (v := ?_) rfl (by kernel_rfl) (by kernel_rfl) (by kernel_rfl) (fun _ _ _ h => h) (Or.inl ⟨by rfl, ?_⟩) ?_
            rotate_left
            · intro w hSw
              clear hSw
              go_simp
              all_goals with_reducible rfl
            simp only [Act.put, List.setIfInBounds_toArray, List.set_cons_zero, List.set_cons_succ]
            refine wpAnyD_takeW (i := 7) (oi := { dst := some 62, op := Op.fieldAddr 90 (Operand.tmp 61) 3, type := 0, pos := "ref.go:103", after := #[{ on := 6, ground := Ground.data }], guard := none }) (v := ?_) rfl (by kernel_rfl) (by kernel_rfl) (by kernel_rfl) (fun _ _ _ h => h) (Or.inl ⟨by rfl, ?_⟩) ?_
            rotate_left
            · intro w hSw
              clear hSw
              go_simp
              all_goals with_reducible rfl
            simp only [Act.put, List.setIfInBounds_toArray, List.set_cons_zero, List.set_cons_succ]
            refine wpAnyD_take (i := 8) (oi := { dst := some 63, op := Op.load 3 (Operand.tmp 62), type := 3, pos := "ref.go:103", after := #[{ on := 7, ground := Ground.data }], guard := none }) (v := ?_) rfl (by kernel_rfl) (by kernel_rfl) (by kernel_rfl) (by kernel_rfl) (by kernel_rfl) (fun _ _ _ h => h) (Or.inl ⟨by rfl, ?_⟩) hS ?_
            rotate_left
            · intro w hSw
              unfold UndoS at hSw
              go_split_ands
              go_simp
              all_goals with_reducible rfl
            simp only [Act.put, List.setIfInBounds_toArray, List.set_cons_zero, List.set_cons_succ]
            refine wpAnyD_takeW (i := 9) (oi := { dst := some 64, op := Op.indexAddr 47 (Operand.tmp 59) (Operand.tmp 63), type := 0, pos := "ref.go:103", after := #[{ on := 4, ground := Ground.data }, { on := 8, ground := Ground.data }], guard := none }) (v := ?_) rfl (by kernel_rfl) (by kernel_rfl) (by kernel_rfl) (fun _ _ _ h => h) (Or.inl ⟨by rfl, ?_⟩) ?_
            rotate_left
            · intro w hSw
              clear hSw
              go_simp
              all_goals with_reducible rfl
            simp only [Act.put, List.setIfInBounds_toArray, List.set_cons_zero, List.set_cons_succ]
            refine wpAnyD_take (i := 10) (oi := { dst := some 65, op := Op.load 40 (Operand.tmp 64), type := 40, pos := "ref.go:103", after := #[{ on := 9, ground := Ground.data }], guard := none }) (v := ?_) rfl (by kernel_rfl) (by kernel_rfl) (by kernel_rfl) (by kernel_rfl) (by kernel_rfl) (fun _ _ _ h => h) (Or.inl ⟨by rfl, ?_⟩) hS ?_
            rotate_left
            · intro w hSw
              unfold UndoS at hSw
              go_split_ands
              go_simp
              all_goals with_reducible rfl
            simp only [Act.put, List.setIfInBounds_toArray, List.set_cons_zero, List.set_cons_succ]
            refine wpAnyD_takeW (i := 11) (oi := { dst := some 66, op := Op.move (Operand.tmp 7), type := 3, pos := "ref.go:103", after := #[], guard := none }) (v := ?_) rfl (by kernel_rfl) (by kernel_rfl) (by kernel_rfl) (fun _ _ _ h => h) (Or.inl ⟨by rfl, ?_⟩) ?_
            rotate_left
            · intro w hSw
              clear hSw
              go_simp
              all_goals with_reducible rfl
            simp only [Act.put, List.setIfInBounds_toArray, List.set_cons_zero, List.set_cons_succ]
            refine wpAnyD_takeW (i := 12) (oi := { dst := some 67, op := Op.indexAddr 40 (Operand.tmp 65) (Operand.tmp 66), type := 0, pos := "ref.go:103", after := #[{ on := 10, ground := Ground.data }, { on := 11, ground := Ground.data }], guard := none }) (v := ?_) rfl (by kernel_rfl) (by kernel_rfl) (by kernel_rfl) (fun _ _ _ h => h) (Or.inl ⟨by rfl, ?_⟩) ?_
            rotate_left
            · intro w hSw
              clear hSw
              go_simp
              all_goals with_reducible rfl
            simp only [Act.put, List.setIfInBounds_toArray, List.set_cons_zero, List.set_cons_succ]
            refine wpAnyD_take (i := 13) (oi := { dst := some 68, op := Op.load 51 (Operand.tmp 67), type := 51, pos := "ref.go:103", after := #[{ on := 12, ground := Ground.data }], guard := none }) (v := ?_) rfl (by kernel_rfl) (by kernel_rfl) (by kernel_rfl) (by kernel_rfl) (by kernel_rfl) (fun _ _ _ h => h) (Or.inl ⟨by rfl, ?_⟩) hS ?_
            rotate_left
            · intro w hSw
              unfold UndoS at hSw
              go_split_ands
              go_simp
              all_goals with_reducible rfl
            simp only [Act.put, List.setIfInBounds_toArray, List.set_cons_zero, List.set_cons_succ]
            refine wpAnyD_one (i := 14) (o := { dst := some 69, op := Op.buildSlice 40 1 #[(0, Operand.tmp 68)], type := 40, pos := "ref.go:103", after := #[{ on := 13, ground := Ground.data }], guard := none }) (by kernel_rfl) rfl (fun K hK => ?_)
            obtain ⟨q0, q1, q2, q3, q4, q5, q6, q7, q8, q9, q10, q11⟩ := hS
            go_simp
            refine hK _ _ (fun h _ => HX.out.undoS rfl HX0.out HN0.out HC.out (A := undef)) ?_
            clear hK K q0 q1 q2 q3 q4 q5 q6 q7 q8 q9 q10 q11
            refine wpAnyD_one (i := 15) (o := { dst := some 70, op := Op.call { callee := Callee.builtin Builtin.append, args := #[Operand.tmp 55, Operand.tmp 69], argTypes := #[40, 40] }, type := 40, pos := "ref.go:103", after := #[{ on := 0, ground := Ground.data }, { on := 14, ground := Ground.data }], guard := none }) (by kernel_rfl) rfl (fun K hK => ?_)
            refine step_append_sl rfl (.tmp 55) (.tmp 69) 40 rfl 51 i0 _ 9 80 Tryd.underlying40 HI.out HZ.out HZ1.out HZ2.out rfl _ L.length (rows Chg.cells L) rfl HSL.out _ rfl 1 _ (rd_elem wr.drew 51 9 (Chg.cells c) rfl) (chg_one _) (by have := HLL.out; unfold maxLen; omega) (by have := HLL.out; omega) ?_
            intro v' w6 hs6 ho6 hv6
            obtain ⟨A6, d6, rfl, _⟩ := id hs6.form
            obtain ⟨h7, ok7⟩ := HX.out.pushC hs6 ho6 hv6
            have H7 := hide h7
            have OK7 := hide ok7
            refine hK _ _ (fun h _ => h7.undoS rfl HX0.out HN0.out HC.out (A := undef)) ?_
            clear hK K hs6 ho6 hv6 h7 ok7
            simp only [Act.put, List.setIfInBounds_toArray, List.set_cons_zero, List.set_cons_succ]
            refine wpAnyD_takeW (i := 16) (oi := { dst := some 6, op := Op.assign (Operand.tmp 70), type := 40, pos := "ref.go:103", after := #[{ on := 15, ground := Ground.data }, { on := 15, ground := Ground.chain }, { on := 0, ground := Ground.phase }, { on := 1, ground := Ground.phase }, { on := 2, ground := Ground.phase }, { on := 3, ground := Ground.phase }, { on := 4, ground := Ground.phase }, { on := 5, ground := Ground.phase }, { on := 6, ground := Ground.phase }, { on := 7, ground := Ground.phase }, { on := 8, ground := Ground.phase }, { on := 9, ground := Ground.phase }, { on := 10, ground := Ground.phase }, { on := 11, ground := Ground.phase }, { on := 12, ground := Ground.phase }, { on := 13, ground := Ground.phase }, { on := 14, ground := Ground.phase }, { on := 15, ground := Ground.phase }], guard := none }) (v := ?_) rfl (by kernel_rfl) (by kernel_rfl) (by kernel_rfl) (fun _ _ _ h => h) (Or.inl ⟨by rfl, ?_⟩) ?_
            rotate_left
            · intro w hSw
              clear hSw
              go_simp
              all_goals with_reducible rfl
            simp only [Act.put, List.setIfInBounds_toArray, List.set_cons_zero, List.set_cons_succ]
            refine wpAnyD_done (by kernel_rfl) ?_ _
            go_wp2
            go_roundw
            case rel => exact ⟨m, by omega, by go_num, by rw [HD.out]; exact H7.out, by rw [HD.out]; exact OK7.out⟩
            case measure => simp [intOf]
end
end Go.Proofs.YtghcmakhfdnimaaDoor
