/- The walk of VarsConst: it returns true and leaves everything that was there as it was. No condition. -/
import Derived.Test.YtempnakdpmmmoaaVarConst
namespace Go.Proofs.Ytempnakdpmmmoaa
open Go.RowKit
attribute [local go_sem] neq_cells

/-- Two words in their cells. -/
def Words (p q : Nat) (a b c d : Int) (w : World) : Prop := w.cell? ⟨p, 0, none⟩ = some (.int .i64 a) ∧ w.cell? ⟨p, 1, none⟩ = some (.int .i64 b) ∧ w.cell? ⟨q, 0, none⟩ = some (.int .i64 c) ∧ w.cell? ⟨q, 1, none⟩ = some (.int .i64 d)
theorem words_new {W w : World} {a b c d : Int} (hb : Below ((W.alloc (.cells #[.int .i64 a, .int .i64 b] 29)).alloc (.cells #[.int .i64 c, .int .i64 d] 29)).heap.size ((W.alloc (.cells #[.int .i64 a, .int .i64 b] 29)).alloc (.cells #[.int .i64 c, .int .i64 d] 29)) w) (w' : World) (h : Below w.heap.size w w') : Words W.heap.size (W.heap.size + 1) a b c d w' := by
  have hs := hb.size
  simp only [World.size_alloc] at hs
  have k1 := (((Blk.new W 29 #[.int .i64 a, .int .i64 b]).below ((Below.refl _ _).alloc (Nat.le_refl _) (.cells #[.int .i64 c, .int .i64 d] 29)) (by simp)).below hb (by simp; omega)).below h (by omega)
  have k2 := ((Blk.new (W.alloc (.cells #[.int .i64 a, .int .i64 b] 29)) 29 #[.int .i64 c, .int .i64 d]).below hb (by simp)).below h (by simp; omega)
  rw [World.size_alloc] at k2
  exact ⟨k1.cell 0, k1.cell 1, k2.cell 0, k2.cell 1⟩
theorem other_ne {z : Int} (h : 0 ≤ z) (h2 : z < 16382) : 2 + pickZ (2 + z) 16382 ≠ 2 + z := by
  unfold pickZ
  rw [Int.tmod_eq_emod_of_nonneg (by omega)]
  split <;> omega
/-- What is held while the refused calls are made. -/
def ConS (p : Nat) (c d : Int) (W : World) (vb : Nat) (f : Int → Cel) (N : Int) (w' : World) : Prop := w'.cell? ⟨p, 0, none⟩ = some (.int .i64 c) ∧ w'.cell? ⟨p, 1, none⟩ = some (.int .i64 d) ∧ Cst W vb f N true [] w'
theorem conS_of {p q : Nat} {a b c d : Int} {W w : World} {vb : Nat} {f : Int → Cel} {N : Int} (HX : Hid (∀ w', Below W.heap.size W w' → Words p q a b c d w')) (h : Cst W vb f N true [] w) : ConS q c d W vb f N w :=
  ⟨(HX.out _ h.bel).2.2.1, (HX.out _ h.bel).2.2.2, h⟩
theorem conS_alloc {q : Nat} {c d : Int} {W w : World} {vb : Nat} {f : Int → Cel} {N : Int} {o : Obj} (h : ConS q c d W vb f N w) : ConS q c d W vb f N (w.alloc o) := by
  obtain ⟨h1, h2, h3⟩ := h
  have hb : Below w.heap.size w (w.alloc o) := (Below.refl _ _).alloc (Nat.le_refl _) o
  have l1 := World.block_lt_of_cell? _ _ h1
  exact ⟨(World.cell?_of_block (hb.block q l1)).trans h1, (World.cell?_of_block (hb.block q l1)).trans h2, h3.below hb⟩
theorem conS_cst {q : Nat} {c d : Int} {W w : World} {vb : Nat} {f : Int → Cel} {N : Int} (h : ConS q c d W vb f N w) : Cst W vb f N true [] w := h.2.2
set_option maxRecDepth 100000 in
set_option maxHeartbeats 4000000 in
theorem const_walk (n xk xn yk yn k : Int) (W : World) : Calls Try.prog 4 #[.int .i64 n, .agg #[.int .i64 xk, .int .i64 xn], .agg #[.int .i64 yk, .int .i64 yn], .int .i64 k] W fun e w' => e = .returned (.bool true) ∧ Below W.heap.size W w' := by
  have n1 := pickZ_ge (n := n) (k := 16382) (by decide)
  have n2 := pickZ_lt (n := n) (k := 16382) (by decide)
  have k1 := pickZ_ge (n := k) (k := 65536) (by decide)
  have k2 := pickZ_lt (n := k) (k := 65536) (by decide)
  have HPN := hide fun w => pick_any n 16382 w (by decide) (by decide)
  have HPK := hide fun w => pick_any k 65536 w (by decide) (by decide)
  generalize pickZ n 16382 = z at *
  generalize pickZ k 65536 = u at *
  have HPO := hide fun w => pick_any (2 + z) 16382 w (by decide) (by decide)
  have o1 := pickZ_ge (n := 2 + z) (k := 16382) (by decide)
  have o2 := pickZ_lt (n := 2 + z) (k := 16382) (by decide)
  have o3 := other_ne n1 n2
  generalize pickZ (2 + z) 16382 = v at *
  have HN := hide (show 2 ≤ 2 + z ∧ 2 + z < 16384 by omega)
  have HK := hide (show 1 ≤ 1 + u ∧ 1 + u ≤ 65536 by omega)
  have HO := hide (show (2 ≤ 2 + v ∧ 2 + v < 16384) ∧ 2 + v ≠ 2 + z from ⟨by omega, o3⟩)
  have hzo : decide (2 + v = 2 + z) = false := by simp; omega
  go_enter Try.func4, Try.ntmps4
  go_wp2_with fail
  refine (lives_any _).mono ?_
  rintro r w1 ⟨rfl, b1⟩
  have HX := hide (words_new b1)
  have HB1 := hide (((((Below.refl _ W).alloc (Nat.le_refl _) (.cells #[.int .i64 xk, .int .i64 xn] 29)).alloc (by simp) (.cells #[.int .i64 yk, .int .i64 yn] 29))).trans (b1.mono (by simp; omega)))
  clear b1
  go_wp2_with fail
  refine (HPN.out w1).mono ?_
  rintro r w2 ⟨rfl, rfl⟩
  go_wp2_with fail
  refine (HPK.out w1).mono ?_
  rintro r w2 ⟨rfl, rfl⟩
  go_wp2_with fail
  refine (sim_new w1).mono ?_
  rintro r w2 ⟨vb, rfl, h2⟩
  have H2 := hide (h2.cst (2 + z))
  clear h2
  obtain ⟨x0, x1, y0, y1⟩ := HX.out _ H2.out.bel
  go_wp2_with fail
  refine (cst_set H2.out (2 + z) HN.out (fun h => Bool.noConfusion h.2) xk xn).mono ?_
  rintro r w3 ⟨rfl, h3⟩
  have H3 := hide h3
  clear h3 x0 x1 y0 y1 H2
  go_wp2_with fail
  refine (cst_scope H3.out (1 + u) HK.out).mono ?_
  rintro r w4 ⟨rfl, h4⟩
  have H4 := hide h4
  clear h4 H3
  go_wp2_with fail
  refine (cst_mark H4.out HN.out).mono ?_
  rintro r w5 ⟨rfl, h5⟩
  have HF := hide (put_same first2 (2 + z) ⟨xk, xn, true⟩)
  generalize put first2 (2 + z) ⟨xk, xn, true⟩ = F at *
  have H5 := hide h5
  clear h5 H4
  go_wp2_with fail
  refine (cst_special H5.out HN.out).mono ?_
  rintro r w6 ⟨rfl, rfl⟩
  go_wp2_with fail
  refine (cst_const H5.out HN.out).mono ?_
  rintro r w6 ⟨rfl, rfl⟩
  have HQ := hide (conS_of HX (H5.out.below (Below.refl _ _).drew))
  have HS1 := hide fun (w : World) (h : Cst w1 vb F (2 + z) true [] w) => cst_no_set h HN.out yk yn
  have HS2 := hide fun (w : World) (h : Cst w1 vb F (2 + z) true [] w) => cst_no_clear h HN.out
  have HS3 := hide fun (w : World) (h : Cst w1 vb F (2 + z) true [] w) => cst_no_bind h HN.out yk yn
  have HS4 := hide fun (w : World) (h : Cst w1 vb F (2 + z) true [] w) => cst_no_local h HN.out
  have HS5 := hide fun (w : World) (h : Cst w1 vb F (2 + z) true [] w) => cst_no_setlocal h HN.out (1 + u) HK.out yk yn
  have HS6 := hide fun (w : World) (h : Cst w1 vb F (2 + z) true [] w) => cst_no_default h HN.out yk yn
  go_wp2_with fail
  go_region_held3 (fun w' => w'.cell? ⟨W.heap.size + 1, 0, none⟩ = some (.int .i64 yk) ∧ w'.cell? ⟨W.heap.size + 1, 1, none⟩ = some (.int .i64 yn) ∧ Cst w1 vb F (2 + z) true [] w')
    (first | exact HQ.out | assumption | exact conS_alloc (by assumption) | exact conS_of HX (by assumption))
    ((first
      | (go_at_call 15; refine Calls.mono (HS1.out _ (conS_cst (q := W.heap.size + 1) (c := yk) (d := yn) (by assumption))) ?_; rintro r w' ⟨rfl, hc⟩)
      | (go_at_call 20; refine Calls.mono (HS2.out _ (conS_cst (q := W.heap.size + 1) (c := yk) (d := yn) (by assumption))) ?_; rintro r w' ⟨rfl, hc⟩)
      | (go_at_call 10; refine Calls.mono (HS3.out _ (conS_cst (q := W.heap.size + 1) (c := yk) (d := yn) (by assumption))) ?_; rintro r w' ⟨rfl, hc⟩)
      | (go_at_call 21; refine Calls.mono (HS4.out _ (conS_cst (q := W.heap.size + 1) (c := yk) (d := yn) (by assumption))) ?_; rintro r w' ⟨rfl, hc⟩)
      | (go_at_call 22; refine Calls.mono (HS5.out _ (conS_cst (q := W.heap.size + 1) (c := yk) (d := yn) (by assumption))) ?_; rintro r w' ⟨rfl, hc⟩)
      | (go_at_call 23; refine Calls.mono (HS6.out _ (conS_cst (q := W.heap.size + 1) (c := yk) (d := yn) (by assumption))) ?_; rintro r w' ⟨rfl, hc⟩)))
  all_goals
    have hC : Cst w1 vb F (2 + z) true [] w' := by assumption
    have HC := hide (hC.below ((Below.refl _ _).alloc (Nat.le_refl _) (.cells #[.int .i64 10, .int .i64 10, .int .i64 10, .int .i64 10, .int .i64 10, .int .i64 10] 26)))
    have HB := hide (Blk.new w' 26 #[.int .i64 10, .int .i64 10, .int .i64 10, .int .i64 10, .int .i64 10, .int .i64 10])
    clear hC HS1 HS2 HS3 HS4 HS5 HS6 HQ H5 HPN HPK
    generalize w'.alloc (.cells #[.int .i64 10, .int .i64 10, .int .i64 10, .int .i64 10, .int .i64 10, .int .i64 10] 26) = w6 at *
    generalize w'.heap.size = sb at *
    go_wp2
    go_loopw [11] (fun i wr => ∃ j : Nat, j ≤ 6 ∧ i = .int .i64 (j : Int) ∧ wr = w6) (fun i _ => 6 - (intOf i).toNat)
    case atStart => exact ⟨0, by omega, rfl, rfl⟩
    case round =>
      obtain ⟨j, hj, rfl, rfl⟩ := hrel
      by_cases hlt : j < 6
      · have hz : decide ((j : Int) < 6) = true := by simp; omega
        have hc : wr.cell? ⟨sb, j, none⟩ = some (.int .i64 10) := by
          rw [HB.out.cell]
          obtain rfl | rfl | rfl | rfl | rfl | rfl : j = 0 ∨ j = 1 ∨ j = 2 ∨ j = 3 ∨ j = 4 ∨ j = 5 := by omega
          all_goals rfl
        have HLT := hide hlt
        go_wp2
        go_roundw
        case rel => exact ⟨j + 1, HLT.out, by go_num, trivial⟩
        case measure => have := HLT.out; simp [intOf]; omega
      · have hz : decide ((j : Int) < 6) = false := by simp; omega
        have hg := cst_get HC.out (2 + z) (by have := HN.out; omega)
        rw [HF.out] at hg
        have HG := hide hg
        clear hg hj hlt HC
        go_wp2_with fail
        refine (Calls.mono HG.out) ?_
        rintro r w7 ⟨rfl, h7⟩
        have H7 := hide (h7.below ((Below.refl _ _).alloc (Nat.le_refl _) (.cells #[.int .i64 xk, .int .i64 xn] 29)))
        have hk := Blk.new w7 29 #[.int .i64 xk, .int .i64 xn]
        clear h7 HG
        have HH := hide hk
        clear hk
        go_wp2_with fail
        refine (HPO.out _).mono ?_
        rintro r w8 ⟨rfl, rfl⟩
        obtain ⟨x0, x1, y0, y1⟩ := HX.out _ H7.out.bel
        have k0 : (w7.alloc (.cells #[.int .i64 xk, .int .i64 xn] 29)).cell? ⟨w7.heap.size, 0, none⟩ = some (.int .i64 xk) := HH.out.cell 0
        have k1 : (w7.alloc (.cells #[.int .i64 xk, .int .i64 xn] 29)).cell? ⟨w7.heap.size, 1, none⟩ = some (.int .i64 xn) := HH.out.cell 1
        generalize w7.alloc (.cells #[.int .i64 xk, .int .i64 xn] 29) = w8 at *
        go_wp2_with fail
        refine (cst_depth H7.out).mono ?_
        rintro r w9 ⟨rfl, rfl⟩
        go_wp2_with fail
        refine (cst_locals H7.out (1 + u)).mono ?_
        rintro r w9 ⟨rfl, h9⟩
        have H9 := hide h9
        clear h9 H7 x0 x1 y0 y1 k0 k1
        obtain ⟨x0, x1, y0, y1⟩ := HX.out _ H9.out.bel
        go_wp2_with fail
        refine (cst_set H9.out (2 + v) HO.out.1 (fun h => HO.out.2 h.1) yk yn).mono ?_
        rintro r w10 ⟨rfl, h10⟩
        have HE := hide (HB1.out.trans (h10.bel.mono HB1.out.size))
        clear h10 H9 x0 x1 y0 y1
        go_wp2
        go_ret
        exact ⟨rfl, HE.out⟩
end Go.Proofs.Ytempnakdpmmmoaa
