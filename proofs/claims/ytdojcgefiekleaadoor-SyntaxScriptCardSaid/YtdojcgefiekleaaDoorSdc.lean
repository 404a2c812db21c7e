/- Over of a table: the walk, where the range is in the text. No condition but those written. -/
import Derived.Test.YtdojcgefiekleaaDoorSdb
namespace Go.Proofs.YtdojcgefiekleaaDoor
open Go.RowKit

def overE (R : Option Sta) : Int × Option Sta := match R with | none => (12, none) | some S' => (0, some S')
theorem OSt.begin {w w1 w2 w4 : World} {L : List Nat} {A : Option Addr} {c : Nat} {S : Sta} {ov v4 : Value} {i : Int} (hb0 : Below w.heap.size w w1) (hf0 : Blk w1 w.heap.size 50 (staC ov S)) (hf1 : Blk w1 (w.heap.size + 1) 50 stZ) (hsz : w1.heap.size = w.heap.size + 2) (hb2 : Below w1.heap.size w1 w2)
    (hsl : Sl w2 3 1 (.slice A L.length c) L.length (ints L)) (ho : ∀ g, (Value.slice A L.length c).ownBlock = some g → w1.heap.size ≤ g)
    (hs4 : Sl w4 3 1 v4 S.opens.length (zints S.opens)) (ho4 : ∀ g, v4.ownBlock = some g → (w2.alloc (.cells #[.slice A L.length c] 24)).heap.size ≤ g) (hb4 : Below (w2.alloc (.cells #[.slice A L.length c] 24)).heap.size (w2.alloc (.cells #[.slice A L.length c] 24)) w4) :
    OSt w (((w4.setCell ⟨w.heap.size, 0, none⟩ v4).alloc (.cells #[.int .i64 i] 3)).alloc (.cells (fnC w.heap.size w4.heap.size w2.heap.size) 79)) w2.heap.size w4.heap.size (w4.heap.size + 1) (.slice A L.length c) L i v4 S := by
  have z2 := hb2.size
  have z4 := hb4.size
  rw [World.size_alloc] at z4
  have hB2 := hb0.trans (hb2.mono hb0.size)
  have hB4 := (hB2.alloc hB2.size (.cells #[.slice A L.length c] 24)).trans (hb4.mono (by rw [World.size_alloc]; omega))
  have k0 := ((hf0.below hb2 hf0.lt).alloc (.cells #[.slice A L.length c] 24)).below hb4 (by rw [World.size_alloc]; omega)
  have k1 := ((hf1.below hb2 hf1.lt).alloc (.cells #[.slice A L.length c] 24)).below hb4 (by rw [World.size_alloc]; omega)
  have k2 := (Blk.new w2 24 #[.slice A L.length c]).below hb4 (by rw [World.size_alloc]; omega)
  have hr := (hsl.alloc (.cells #[.slice A L.length c] 24)).only (Only.of_below (F := fun _ => False) hb4) fun _ _ f => f
  have hn1 : (Value.slice A L.length c).ownBlock ≠ some w.heap.size := fun e => by have := ho _ e; omega
  have hn4 : v4.ownBlock ≠ some w.heap.size := fun e => by have := ho4 _ e; rw [World.size_alloc] at this; omega
  have j1 := Blk.new (w4.setCell ⟨w.heap.size, 0, none⟩ v4) 3 #[.int .i64 i]
  have j2 := Blk.new ((w4.setCell ⟨w.heap.size, 0, none⟩ v4).alloc (.cells #[.int .i64 i] 3)) 79 (fnC w.heap.size w4.heap.size w2.heap.size)
  have zs : (w4.setCell ⟨w.heap.size, 0, none⟩ v4).heap.size = w4.heap.size := by simp
  rw [World.size_alloc, zs] at j2
  rw [zs] at j1
  refine ⟨((hB4.setCell (Nat.le_refl _) _).alloc (by rw [zs]; omega) _).alloc (by rw [World.size_alloc, zs]; omega) _, ((k0.set_ 0 v4).alloc _).alloc _, ((k1.far (by simp) _).alloc _).alloc _, ((k2.far (by simp only []; omega) _).alloc _).alloc _, j1.alloc _, j2, ((hr.far hn1 _).alloc _).alloc _, ((hs4.far hn4 _).alloc _).alloc _, by omega, by omega, by omega, fun k hk => ⟨by have := ho k hk; omega, hsl.lt k hk⟩, fun k hk => ⟨by have := ho4 k hk; rw [World.size_alloc] at this; omega, by have := hs4.lt k hk; omega⟩⟩
theorem fnil_neq (w : World) : (binOp .neq 1 .nilFunc .nilFunc).run Tryd.prog w = .ok (.bool false) w := by kernel_rfl
theorem ffun_neq (n : Nat) (cs : Array Value) (w : World) : (binOp .neq 1 (.func (.func n) #[] cs) .nilFunc).run Tryd.prog w = .ok (.bool true) w := by kernel_rfl
theorem up1_range {x : Int} (h : -9223372036854775808 ≤ x ∧ x ≤ 9223372036854775807) : -9223372036854775808 ≤ up1 x ∧ up1 x ≤ 9223372036854775807 := by
  unfold up1
  split <;> omega
theorem OSt.drewN {w0 w : World} {ch ix fb : Nat} {v sv : Value} {L : List Nat} {j : Int} {S : Sta} (h : OSt w0 w ch ix fb v L j sv S) (n : Nat) : OSt w0 (w.drewN n) ch ix fb v L j sv S := h.below (below_drewN (Below.refl _ _) n)
theorem OSt.nform {w0 w : World} {ch ix fb : Nat} {v sv : Value} {L : List Nat} {j : Int} {S : Sta} (h : OSt w0 w ch ix fb v L j sv S) : ∃ A c n, sv = .slice A n c ∧ n = S.opens.length := by
  obtain ⟨A, c, e, _⟩ := h.op.form
  exact ⟨A, c, _, e, rfl⟩
theorem OSt.boxN {w0 w : World} {ch ix fb : Nat} {v sv : Value} {L : List Nat} {j : Int} {S : Sta} (h : OSt w0 w ch ix fb v L j sv S) : boxN w ix = j.toNat := by
  unfold Proofs.YtdojcgefiekleaaDoor.boxN
  rw [h.cx]
  rfl
section
variable {w : World} {p : TL} {T : Tb}
set_option maxRecDepth 100000 in
set_option maxHeartbeats 8000000 in
theorem over_ok (h : TabAt w p T) (s : ByteArray) (hs : s.size ≤ 1000000000000) (hT : Tabs w) {L : List Nat} (hc : charsL s.data.toList = some L) (i0 e0 : Nat) (hi0 : i0 ≤ e0) (he0 : e0 ≤ L.length) (ov : Value) (S : Sta) (hov : Rd w ov 1 S.opens.length (zints S.opens)) (hol : S.opens.length ≤ 1000) (hu : -9223372036854775808 ≤ S.under ∧ S.under ≤ 9223372036854775807) : Calls Tryd.prog 25 #[.pointer (some ⟨p.t, 0, none⟩), .string s, .int .i64 (i0 : Int), .int .i64 (e0 : Int), .agg #[ov, .int .i64 S.under, .int .i64 S.inn, .bool S.comment, .int .i64 S.start, .bool S.quoted]] w (OverRes (overR T s (i0 : Int) (e0 : Int) S) w) := by
  obtain ⟨oA, oC, rfl⟩ : ∃ A c, ov = .slice A S.opens.length c := by
    obtain ⟨A, c, h1, _⟩ := hov
    exact ⟨A, c, h1⟩
  have hb0 : Below w.heap.size w ((w.alloc (.cells (staC (.slice oA S.opens.length oC) S) 50)).alloc (.cells stZ 50)) := ((Below.refl _ w).alloc (Nat.le_refl _) _).alloc (by simp) _
  have hT1 := hT.below hb0
  have h1 := h.below hb0
  have hf0 := (Blk.new w 50 (staC (.slice oA S.opens.length oC) S)).alloc (.cells stZ 50)
  have hf1 : Blk ((w.alloc (.cells (staC (.slice oA S.opens.length oC) S) 50)).alloc (.cells stZ 50)) (w.heap.size + 1) 50 stZ := by
    have := Blk.new (w.alloc (.cells (staC (.slice oA S.opens.length oC) S) 50)) 50 stZ
    rwa [World.size_alloc] at this
  have hsz : ((w.alloc (.cells (staC (.slice oA S.opens.length oC) S) 50)).alloc (.cells stZ 50)).heap.size = w.heap.size + 2 := by simp
  obtain ⟨w1, hw1⟩ : ∃ w1, w1 = ((w.alloc (.cells (staC (.slice oA S.opens.length oC) S) 50)).alloc (.cells stZ 50)) := ⟨_, rfl⟩
  rw [← hw1] at hb0 hT1 h1 hf0 hf1 hsz
  have HW := hide hw1
  unfold staC stZ at HW
  have HB0 := hide hb0
  have HF0 := hide hf0
  have HF1 := hide hf1
  have HSZ := hide hsz
  have hL1 : L.length ≤ s.size := chars_le _ _ hc
  have hl : L.length ≤ 1000000000000 := by omega
  have hl2 : (L.length : Int) ≤ 1000000000000 := by omega
  have HCH := hide (chars_some h1 s (by omega) hT1 hc)
  obtain ⟨R, hR⟩ : ∃ R, overN T L (e0 - i0) i0 S = R := ⟨_, rfl⟩
  have HR := hide (show overR T s (i0 : Int) (e0 : Int) S = overE R from by
    rw [← hR]
    unfold overR overE
    rw [hc]
    simp only []
    rw [if_neg (by omega), show ((e0 : Int) - (i0 : Int)).toNat = e0 - i0 by omega, Int.toNat_natCast]
    cases overN T L (e0 - i0) i0 S <;> rfl)
  rw [HR.out]
  have HRR := hide hR
  have HT := hide h
  have HOV := hide (fun W (hW : Below w.heap.size w W) => clone_ints (.slice oA S.opens.length oC) S.opens.length (zints S.opens) W (hov.belowN hW) (zints_one _) (by omega))
  have q1 : decide ((i0 : Int) < 0) = false := by simp
  have q2 : decide ((e0 : Int) < (i0 : Int)) = false := by simp; omega
  have q3 : decide ((L.length : Int) < (e0 : Int)) = false := by simp; omega
  have q4 : decide (e0 < i0) = false := by simp; omega
  have q5 : decide (L.length < e0) = false := by simp; omega
  have HI0 := hide hi0
  have HE0 := hide he0
  have HOL := hide hol
  have HU := hide hu
  have s0 := hf0.cell 0
  obtain ⟨on, hon⟩ : ∃ on, on = S.opens.length := ⟨_, rfl⟩
  have HON := hide hon
  clear h h1 hT hT1 hb0 hf1 hsz hc hR hi0 he0 hov hol hu hf0 s0 hon hw1
  go_enter Tryd.func25, Tryd.ntmps25
  go_wp2_with (first | (go_at_call 43; (try rw [← HW.out]); (with_reducible refine Calls.mono HCH.out ?_); rintro r w2 ⟨A, c, rfl, hlc, hb2, hsl, hown⟩; have HC2 := hide (And.intro hb2 (And.intro hsl hown)); have HB2 := hide ((HB0.out.trans (hb2.mono HB0.out.size)).alloc (HB0.out.trans (hb2.mono HB0.out.size)).size (.cells #[.slice A L.length c] 24)); have k0 : (w2.alloc (.cells #[.slice A L.length c] 24)).cell? ⟨w.heap.size, 0, none⟩ = some (.slice oA S.opens.length oC) := (((HF0.out.below hb2 HF0.out.lt).alloc (.cells #[.slice A L.length c] 24)).cell 0).trans rfl; have t2 := (Blk.new w2 24 #[.slice A L.length c]).cell 0; clear hb2 hsl hown) | (go_at_call 53; (with_reducible refine Calls.mono (HOV.out _ HB2.out) ?_); rintro r w4 ⟨v4, rfl, hs4, ho4, hb4⟩; have HC4 := hide (And.intro hs4 (And.intro ho4 hb4)); have HK4 := hide (((HF0.out.below HC2.out.1 HF0.out.lt).alloc (.cells #[.slice A L.length c] 24)).below hb4 (lt_of_heap ((HF0.out.below HC2.out.1 HF0.out.lt).alloc (.cells #[.slice A L.length c] 24)))); have k4 : w4.cell? ⟨w.heap.size, 0, none⟩ = some (.slice oA S.opens.length oC) := (HK4.out.cell 0).trans rfl; have k5 := HK4.out.frozen 0; obtain ⟨A4, c4, rfl, -⟩ := hs4.form; clear hs4 ho4 hb4))
  have HX := hide (OSt.begin (i := (i0 : Int)) HB0.out HF0.out HF1.out HSZ.out HC2.out.1 HC2.out.2.1 HC2.out.2.2 HC4.out.1 HC4.out.2.1 HC4.out.2.2)
  go_loopw [] (fun wr => ∃ (j : Nat) (sv : Value) (S' : Sta), j ≤ e0 ∧ S'.opens.length ≤ 1000 ∧ (-9223372036854775808 ≤ S'.under ∧ S'.under ≤ 9223372036854775807) ∧ overN T L (e0 - j) j S' = R ∧ OSt w wr w2.heap.size w4.heap.size (w4.heap.size + 1) (.slice A L.length c) L (j : Int) sv S') (fun wr => e0 - boxN wr w4.heap.size)
  case atStart => exact ⟨i0, .slice A4 S.opens.length c4, S, HI0.out, HOL.out, HU.out, HRR.out, HX.out⟩
  case round =>
    obtain ⟨j, sv, ⟨op, un, inn, cm, st, qu⟩, hj, hol, hu, he, hx⟩ := hrel
    dsimp only at hol hu
    have HA := hide hx
    have HE := hide he
    obtain ⟨As, cs, rfl, -⟩ := hx.op.form
    have cx0 := hx.cx
    have cv0 := hx.cv
    clear he hx
    have hj2 : (j : Int) ≤ 1000000000000 := by have := HE0.out; omega
    have hol2 : (op.length : Int) ≤ 1000 := by omega
    by_cases hl : j < e0
    · have hjl : j < L.length := by have := HE0.out; omega
      obtain ⟨bb, off, c', hv, -⟩ := HA.out.row.at_ (by omega)
      injection hv with g1 _ g3
      subst g1 g3
      obtain ⟨cj, hcj⟩ : ∃ cj : Int, cj = ((L.getD j 0 : Nat) : Int) := ⟨_, rfl⟩
      have HCJ := hide hcj
      have HDC := hide (show ∀ W, Below wr.heap.size wr W → W.cell? ⟨bb, off + j, none⟩ = some (.int .i64 cj) from fun W hW => (HA.out.below hW).row.cellI (by rw [hcj]; simp [ints, List.getD, List.getElem?_eq_getElem hjl]))
      have d0 := HDC.out _ (Below.refl _ _)
      have HCL := hide (class_any (HT.out.below HA.out.bel) cj)
      rw [hcj, show T.cl ((L.getD j 0 : Nat) : Int) = T.at_ L j from rfl, ← hcj] at HCL
      clear hcj
      have y1 : decide ((j : Int) < (e0 : Int)) = true := by simp; omega
      have y2 : decide ((j : Int) < (L.length : Int)) = true := by simp; omega
      have y3 : (j : Int) < (L.length : Int) := by omega
      have HM := hide (show e0 - j = (e0 - (j + 1)) + 1 from by omega)
      have hrng := at_range (L := L) HT.out.ok j
      obtain ⟨k, hk⟩ : ∃ k, T.at_ L j = k := ⟨_, rfl⟩
      have HK := hide hk
      rw [hk] at HCL hrng
      clear hk
      cases qu with
      | true =>
        have hstep : (⟨op, un, inn, cm, st, true⟩ : Sta).step T (L.getD j 0) j = (⟨op, un, inn, cm, st, false⟩ : Sta) := by
          unfold Sta.step
          rfl
        by_cases hd : 200 < op.length
        · have r1 : decide ((200 : Int) < (op.length : Int)) = true := by simp; omega
          have hE := HE.out
          rw [HM.out, overN_stop hstep hd] at hE
          have HEN := hide hE
          clear hE hstep
          go_wp2_with (first | (go_at_call 16; (with_reducible refine Calls.mono HCL.out ?_); rintro r w5 ⟨rfl, hb5⟩; have HB := hide (HA.out.below hb5); have c0 := HB.out.s0; have c1 := HB.out.s1; have c2 := HB.out.s2; have c3 := HB.out.s3; have c4 := HB.out.s4; have c5 := HB.out.s5; have f2 := HB.out.fz 2; have f3 := HB.out.fz 3; have f4 := HB.out.fz 4; have f5 := HB.out.fz 5; have cx := HB.out.cx; have fx := HB.out.fx; have cv := HB.out.cv; have d1 := HDC.out _ hb5; have HF := hide (HB.out.quoted false); have e0_ := HF.out.s0; have ex := HF.out.cx; have ef := HF.out.fx; obtain ⟨z0, z1, z2, z3, z4, z5, z6, z7, z8, z9, z10, z11⟩ := HF.out.res.zero; clear hb5))
          refine bodyPost_ret (results_cell_tmp2 rfl _ _ (w.heap.size + 1) 50 _ (0, 0) _ rfl (HF.out.res.row6 _ _ _ _ _ _) Tryd.underlying50 rfl (by kernel_rfl)) rfl ?_
          rw [← HEN.out]
          exact ⟨below6 HF.out.bel (by omega) _ _ _ _ _ _, rfl⟩
        · have r1 : decide ((200 : Int) < (op.length : Int)) = false := by simp; omega
          have hE := HE.out
          rw [HM.out, overN_go hstep hd] at hE
          have HEN := hide hE
          clear hE hstep
          go_wp2_with (first | (go_at_call 16; (with_reducible refine Calls.mono HCL.out ?_); rintro r w5 ⟨rfl, hb5⟩; have HB := hide (HA.out.below hb5); have c0 := HB.out.s0; have c1 := HB.out.s1; have c2 := HB.out.s2; have c3 := HB.out.s3; have c4 := HB.out.s4; have c5 := HB.out.s5; have f2 := HB.out.fz 2; have f3 := HB.out.fz 3; have f4 := HB.out.fz 4; have f5 := HB.out.fz 5; have cx := HB.out.cx; have fx := HB.out.fx; have cv := HB.out.cv; have d1 := HDC.out _ hb5; have HF := hide (HB.out.quoted false); have e0_ := HF.out.s0; have ex := HF.out.cx; have ef := HF.out.fx; obtain ⟨z0, z1, z2, z3, z4, z5, z6, z7, z8, z9, z10, z11⟩ := HF.out.res.zero; clear hb5))
          refine ⟨⟨j + 1, _, (⟨op, un, inn, cm, st, false⟩ : Sta), hl, by simp only []; omega, hu, HEN.out, by have := HF.out.ix_ ((j : Int) + 1); exact this⟩, ?_⟩
          rw [(HF.out.ix_ ((j : Int) + 1)).boxN, HA.out.boxN]
          omega
      | false =>
        by_cases hi : inn = 0
        · subst hi
          cases cm with
          | true =>
            by_cases k9 : k = 9
            · subst k9
              have hstep : (⟨op, un, 0, true, st, false⟩ : Sta).step T (L.getD j 0) j = (⟨op, un, 0, false, 0, false⟩ : Sta) := by
                unfold Sta.step
                have hk := HK.out
                have hc := HCJ.out
                unfold Tb.at_ at hk
                generalize L.getD j 0 = cc at hk hc ⊢
                simp [hk]
              by_cases hd : 200 < op.length
              · have r1 : decide ((200 : Int) < (op.length : Int)) = true := by simp; omega
                have hE := HE.out
                rw [HM.out, overN_stop hstep hd] at hE
                have HEN := hide hE
                clear hE hstep
                go_wp2_with (first | (go_at_call 16; (with_reducible refine Calls.mono HCL.out ?_); rintro r w5 ⟨rfl, hb5⟩; have HB := hide (HA.out.below hb5); have c0 := HB.out.s0; have c1 := HB.out.s1; have c2 := HB.out.s2; have c3 := HB.out.s3; have c4 := HB.out.s4; have c5 := HB.out.s5; have f2 := HB.out.fz 2; have f3 := HB.out.fz 3; have f4 := HB.out.fz 4; have f5 := HB.out.fz 5; have cx := HB.out.cx; have fx := HB.out.fx; have cv := HB.out.cv; have d1 := HDC.out _ hb5; have HF := hide ((HB.out.comment false).start 0); have e0_ := HF.out.s0; have ex := HF.out.cx; have ef := HF.out.fx; obtain ⟨z0, z1, z2, z3, z4, z5, z6, z7, z8, z9, z10, z11⟩ := HF.out.res.zero; clear hb5))
                refine bodyPost_ret (results_cell_tmp2 rfl _ _ (w.heap.size + 1) 50 _ (0, 0) _ rfl (HF.out.res.row6 _ _ _ _ _ _) Tryd.underlying50 rfl (by kernel_rfl)) rfl ?_
                rw [← HEN.out]
                exact ⟨below6 HF.out.bel (by omega) _ _ _ _ _ _, rfl⟩
              · have r1 : decide ((200 : Int) < (op.length : Int)) = false := by simp; omega
                have hE := HE.out
                rw [HM.out, overN_go hstep hd] at hE
                have HEN := hide hE
                clear hE hstep
                go_wp2_with (first | (go_at_call 16; (with_reducible refine Calls.mono HCL.out ?_); rintro r w5 ⟨rfl, hb5⟩; have HB := hide (HA.out.below hb5); have c0 := HB.out.s0; have c1 := HB.out.s1; have c2 := HB.out.s2; have c3 := HB.out.s3; have c4 := HB.out.s4; have c5 := HB.out.s5; have f2 := HB.out.fz 2; have f3 := HB.out.fz 3; have f4 := HB.out.fz 4; have f5 := HB.out.fz 5; have cx := HB.out.cx; have fx := HB.out.fx; have cv := HB.out.cv; have d1 := HDC.out _ hb5; have HF := hide ((HB.out.comment false).start 0); have e0_ := HF.out.s0; have ex := HF.out.cx; have ef := HF.out.fx; obtain ⟨z0, z1, z2, z3, z4, z5, z6, z7, z8, z9, z10, z11⟩ := HF.out.res.zero; clear hb5))
                refine ⟨⟨j + 1, _, (⟨op, un, 0, false, 0, false⟩ : Sta), hl, by simp only []; omega, hu, HEN.out, by have := HF.out.ix_ ((j : Int) + 1); exact this⟩, ?_⟩
                rw [(HF.out.ix_ ((j : Int) + 1)).boxN, HA.out.boxN]
                omega
            · have k9b : (k == 9) = false := by simpa using k9
              have hstep : (⟨op, un, 0, true, st, false⟩ : Sta).step T (L.getD j 0) j = (⟨op, un, 0, true, st, false⟩ : Sta) := by
                unfold Sta.step
                have hk := HK.out
                have hc := HCJ.out
                unfold Tb.at_ at hk
                generalize L.getD j 0 = cc at hk hc ⊢
                simp [hk, k9]
              by_cases hd : 200 < op.length
              · have r1 : decide ((200 : Int) < (op.length : Int)) = true := by simp; omega
                have hE := HE.out
                rw [HM.out, overN_stop hstep hd] at hE
                have HEN := hide hE
                clear hE hstep
                go_wp2_with (first | (go_at_call 16; (with_reducible refine Calls.mono HCL.out ?_); rintro r w5 ⟨rfl, hb5⟩; have HB := hide (HA.out.below hb5); have c0 := HB.out.s0; have c1 := HB.out.s1; have c2 := HB.out.s2; have c3 := HB.out.s3; have c4 := HB.out.s4; have c5 := HB.out.s5; have f2 := HB.out.fz 2; have f3 := HB.out.fz 3; have f4 := HB.out.fz 4; have f5 := HB.out.fz 5; have cx := HB.out.cx; have fx := HB.out.fx; have cv := HB.out.cv; have d1 := HDC.out _ hb5; have HF := hide (HB.out); have e0_ := HF.out.s0; have ex := HF.out.cx; have ef := HF.out.fx; obtain ⟨z0, z1, z2, z3, z4, z5, z6, z7, z8, z9, z10, z11⟩ := HF.out.res.zero; clear hb5))
                refine bodyPost_ret (results_cell_tmp2 rfl _ _ (w.heap.size + 1) 50 _ (0, 0) _ rfl (HF.out.res.row6 _ _ _ _ _ _) Tryd.underlying50 rfl (by kernel_rfl)) rfl ?_
                rw [← HEN.out]
                exact ⟨below6 HF.out.bel (by omega) _ _ _ _ _ _, rfl⟩
              · have r1 : decide ((200 : Int) < (op.length : Int)) = false := by simp; omega
                have hE := HE.out
                rw [HM.out, overN_go hstep hd] at hE
                have HEN := hide hE
                clear hE hstep
                go_wp2_with (first | (go_at_call 16; (with_reducible refine Calls.mono HCL.out ?_); rintro r w5 ⟨rfl, hb5⟩; have HB := hide (HA.out.below hb5); have c0 := HB.out.s0; have c1 := HB.out.s1; have c2 := HB.out.s2; have c3 := HB.out.s3; have c4 := HB.out.s4; have c5 := HB.out.s5; have f2 := HB.out.fz 2; have f3 := HB.out.fz 3; have f4 := HB.out.fz 4; have f5 := HB.out.fz 5; have cx := HB.out.cx; have fx := HB.out.fx; have cv := HB.out.cv; have d1 := HDC.out _ hb5; have HF := hide (HB.out); have e0_ := HF.out.s0; have ex := HF.out.cx; have ef := HF.out.fx; obtain ⟨z0, z1, z2, z3, z4, z5, z6, z7, z8, z9, z10, z11⟩ := HF.out.res.zero; clear hb5))
                refine ⟨⟨j + 1, _, (⟨op, un, 0, true, st, false⟩ : Sta), hl, by simp only []; omega, hu, HEN.out, by have := HF.out.ix_ ((j : Int) + 1); exact this⟩, ?_⟩
                rw [(HF.out.ix_ ((j : Int) + 1)).boxN, HA.out.boxN]
                omega
          | false =>
            have hks : k = 0 ∨ k = 1 ∨ k = 2 ∨ k = 3 ∨ k = 4 ∨ k = 5 ∨ k = 6 ∨ k = 7 ∨ k = 8 ∨ k = 9 ∨ k = 10 := by omega
            have hnil := fnil_neq
            have hfun := ffun_neq
            clear hrng
            rcases hks with rfl | rfl | rfl | rfl | rfl | rfl | rfl | rfl | rfl | rfl | rfl
            · have hstep : (⟨op, un, 0, false, st, false⟩ : Sta).step T (L.getD j 0) j = (⟨op, un, 0, false, st, false⟩ : Sta) := by
                unfold Sta.step
                have hk := HK.out
                have hc := HCJ.out
                unfold Tb.at_ at hk
                generalize L.getD j 0 = cc at hk hc ⊢
                simp [hk]
              by_cases hd : 200 < (op).length
              · have hE := HE.out
                rw [HM.out, overN_stop hstep hd] at hE
                have HEN := hide hE
                clear hE hstep
                go_wp2_with (first | (go_at_call 16; (with_reducible refine Calls.mono HCL.out ?_); rintro r w5 ⟨rfl, hb5⟩; have HB := hide (HA.out.below hb5); have c0 := HB.out.s0; have c1 := HB.out.s1; have c2 := HB.out.s2; have c3 := HB.out.s3; have c4 := HB.out.s4; have c5 := HB.out.s5; have f2 := HB.out.fz 2; have f3 := HB.out.fz 3; have f4 := HB.out.fz 4; have f5 := HB.out.fz 5; have cx := HB.out.cx; have fx := HB.out.fx; have cv := HB.out.cv; have d1 := HDC.out _ hb5; have fk : w5.cell? ⟨w4.heap.size + 1, 0, none⟩ = some (.func (.func 54) #[] #[]) := (HB.out.fn.cell 0).trans rfl; clear hb5) | (go_at_call 54; (with_reducible refine Calls.mono (over1_any HB.out) ?_); rintro r w6 ⟨rfl, sv6, h6⟩; obtain ⟨A6, c6, n6, rfl, hn6⟩ := OSt.nform h6; have r1 : decide ((200 : Int) < (n6 : Int)) = true := (by rw [hn6]; dsimp only; simp at hd ⊢; omega); have HF := hide h6; have e0_ := HF.out.s0; have ex := HF.out.cx; have ef := HF.out.fx; obtain ⟨z0, z1, z2, z3, z4, z5, z6, z7, z8, z9, z10, z11⟩ := HF.out.res.zero; clear h6 hn6))
                refine bodyPost_ret (results_cell_tmp2 rfl _ _ (w.heap.size + 1) 50 _ (0, 0) _ rfl (HF.out.res.row6 _ _ _ _ _ _) Tryd.underlying50 rfl (by kernel_rfl)) rfl ?_
                rw [← HEN.out]
                exact ⟨below6 HF.out.bel (by omega) _ _ _ _ _ _, rfl⟩
              · have hE := HE.out
                rw [HM.out, overN_go hstep hd] at hE
                have HEN := hide hE
                clear hE hstep
                go_wp2_with (first | (go_at_call 16; (with_reducible refine Calls.mono HCL.out ?_); rintro r w5 ⟨rfl, hb5⟩; have HB := hide (HA.out.below hb5); have c0 := HB.out.s0; have c1 := HB.out.s1; have c2 := HB.out.s2; have c3 := HB.out.s3; have c4 := HB.out.s4; have c5 := HB.out.s5; have f2 := HB.out.fz 2; have f3 := HB.out.fz 3; have f4 := HB.out.fz 4; have f5 := HB.out.fz 5; have cx := HB.out.cx; have fx := HB.out.fx; have cv := HB.out.cv; have d1 := HDC.out _ hb5; have fk : w5.cell? ⟨w4.heap.size + 1, 0, none⟩ = some (.func (.func 54) #[] #[]) := (HB.out.fn.cell 0).trans rfl; clear hb5) | (go_at_call 54; (with_reducible refine Calls.mono (over1_any HB.out) ?_); rintro r w6 ⟨rfl, sv6, h6⟩; obtain ⟨A6, c6, n6, rfl, hn6⟩ := OSt.nform h6; have r1 : decide ((200 : Int) < (n6 : Int)) = false := (by rw [hn6]; dsimp only; simp at hd ⊢; omega); have HF := hide h6; have e0_ := HF.out.s0; have ex := HF.out.cx; have ef := HF.out.fx; obtain ⟨z0, z1, z2, z3, z4, z5, z6, z7, z8, z9, z10, z11⟩ := HF.out.res.zero; clear h6 hn6))
                refine ⟨⟨j + 1, _, (⟨op, un, 0, false, st, false⟩ : Sta), hl, by simp only [] at hd ⊢; omega, hu, HEN.out, by have := HF.out.ix_ ((j : Int) + 1); exact this⟩, ?_⟩
                rw [(HF.out.ix_ ((j : Int) + 1)).boxN, HA.out.boxN]
                omega
            · have hstep : (⟨op, un, 0, false, st, false⟩ : Sta).step T (L.getD j 0) j = (⟨op, un, 0, false, st, false⟩ : Sta) := by
                unfold Sta.step
                have hk := HK.out
                have hc := HCJ.out
                unfold Tb.at_ at hk
                generalize L.getD j 0 = cc at hk hc ⊢
                simp [hk]
              by_cases hd : 200 < op.length
              · have r1 : decide ((200 : Int) < (op.length : Int)) = true := by simp; omega
                have hE := HE.out
                rw [HM.out, overN_stop hstep hd] at hE
                have HEN := hide hE
                clear hE hstep
                go_wp2_with (first | (go_at_call 16; (with_reducible refine Calls.mono HCL.out ?_); rintro r w5 ⟨rfl, hb5⟩; have HB := hide (HA.out.below hb5); have c0 := HB.out.s0; have c1 := HB.out.s1; have c2 := HB.out.s2; have c3 := HB.out.s3; have c4 := HB.out.s4; have c5 := HB.out.s5; have f2 := HB.out.fz 2; have f3 := HB.out.fz 3; have f4 := HB.out.fz 4; have f5 := HB.out.fz 5; have cx := HB.out.cx; have fx := HB.out.fx; have cv := HB.out.cv; have d1 := HDC.out _ hb5; have fk : w5.cell? ⟨w4.heap.size + 1, 1, none⟩ = some (.nilFunc) := (HB.out.fn.cell 1).trans rfl; have HF := hide (HB.out); have e0_ := HF.out.s0; have ex := HF.out.cx; have ef := HF.out.fx; obtain ⟨z0, z1, z2, z3, z4, z5, z6, z7, z8, z9, z10, z11⟩ := HF.out.res.zero; clear hb5))
                refine bodyPost_ret (results_cell_tmp2 rfl _ _ (w.heap.size + 1) 50 _ (0, 0) _ rfl (HF.out.res.row6 _ _ _ _ _ _) Tryd.underlying50 rfl (by kernel_rfl)) rfl ?_
                rw [← HEN.out]
                exact ⟨below6 HF.out.bel (by omega) _ _ _ _ _ _, rfl⟩
              · have r1 : decide ((200 : Int) < (op.length : Int)) = false := by simp; omega
                have hE := HE.out
                rw [HM.out, overN_go hstep hd] at hE
                have HEN := hide hE
                clear hE hstep
                go_wp2_with (first | (go_at_call 16; (with_reducible refine Calls.mono HCL.out ?_); rintro r w5 ⟨rfl, hb5⟩; have HB := hide (HA.out.below hb5); have c0 := HB.out.s0; have c1 := HB.out.s1; have c2 := HB.out.s2; have c3 := HB.out.s3; have c4 := HB.out.s4; have c5 := HB.out.s5; have f2 := HB.out.fz 2; have f3 := HB.out.fz 3; have f4 := HB.out.fz 4; have f5 := HB.out.fz 5; have cx := HB.out.cx; have fx := HB.out.fx; have cv := HB.out.cv; have d1 := HDC.out _ hb5; have fk : w5.cell? ⟨w4.heap.size + 1, 1, none⟩ = some (.nilFunc) := (HB.out.fn.cell 1).trans rfl; have HF := hide (HB.out); have e0_ := HF.out.s0; have ex := HF.out.cx; have ef := HF.out.fx; obtain ⟨z0, z1, z2, z3, z4, z5, z6, z7, z8, z9, z10, z11⟩ := HF.out.res.zero; clear hb5))
                refine ⟨⟨j + 1, _, (⟨op, un, 0, false, st, false⟩ : Sta), hl, by simp only []; omega, hu, HEN.out, by have := HF.out.ix_ ((j : Int) + 1); exact this⟩, ?_⟩
                rw [(HF.out.ix_ ((j : Int) + 1)).boxN, HA.out.boxN]
                omega
            · have hstep : (⟨op, un, 0, false, st, false⟩ : Sta).step T (L.getD j 0) j = (⟨op, un, 0, false, st, false⟩ : Sta) := by
                unfold Sta.step
                have hk := HK.out
                have hc := HCJ.out
                unfold Tb.at_ at hk
                generalize L.getD j 0 = cc at hk hc ⊢
                simp [hk]
              by_cases hd : 200 < op.length
              · have r1 : decide ((200 : Int) < (op.length : Int)) = true := by simp; omega
                have hE := HE.out
                rw [HM.out, overN_stop hstep hd] at hE
                have HEN := hide hE
                clear hE hstep
                go_wp2_with (first | (go_at_call 16; (with_reducible refine Calls.mono HCL.out ?_); rintro r w5 ⟨rfl, hb5⟩; have HB := hide (HA.out.below hb5); have c0 := HB.out.s0; have c1 := HB.out.s1; have c2 := HB.out.s2; have c3 := HB.out.s3; have c4 := HB.out.s4; have c5 := HB.out.s5; have f2 := HB.out.fz 2; have f3 := HB.out.fz 3; have f4 := HB.out.fz 4; have f5 := HB.out.fz 5; have cx := HB.out.cx; have fx := HB.out.fx; have cv := HB.out.cv; have d1 := HDC.out _ hb5; have fk : w5.cell? ⟨w4.heap.size + 1, 2, none⟩ = some (.nilFunc) := (HB.out.fn.cell 2).trans rfl; have HF := hide (HB.out); have e0_ := HF.out.s0; have ex := HF.out.cx; have ef := HF.out.fx; obtain ⟨z0, z1, z2, z3, z4, z5, z6, z7, z8, z9, z10, z11⟩ := HF.out.res.zero; clear hb5))
                refine bodyPost_ret (results_cell_tmp2 rfl _ _ (w.heap.size + 1) 50 _ (0, 0) _ rfl (HF.out.res.row6 _ _ _ _ _ _) Tryd.underlying50 rfl (by kernel_rfl)) rfl ?_
                rw [← HEN.out]
                exact ⟨below6 HF.out.bel (by omega) _ _ _ _ _ _, rfl⟩
              · have r1 : decide ((200 : Int) < (op.length : Int)) = false := by simp; omega
                have hE := HE.out
                rw [HM.out, overN_go hstep hd] at hE
                have HEN := hide hE
                clear hE hstep
                go_wp2_with (first | (go_at_call 16; (with_reducible refine Calls.mono HCL.out ?_); rintro r w5 ⟨rfl, hb5⟩; have HB := hide (HA.out.below hb5); have c0 := HB.out.s0; have c1 := HB.out.s1; have c2 := HB.out.s2; have c3 := HB.out.s3; have c4 := HB.out.s4; have c5 := HB.out.s5; have f2 := HB.out.fz 2; have f3 := HB.out.fz 3; have f4 := HB.out.fz 4; have f5 := HB.out.fz 5; have cx := HB.out.cx; have fx := HB.out.fx; have cv := HB.out.cv; have d1 := HDC.out _ hb5; have fk : w5.cell? ⟨w4.heap.size + 1, 2, none⟩ = some (.nilFunc) := (HB.out.fn.cell 2).trans rfl; have HF := hide (HB.out); have e0_ := HF.out.s0; have ex := HF.out.cx; have ef := HF.out.fx; obtain ⟨z0, z1, z2, z3, z4, z5, z6, z7, z8, z9, z10, z11⟩ := HF.out.res.zero; clear hb5))
                refine ⟨⟨j + 1, _, (⟨op, un, 0, false, st, false⟩ : Sta), hl, by simp only []; omega, hu, HEN.out, by have := HF.out.ix_ ((j : Int) + 1); exact this⟩, ?_⟩
                rw [(HF.out.ix_ ((j : Int) + 1)).boxN, HA.out.boxN]
                omega
            · have hstep : (⟨op, un, 0, false, st, false⟩ : Sta).step T (L.getD j 0) j = (⟨op, un, 0, false, st, false⟩ : Sta) := by
                unfold Sta.step
                have hk := HK.out
                have hc := HCJ.out
                unfold Tb.at_ at hk
                generalize L.getD j 0 = cc at hk hc ⊢
                simp [hk]
              by_cases hd : 200 < op.length
              · have r1 : decide ((200 : Int) < (op.length : Int)) = true := by simp; omega
                have hE := HE.out
                rw [HM.out, overN_stop hstep hd] at hE
                have HEN := hide hE
                clear hE hstep
                go_wp2_with (first | (go_at_call 16; (with_reducible refine Calls.mono HCL.out ?_); rintro r w5 ⟨rfl, hb5⟩; have HB := hide (HA.out.below hb5); have c0 := HB.out.s0; have c1 := HB.out.s1; have c2 := HB.out.s2; have c3 := HB.out.s3; have c4 := HB.out.s4; have c5 := HB.out.s5; have f2 := HB.out.fz 2; have f3 := HB.out.fz 3; have f4 := HB.out.fz 4; have f5 := HB.out.fz 5; have cx := HB.out.cx; have fx := HB.out.fx; have cv := HB.out.cv; have d1 := HDC.out _ hb5; have fk : w5.cell? ⟨w4.heap.size + 1, 3, none⟩ = some (.nilFunc) := (HB.out.fn.cell 3).trans rfl; have HF := hide (HB.out); have e0_ := HF.out.s0; have ex := HF.out.cx; have ef := HF.out.fx; obtain ⟨z0, z1, z2, z3, z4, z5, z6, z7, z8, z9, z10, z11⟩ := HF.out.res.zero; clear hb5))
                refine bodyPost_ret (results_cell_tmp2 rfl _ _ (w.heap.size + 1) 50 _ (0, 0) _ rfl (HF.out.res.row6 _ _ _ _ _ _) Tryd.underlying50 rfl (by kernel_rfl)) rfl ?_
                rw [← HEN.out]
                exact ⟨below6 HF.out.bel (by omega) _ _ _ _ _ _, rfl⟩
              · have r1 : decide ((200 : Int) < (op.length : Int)) = false := by simp; omega
                have hE := HE.out
                rw [HM.out, overN_go hstep hd] at hE
                have HEN := hide hE
                clear hE hstep
                go_wp2_with (first | (go_at_call 16; (with_reducible refine Calls.mono HCL.out ?_); rintro r w5 ⟨rfl, hb5⟩; have HB := hide (HA.out.below hb5); have c0 := HB.out.s0; have c1 := HB.out.s1; have c2 := HB.out.s2; have c3 := HB.out.s3; have c4 := HB.out.s4; have c5 := HB.out.s5; have f2 := HB.out.fz 2; have f3 := HB.out.fz 3; have f4 := HB.out.fz 4; have f5 := HB.out.fz 5; have cx := HB.out.cx; have fx := HB.out.fx; have cv := HB.out.cv; have d1 := HDC.out _ hb5; have fk : w5.cell? ⟨w4.heap.size + 1, 3, none⟩ = some (.nilFunc) := (HB.out.fn.cell 3).trans rfl; have HF := hide (HB.out); have e0_ := HF.out.s0; have ex := HF.out.cx; have ef := HF.out.fx; obtain ⟨z0, z1, z2, z3, z4, z5, z6, z7, z8, z9, z10, z11⟩ := HF.out.res.zero; clear hb5))
                refine ⟨⟨j + 1, _, (⟨op, un, 0, false, st, false⟩ : Sta), hl, by simp only []; omega, hu, HEN.out, by have := HF.out.ix_ ((j : Int) + 1); exact this⟩, ?_⟩
                rw [(HF.out.ix_ ((j : Int) + 1)).boxN, HA.out.boxN]
                omega
            · have hstep : (⟨op, un, 0, false, st, false⟩ : Sta).step T (L.getD j 0) j = (⟨op ++ [(j : Int)], un, 0, false, st, false⟩ : Sta) := by
                unfold Sta.step
                have hk := HK.out
                have hc := HCJ.out
                unfold Tb.at_ at hk
                generalize L.getD j 0 = cc at hk hc ⊢
                simp [hk]
              by_cases hd : 200 < (op ++ [(j : Int)]).length
              · have hE := HE.out
                rw [HM.out, overN_stop hstep hd] at hE
                have HEN := hide hE
                clear hE hstep
                go_wp2_with (first | (go_at_call 16; (with_reducible refine Calls.mono HCL.out ?_); rintro r w5 ⟨rfl, hb5⟩; have HB := hide (HA.out.below hb5); have c0 := HB.out.s0; have c1 := HB.out.s1; have c2 := HB.out.s2; have c3 := HB.out.s3; have c4 := HB.out.s4; have c5 := HB.out.s5; have f2 := HB.out.fz 2; have f3 := HB.out.fz 3; have f4 := HB.out.fz 4; have f5 := HB.out.fz 5; have cx := HB.out.cx; have fx := HB.out.fx; have cv := HB.out.cv; have d1 := HDC.out _ hb5; have fk : w5.cell? ⟨w4.heap.size + 1, 4, none⟩ = some (.func (.func 58) #[] #[.pointer (some ⟨w.heap.size, 0, none⟩), .pointer (some ⟨w4.heap.size, 0, none⟩)]) := (HB.out.fn.cell 4).trans rfl; clear hb5) | (go_at_call 58; (with_reducible refine Calls.mono (over5_any HB.out (by dsimp only; omega)) ?_); rintro r w6 ⟨rfl, sv6, h6⟩; obtain ⟨A6, c6, n6, rfl, hn6⟩ := OSt.nform h6; have r1 : decide ((200 : Int) < (n6 : Int)) = true := (by rw [hn6]; dsimp only; simp at hd ⊢; omega); have HF := hide h6; have e0_ := HF.out.s0; have ex := HF.out.cx; have ef := HF.out.fx; obtain ⟨z0, z1, z2, z3, z4, z5, z6, z7, z8, z9, z10, z11⟩ := HF.out.res.zero; clear h6 hn6))
                refine bodyPost_ret (results_cell_tmp2 rfl _ _ (w.heap.size + 1) 50 _ (0, 0) _ rfl (HF.out.res.row6 _ _ _ _ _ _) Tryd.underlying50 rfl (by kernel_rfl)) rfl ?_
                rw [← HEN.out]
                exact ⟨below6 HF.out.bel (by omega) _ _ _ _ _ _, rfl⟩
              · have hE := HE.out
                rw [HM.out, overN_go hstep hd] at hE
                have HEN := hide hE
                clear hE hstep
                go_wp2_with (first | (go_at_call 16; (with_reducible refine Calls.mono HCL.out ?_); rintro r w5 ⟨rfl, hb5⟩; have HB := hide (HA.out.below hb5); have c0 := HB.out.s0; have c1 := HB.out.s1; have c2 := HB.out.s2; have c3 := HB.out.s3; have c4 := HB.out.s4; have c5 := HB.out.s5; have f2 := HB.out.fz 2; have f3 := HB.out.fz 3; have f4 := HB.out.fz 4; have f5 := HB.out.fz 5; have cx := HB.out.cx; have fx := HB.out.fx; have cv := HB.out.cv; have d1 := HDC.out _ hb5; have fk : w5.cell? ⟨w4.heap.size + 1, 4, none⟩ = some (.func (.func 58) #[] #[.pointer (some ⟨w.heap.size, 0, none⟩), .pointer (some ⟨w4.heap.size, 0, none⟩)]) := (HB.out.fn.cell 4).trans rfl; clear hb5) | (go_at_call 58; (with_reducible refine Calls.mono (over5_any HB.out (by dsimp only; omega)) ?_); rintro r w6 ⟨rfl, sv6, h6⟩; obtain ⟨A6, c6, n6, rfl, hn6⟩ := OSt.nform h6; have r1 : decide ((200 : Int) < (n6 : Int)) = false := (by rw [hn6]; dsimp only; simp at hd ⊢; omega); have HF := hide h6; have e0_ := HF.out.s0; have ex := HF.out.cx; have ef := HF.out.fx; obtain ⟨z0, z1, z2, z3, z4, z5, z6, z7, z8, z9, z10, z11⟩ := HF.out.res.zero; clear h6 hn6))
                refine ⟨⟨j + 1, _, (⟨op ++ [(j : Int)], un, 0, false, st, false⟩ : Sta), hl, by simp only [] at hd ⊢; omega, hu, HEN.out, by have := HF.out.ix_ ((j : Int) + 1); exact this⟩, ?_⟩
                rw [(HF.out.ix_ ((j : Int) + 1)).boxN, HA.out.boxN]
                omega
            · by_cases hop : op = []
              · have HOP := hide hop
                clear hop
                have hstep : (⟨op, un, 0, false, st, false⟩ : Sta).step T (L.getD j 0) j = (⟨op, up1 un, 0, false, st, false⟩ : Sta) := by
                  unfold Sta.step
                  have hk := HK.out
                  have hc := HCJ.out
                  unfold Tb.at_ at hk
                  generalize L.getD j 0 = cc at hk hc ⊢
                  simp [hk, HOP.out]
                by_cases hd : 200 < (op).length
                · have hE := HE.out
                  rw [HM.out, overN_stop hstep hd] at hE
                  have HEN := hide hE
                  clear hE hstep
                  go_wp2_with (first | (go_at_call 16; (with_reducible refine Calls.mono HCL.out ?_); rintro r w5 ⟨rfl, hb5⟩; have HB := hide (HA.out.below hb5); have c0 := HB.out.s0; have c1 := HB.out.s1; have c2 := HB.out.s2; have c3 := HB.out.s3; have c4 := HB.out.s4; have c5 := HB.out.s5; have f2 := HB.out.fz 2; have f3 := HB.out.fz 3; have f4 := HB.out.fz 4; have f5 := HB.out.fz 5; have cx := HB.out.cx; have fx := HB.out.fx; have cv := HB.out.cv; have d1 := HDC.out _ hb5; have fk : w5.cell? ⟨w4.heap.size + 1, 5, none⟩ = some (.func (.func 59) #[] #[.pointer (some ⟨w.heap.size, 0, none⟩)]) := (HB.out.fn.cell 5).trans rfl; clear hb5) | (go_at_call 59; (with_reducible refine Calls.mono (by have := over6_any HB.out (by dsimp only; omega) hu; rw [if_pos HOP.out] at this; exact this) ?_); rintro r w6 ⟨rfl, sv6, h6⟩; obtain ⟨A6, c6, n6, rfl, hn6⟩ := OSt.nform h6; have r1 : decide ((200 : Int) < (n6 : Int)) = true := (by rw [hn6]; dsimp only; simp at hd ⊢; omega); have HF := hide h6; have e0_ := HF.out.s0; have ex := HF.out.cx; have ef := HF.out.fx; obtain ⟨z0, z1, z2, z3, z4, z5, z6, z7, z8, z9, z10, z11⟩ := HF.out.res.zero; clear h6 hn6))
                  refine bodyPost_ret (results_cell_tmp2 rfl _ _ (w.heap.size + 1) 50 _ (0, 0) _ rfl (HF.out.res.row6 _ _ _ _ _ _) Tryd.underlying50 rfl (by kernel_rfl)) rfl ?_
                  rw [← HEN.out]
                  exact ⟨below6 HF.out.bel (by omega) _ _ _ _ _ _, rfl⟩
                · have hE := HE.out
                  rw [HM.out, overN_go hstep hd] at hE
                  have HEN := hide hE
                  clear hE hstep
                  go_wp2_with (first | (go_at_call 16; (with_reducible refine Calls.mono HCL.out ?_); rintro r w5 ⟨rfl, hb5⟩; have HB := hide (HA.out.below hb5); have c0 := HB.out.s0; have c1 := HB.out.s1; have c2 := HB.out.s2; have c3 := HB.out.s3; have c4 := HB.out.s4; have c5 := HB.out.s5; have f2 := HB.out.fz 2; have f3 := HB.out.fz 3; have f4 := HB.out.fz 4; have f5 := HB.out.fz 5; have cx := HB.out.cx; have fx := HB.out.fx; have cv := HB.out.cv; have d1 := HDC.out _ hb5; have fk : w5.cell? ⟨w4.heap.size + 1, 5, none⟩ = some (.func (.func 59) #[] #[.pointer (some ⟨w.heap.size, 0, none⟩)]) := (HB.out.fn.cell 5).trans rfl; clear hb5) | (go_at_call 59; (with_reducible refine Calls.mono (by have := over6_any HB.out (by dsimp only; omega) hu; rw [if_pos HOP.out] at this; exact this) ?_); rintro r w6 ⟨rfl, sv6, h6⟩; obtain ⟨A6, c6, n6, rfl, hn6⟩ := OSt.nform h6; have r1 : decide ((200 : Int) < (n6 : Int)) = false := (by rw [hn6]; dsimp only; simp at hd ⊢; omega); have HF := hide h6; have e0_ := HF.out.s0; have ex := HF.out.cx; have ef := HF.out.fx; obtain ⟨z0, z1, z2, z3, z4, z5, z6, z7, z8, z9, z10, z11⟩ := HF.out.res.zero; clear h6 hn6))
                  refine ⟨⟨j + 1, _, (⟨op, up1 un, 0, false, st, false⟩ : Sta), hl, by simp only [] at hd ⊢; omega, up1_range hu, HEN.out, by have := HF.out.ix_ ((j : Int) + 1); exact this⟩, ?_⟩
                  rw [(HF.out.ix_ ((j : Int) + 1)).boxN, HA.out.boxN]
                  omega
              · have HOP := hide hop
                clear hop
                have hstep : (⟨op, un, 0, false, st, false⟩ : Sta).step T (L.getD j 0) j = (⟨op.dropLast, un, 0, false, st, false⟩ : Sta) := by
                  unfold Sta.step
                  have hk := HK.out
                  have hc := HCJ.out
                  unfold Tb.at_ at hk
                  generalize L.getD j 0 = cc at hk hc ⊢
                  simp [hk, HOP.out]
                by_cases hd : 200 < (op.dropLast).length
                · have hE := HE.out
                  rw [HM.out, overN_stop hstep hd] at hE
                  have HEN := hide hE
                  clear hE hstep
                  go_wp2_with (first | (go_at_call 16; (with_reducible refine Calls.mono HCL.out ?_); rintro r w5 ⟨rfl, hb5⟩; have HB := hide (HA.out.below hb5); have c0 := HB.out.s0; have c1 := HB.out.s1; have c2 := HB.out.s2; have c3 := HB.out.s3; have c4 := HB.out.s4; have c5 := HB.out.s5; have f2 := HB.out.fz 2; have f3 := HB.out.fz 3; have f4 := HB.out.fz 4; have f5 := HB.out.fz 5; have cx := HB.out.cx; have fx := HB.out.fx; have cv := HB.out.cv; have d1 := HDC.out _ hb5; have fk : w5.cell? ⟨w4.heap.size + 1, 5, none⟩ = some (.func (.func 59) #[] #[.pointer (some ⟨w.heap.size, 0, none⟩)]) := (HB.out.fn.cell 5).trans rfl; clear hb5) | (go_at_call 59; (with_reducible refine Calls.mono (by have := over6_any HB.out (by dsimp only; omega) hu; rw [if_neg HOP.out] at this; exact this) ?_); rintro r w6 ⟨rfl, sv6, h6⟩; obtain ⟨A6, c6, n6, rfl, hn6⟩ := OSt.nform h6; have r1 : decide ((200 : Int) < (n6 : Int)) = true := (by rw [hn6]; dsimp only; simp at hd ⊢; omega); have HF := hide h6; have e0_ := HF.out.s0; have ex := HF.out.cx; have ef := HF.out.fx; obtain ⟨z0, z1, z2, z3, z4, z5, z6, z7, z8, z9, z10, z11⟩ := HF.out.res.zero; clear h6 hn6))
                  refine bodyPost_ret (results_cell_tmp2 rfl _ _ (w.heap.size + 1) 50 _ (0, 0) _ rfl (HF.out.res.row6 _ _ _ _ _ _) Tryd.underlying50 rfl (by kernel_rfl)) rfl ?_
                  rw [← HEN.out]
                  exact ⟨below6 HF.out.bel (by omega) _ _ _ _ _ _, rfl⟩
                · have hE := HE.out
                  rw [HM.out, overN_go hstep hd] at hE
                  have HEN := hide hE
                  clear hE hstep
                  go_wp2_with (first | (go_at_call 16; (with_reducible refine Calls.mono HCL.out ?_); rintro r w5 ⟨rfl, hb5⟩; have HB := hide (HA.out.below hb5); have c0 := HB.out.s0; have c1 := HB.out.s1; have c2 := HB.out.s2; have c3 := HB.out.s3; have c4 := HB.out.s4; have c5 := HB.out.s5; have f2 := HB.out.fz 2; have f3 := HB.out.fz 3; have f4 := HB.out.fz 4; have f5 := HB.out.fz 5; have cx := HB.out.cx; have fx := HB.out.fx; have cv := HB.out.cv; have d1 := HDC.out _ hb5; have fk : w5.cell? ⟨w4.heap.size + 1, 5, none⟩ = some (.func (.func 59) #[] #[.pointer (some ⟨w.heap.size, 0, none⟩)]) := (HB.out.fn.cell 5).trans rfl; clear hb5) | (go_at_call 59; (with_reducible refine Calls.mono (by have := over6_any HB.out (by dsimp only; omega) hu; rw [if_neg HOP.out] at this; exact this) ?_); rintro r w6 ⟨rfl, sv6, h6⟩; obtain ⟨A6, c6, n6, rfl, hn6⟩ := OSt.nform h6; have r1 : decide ((200 : Int) < (n6 : Int)) = false := (by rw [hn6]; dsimp only; simp at hd ⊢; omega); have HF := hide h6; have e0_ := HF.out.s0; have ex := HF.out.cx; have ef := HF.out.fx; obtain ⟨z0, z1, z2, z3, z4, z5, z6, z7, z8, z9, z10, z11⟩ := HF.out.res.zero; clear h6 hn6))
                  refine ⟨⟨j + 1, _, (⟨op.dropLast, un, 0, false, st, false⟩ : Sta), hl, by simp only [] at hd ⊢; omega, hu, HEN.out, by have := HF.out.ix_ ((j : Int) + 1); exact this⟩, ?_⟩
                  rw [(HF.out.ix_ ((j : Int) + 1)).boxN, HA.out.boxN]
                  omega
            · have hstep : (⟨op, un, 0, false, st, false⟩ : Sta).step T (L.getD j 0) j = (⟨op, un, cj, false, (j : Int), false⟩ : Sta) := by
                unfold Sta.step
                have hk := HK.out
                have hc := HCJ.out
                unfold Tb.at_ at hk
                generalize L.getD j 0 = cc at hk hc ⊢
                simp [hk, hc]
              by_cases hd : 200 < (op).length
              · have hE := HE.out
                rw [HM.out, overN_stop hstep hd] at hE
                have HEN := hide hE
                clear hE hstep
                go_wp2_with (first | (go_at_call 16; (with_reducible refine Calls.mono HCL.out ?_); rintro r w5 ⟨rfl, hb5⟩; have HB := hide (HA.out.below hb5); have c0 := HB.out.s0; have c1 := HB.out.s1; have c2 := HB.out.s2; have c3 := HB.out.s3; have c4 := HB.out.s4; have c5 := HB.out.s5; have f2 := HB.out.fz 2; have f3 := HB.out.fz 3; have f4 := HB.out.fz 4; have f5 := HB.out.fz 5; have cx := HB.out.cx; have fx := HB.out.fx; have cv := HB.out.cv; have d1 := HDC.out _ hb5; have fk : w5.cell? ⟨w4.heap.size + 1, 6, none⟩ = some (.func (.func 56) #[] #[.pointer (some ⟨w2.heap.size, 0, none⟩), .pointer (some ⟨w4.heap.size, 0, none⟩), .pointer (some ⟨w.heap.size, 0, none⟩)]) := (HB.out.fn.cell 6).trans rfl; clear hb5) | (go_at_call 56; (with_reducible refine Calls.mono (by have := over3_any HB.out hjl (by omega); rw [← HCJ.out] at this; exact this) ?_); rintro r w6 ⟨rfl, sv6, h6⟩; obtain ⟨A6, c6, n6, rfl, hn6⟩ := OSt.nform h6; have r1 : decide ((200 : Int) < (n6 : Int)) = true := (by rw [hn6]; dsimp only; simp at hd ⊢; omega); have HF := hide h6; have e0_ := HF.out.s0; have ex := HF.out.cx; have ef := HF.out.fx; obtain ⟨z0, z1, z2, z3, z4, z5, z6, z7, z8, z9, z10, z11⟩ := HF.out.res.zero; clear h6 hn6))
                refine bodyPost_ret (results_cell_tmp2 rfl _ _ (w.heap.size + 1) 50 _ (0, 0) _ rfl (HF.out.res.row6 _ _ _ _ _ _) Tryd.underlying50 rfl (by kernel_rfl)) rfl ?_
                rw [← HEN.out]
                exact ⟨below6 HF.out.bel (by omega) _ _ _ _ _ _, rfl⟩
              · have hE := HE.out
                rw [HM.out, overN_go hstep hd] at hE
                have HEN := hide hE
                clear hE hstep
                go_wp2_with (first | (go_at_call 16; (with_reducible refine Calls.mono HCL.out ?_); rintro r w5 ⟨rfl, hb5⟩; have HB := hide (HA.out.below hb5); have c0 := HB.out.s0; have c1 := HB.out.s1; have c2 := HB.out.s2; have c3 := HB.out.s3; have c4 := HB.out.s4; have c5 := HB.out.s5; have f2 := HB.out.fz 2; have f3 := HB.out.fz 3; have f4 := HB.out.fz 4; have f5 := HB.out.fz 5; have cx := HB.out.cx; have fx := HB.out.fx; have cv := HB.out.cv; have d1 := HDC.out _ hb5; have fk : w5.cell? ⟨w4.heap.size + 1, 6, none⟩ = some (.func (.func 56) #[] #[.pointer (some ⟨w2.heap.size, 0, none⟩), .pointer (some ⟨w4.heap.size, 0, none⟩), .pointer (some ⟨w.heap.size, 0, none⟩)]) := (HB.out.fn.cell 6).trans rfl; clear hb5) | (go_at_call 56; (with_reducible refine Calls.mono (by have := over3_any HB.out hjl (by omega); rw [← HCJ.out] at this; exact this) ?_); rintro r w6 ⟨rfl, sv6, h6⟩; obtain ⟨A6, c6, n6, rfl, hn6⟩ := OSt.nform h6; have r1 : decide ((200 : Int) < (n6 : Int)) = false := (by rw [hn6]; dsimp only; simp at hd ⊢; omega); have HF := hide h6; have e0_ := HF.out.s0; have ex := HF.out.cx; have ef := HF.out.fx; obtain ⟨z0, z1, z2, z3, z4, z5, z6, z7, z8, z9, z10, z11⟩ := HF.out.res.zero; clear h6 hn6))
                refine ⟨⟨j + 1, _, (⟨op, un, cj, false, (j : Int), false⟩ : Sta), hl, by simp only [] at hd ⊢; omega, hu, HEN.out, by have := HF.out.ix_ ((j : Int) + 1); exact this⟩, ?_⟩
                rw [(HF.out.ix_ ((j : Int) + 1)).boxN, HA.out.boxN]
                omega
            · have hstep : (⟨op, un, 0, false, st, false⟩ : Sta).step T (L.getD j 0) j = (⟨op, un, 0, false, st, true⟩ : Sta) := by
                unfold Sta.step
                have hk := HK.out
                have hc := HCJ.out
                unfold Tb.at_ at hk
                generalize L.getD j 0 = cc at hk hc ⊢
                simp [hk]
              by_cases hd : 200 < (op).length
              · have hE := HE.out
                rw [HM.out, overN_stop hstep hd] at hE
                have HEN := hide hE
                clear hE hstep
                go_wp2_with (first | (go_at_call 16; (with_reducible refine Calls.mono HCL.out ?_); rintro r w5 ⟨rfl, hb5⟩; have HB := hide (HA.out.below hb5); have c0 := HB.out.s0; have c1 := HB.out.s1; have c2 := HB.out.s2; have c3 := HB.out.s3; have c4 := HB.out.s4; have c5 := HB.out.s5; have f2 := HB.out.fz 2; have f3 := HB.out.fz 3; have f4 := HB.out.fz 4; have f5 := HB.out.fz 5; have cx := HB.out.cx; have fx := HB.out.fx; have cv := HB.out.cv; have d1 := HDC.out _ hb5; have fk : w5.cell? ⟨w4.heap.size + 1, 7, none⟩ = some (.func (.func 55) #[] #[.pointer (some ⟨w.heap.size, 0, none⟩)]) := (HB.out.fn.cell 7).trans rfl; clear hb5) | (go_at_call 55; (with_reducible refine Calls.mono (over2_any HB.out) ?_); rintro r w6 ⟨rfl, sv6, h6⟩; obtain ⟨A6, c6, n6, rfl, hn6⟩ := OSt.nform h6; have r1 : decide ((200 : Int) < (n6 : Int)) = true := (by rw [hn6]; dsimp only; simp at hd ⊢; omega); have HF := hide h6; have e0_ := HF.out.s0; have ex := HF.out.cx; have ef := HF.out.fx; obtain ⟨z0, z1, z2, z3, z4, z5, z6, z7, z8, z9, z10, z11⟩ := HF.out.res.zero; clear h6 hn6))
                refine bodyPost_ret (results_cell_tmp2 rfl _ _ (w.heap.size + 1) 50 _ (0, 0) _ rfl (HF.out.res.row6 _ _ _ _ _ _) Tryd.underlying50 rfl (by kernel_rfl)) rfl ?_
                rw [← HEN.out]
                exact ⟨below6 HF.out.bel (by omega) _ _ _ _ _ _, rfl⟩
              · have hE := HE.out
                rw [HM.out, overN_go hstep hd] at hE
                have HEN := hide hE
                clear hE hstep
                go_wp2_with (first | (go_at_call 16; (with_reducible refine Calls.mono HCL.out ?_); rintro r w5 ⟨rfl, hb5⟩; have HB := hide (HA.out.below hb5); have c0 := HB.out.s0; have c1 := HB.out.s1; have c2 := HB.out.s2; have c3 := HB.out.s3; have c4 := HB.out.s4; have c5 := HB.out.s5; have f2 := HB.out.fz 2; have f3 := HB.out.fz 3; have f4 := HB.out.fz 4; have f5 := HB.out.fz 5; have cx := HB.out.cx; have fx := HB.out.fx; have cv := HB.out.cv; have d1 := HDC.out _ hb5; have fk : w5.cell? ⟨w4.heap.size + 1, 7, none⟩ = some (.func (.func 55) #[] #[.pointer (some ⟨w.heap.size, 0, none⟩)]) := (HB.out.fn.cell 7).trans rfl; clear hb5) | (go_at_call 55; (with_reducible refine Calls.mono (over2_any HB.out) ?_); rintro r w6 ⟨rfl, sv6, h6⟩; obtain ⟨A6, c6, n6, rfl, hn6⟩ := OSt.nform h6; have r1 : decide ((200 : Int) < (n6 : Int)) = false := (by rw [hn6]; dsimp only; simp at hd ⊢; omega); have HF := hide h6; have e0_ := HF.out.s0; have ex := HF.out.cx; have ef := HF.out.fx; obtain ⟨z0, z1, z2, z3, z4, z5, z6, z7, z8, z9, z10, z11⟩ := HF.out.res.zero; clear h6 hn6))
                refine ⟨⟨j + 1, _, (⟨op, un, 0, false, st, true⟩ : Sta), hl, by simp only [] at hd ⊢; omega, hu, HEN.out, by have := HF.out.ix_ ((j : Int) + 1); exact this⟩, ?_⟩
                rw [(HF.out.ix_ ((j : Int) + 1)).boxN, HA.out.boxN]
                omega
            · have hstep : (⟨op, un, 0, false, st, false⟩ : Sta).step T (L.getD j 0) j = (⟨op, un, 0, true, (j : Int), false⟩ : Sta) := by
                unfold Sta.step
                have hk := HK.out
                have hc := HCJ.out
                unfold Tb.at_ at hk
                generalize L.getD j 0 = cc at hk hc ⊢
                simp [hk]
              by_cases hd : 200 < (op).length
              · have hE := HE.out
                rw [HM.out, overN_stop hstep hd] at hE
                have HEN := hide hE
                clear hE hstep
                go_wp2_with (first | (go_at_call 16; (with_reducible refine Calls.mono HCL.out ?_); rintro r w5 ⟨rfl, hb5⟩; have HB := hide (HA.out.below hb5); have c0 := HB.out.s0; have c1 := HB.out.s1; have c2 := HB.out.s2; have c3 := HB.out.s3; have c4 := HB.out.s4; have c5 := HB.out.s5; have f2 := HB.out.fz 2; have f3 := HB.out.fz 3; have f4 := HB.out.fz 4; have f5 := HB.out.fz 5; have cx := HB.out.cx; have fx := HB.out.fx; have cv := HB.out.cv; have d1 := HDC.out _ hb5; have fk : w5.cell? ⟨w4.heap.size + 1, 8, none⟩ = some (.func (.func 57) #[] #[.pointer (some ⟨w4.heap.size, 0, none⟩), .pointer (some ⟨w.heap.size, 0, none⟩)]) := (HB.out.fn.cell 8).trans rfl; clear hb5) | (go_at_call 57; (with_reducible refine Calls.mono (over4_any HB.out) ?_); rintro r w6 ⟨rfl, sv6, h6⟩; obtain ⟨A6, c6, n6, rfl, hn6⟩ := OSt.nform h6; have r1 : decide ((200 : Int) < (n6 : Int)) = true := (by rw [hn6]; dsimp only; simp at hd ⊢; omega); have HF := hide h6; have e0_ := HF.out.s0; have ex := HF.out.cx; have ef := HF.out.fx; obtain ⟨z0, z1, z2, z3, z4, z5, z6, z7, z8, z9, z10, z11⟩ := HF.out.res.zero; clear h6 hn6))
                refine bodyPost_ret (results_cell_tmp2 rfl _ _ (w.heap.size + 1) 50 _ (0, 0) _ rfl (HF.out.res.row6 _ _ _ _ _ _) Tryd.underlying50 rfl (by kernel_rfl)) rfl ?_
                rw [← HEN.out]
                exact ⟨below6 HF.out.bel (by omega) _ _ _ _ _ _, rfl⟩
              · have hE := HE.out
                rw [HM.out, overN_go hstep hd] at hE
                have HEN := hide hE
                clear hE hstep
                go_wp2_with (first | (go_at_call 16; (with_reducible refine Calls.mono HCL.out ?_); rintro r w5 ⟨rfl, hb5⟩; have HB := hide (HA.out.below hb5); have c0 := HB.out.s0; have c1 := HB.out.s1; have c2 := HB.out.s2; have c3 := HB.out.s3; have c4 := HB.out.s4; have c5 := HB.out.s5; have f2 := HB.out.fz 2; have f3 := HB.out.fz 3; have f4 := HB.out.fz 4; have f5 := HB.out.fz 5; have cx := HB.out.cx; have fx := HB.out.fx; have cv := HB.out.cv; have d1 := HDC.out _ hb5; have fk : w5.cell? ⟨w4.heap.size + 1, 8, none⟩ = some (.func (.func 57) #[] #[.pointer (some ⟨w4.heap.size, 0, none⟩), .pointer (some ⟨w.heap.size, 0, none⟩)]) := (HB.out.fn.cell 8).trans rfl; clear hb5) | (go_at_call 57; (with_reducible refine Calls.mono (over4_any HB.out) ?_); rintro r w6 ⟨rfl, sv6, h6⟩; obtain ⟨A6, c6, n6, rfl, hn6⟩ := OSt.nform h6; have r1 : decide ((200 : Int) < (n6 : Int)) = false := (by rw [hn6]; dsimp only; simp at hd ⊢; omega); have HF := hide h6; have e0_ := HF.out.s0; have ex := HF.out.cx; have ef := HF.out.fx; obtain ⟨z0, z1, z2, z3, z4, z5, z6, z7, z8, z9, z10, z11⟩ := HF.out.res.zero; clear h6 hn6))
                refine ⟨⟨j + 1, _, (⟨op, un, 0, true, (j : Int), false⟩ : Sta), hl, by simp only [] at hd ⊢; omega, hu, HEN.out, by have := HF.out.ix_ ((j : Int) + 1); exact this⟩, ?_⟩
                rw [(HF.out.ix_ ((j : Int) + 1)).boxN, HA.out.boxN]
                omega
            · have hstep : (⟨op, un, 0, false, st, false⟩ : Sta).step T (L.getD j 0) j = (⟨op, un, 0, false, st, false⟩ : Sta) := by
                unfold Sta.step
                have hk := HK.out
                have hc := HCJ.out
                unfold Tb.at_ at hk
                generalize L.getD j 0 = cc at hk hc ⊢
                simp [hk]
              by_cases hd : 200 < op.length
              · have r1 : decide ((200 : Int) < (op.length : Int)) = true := by simp; omega
                have hE := HE.out
                rw [HM.out, overN_stop hstep hd] at hE
                have HEN := hide hE
                clear hE hstep
                go_wp2_with (first | (go_at_call 16; (with_reducible refine Calls.mono HCL.out ?_); rintro r w5 ⟨rfl, hb5⟩; have HB := hide (HA.out.below hb5); have c0 := HB.out.s0; have c1 := HB.out.s1; have c2 := HB.out.s2; have c3 := HB.out.s3; have c4 := HB.out.s4; have c5 := HB.out.s5; have f2 := HB.out.fz 2; have f3 := HB.out.fz 3; have f4 := HB.out.fz 4; have f5 := HB.out.fz 5; have cx := HB.out.cx; have fx := HB.out.fx; have cv := HB.out.cv; have d1 := HDC.out _ hb5; have fk : w5.cell? ⟨w4.heap.size + 1, 9, none⟩ = some (.nilFunc) := (HB.out.fn.cell 9).trans rfl; have HF := hide (HB.out); have e0_ := HF.out.s0; have ex := HF.out.cx; have ef := HF.out.fx; obtain ⟨z0, z1, z2, z3, z4, z5, z6, z7, z8, z9, z10, z11⟩ := HF.out.res.zero; clear hb5))
                refine bodyPost_ret (results_cell_tmp2 rfl _ _ (w.heap.size + 1) 50 _ (0, 0) _ rfl (HF.out.res.row6 _ _ _ _ _ _) Tryd.underlying50 rfl (by kernel_rfl)) rfl ?_
                rw [← HEN.out]
                exact ⟨below6 HF.out.bel (by omega) _ _ _ _ _ _, rfl⟩
              · have r1 : decide ((200 : Int) < (op.length : Int)) = false := by simp; omega
                have hE := HE.out
                rw [HM.out, overN_go hstep hd] at hE
                have HEN := hide hE
                clear hE hstep
                go_wp2_with (first | (go_at_call 16; (with_reducible refine Calls.mono HCL.out ?_); rintro r w5 ⟨rfl, hb5⟩; have HB := hide (HA.out.below hb5); have c0 := HB.out.s0; have c1 := HB.out.s1; have c2 := HB.out.s2; have c3 := HB.out.s3; have c4 := HB.out.s4; have c5 := HB.out.s5; have f2 := HB.out.fz 2; have f3 := HB.out.fz 3; have f4 := HB.out.fz 4; have f5 := HB.out.fz 5; have cx := HB.out.cx; have fx := HB.out.fx; have cv := HB.out.cv; have d1 := HDC.out _ hb5; have fk : w5.cell? ⟨w4.heap.size + 1, 9, none⟩ = some (.nilFunc) := (HB.out.fn.cell 9).trans rfl; have HF := hide (HB.out); have e0_ := HF.out.s0; have ex := HF.out.cx; have ef := HF.out.fx; obtain ⟨z0, z1, z2, z3, z4, z5, z6, z7, z8, z9, z10, z11⟩ := HF.out.res.zero; clear hb5))
                refine ⟨⟨j + 1, _, (⟨op, un, 0, false, st, false⟩ : Sta), hl, by simp only []; omega, hu, HEN.out, by have := HF.out.ix_ ((j : Int) + 1); exact this⟩, ?_⟩
                rw [(HF.out.ix_ ((j : Int) + 1)).boxN, HA.out.boxN]
                omega
            · have hstep : (⟨op, un, 0, false, st, false⟩ : Sta).step T (L.getD j 0) j = (⟨op, un, 0, false, st, false⟩ : Sta) := by
                unfold Sta.step
                have hk := HK.out
                have hc := HCJ.out
                unfold Tb.at_ at hk
                generalize L.getD j 0 = cc at hk hc ⊢
                simp [hk]
              by_cases hd : 200 < (op).length
              · have hE := HE.out
                rw [HM.out, overN_stop hstep hd] at hE
                have HEN := hide hE
                clear hE hstep
                go_wp2_with (first | (go_at_call 16; (with_reducible refine Calls.mono HCL.out ?_); rintro r w5 ⟨rfl, hb5⟩; have HB := hide (HA.out.below hb5); have c0 := HB.out.s0; have c1 := HB.out.s1; have c2 := HB.out.s2; have c3 := HB.out.s3; have c4 := HB.out.s4; have c5 := HB.out.s5; have f2 := HB.out.fz 2; have f3 := HB.out.fz 3; have f4 := HB.out.fz 4; have f5 := HB.out.fz 5; have cx := HB.out.cx; have fx := HB.out.fx; have cv := HB.out.cv; have d1 := HDC.out _ hb5; have fk : w5.cell? ⟨w4.heap.size + 1, 10, none⟩ = some (.func (.func 60) #[] #[]) := (HB.out.fn.cell 10).trans rfl; clear hb5) | (go_at_call 60; (with_reducible refine Calls.mono (over7_any HB.out) ?_); rintro r w6 ⟨rfl, sv6, h6⟩; obtain ⟨A6, c6, n6, rfl, hn6⟩ := OSt.nform h6; have r1 : decide ((200 : Int) < (n6 : Int)) = true := (by rw [hn6]; dsimp only; simp at hd ⊢; omega); have HF := hide h6; have e0_ := HF.out.s0; have ex := HF.out.cx; have ef := HF.out.fx; obtain ⟨z0, z1, z2, z3, z4, z5, z6, z7, z8, z9, z10, z11⟩ := HF.out.res.zero; clear h6 hn6))
                refine bodyPost_ret (results_cell_tmp2 rfl _ _ (w.heap.size + 1) 50 _ (0, 0) _ rfl (HF.out.res.row6 _ _ _ _ _ _) Tryd.underlying50 rfl (by kernel_rfl)) rfl ?_
                rw [← HEN.out]
                exact ⟨below6 HF.out.bel (by omega) _ _ _ _ _ _, rfl⟩
              · have hE := HE.out
                rw [HM.out, overN_go hstep hd] at hE
                have HEN := hide hE
                clear hE hstep
                go_wp2_with (first | (go_at_call 16; (with_reducible refine Calls.mono HCL.out ?_); rintro r w5 ⟨rfl, hb5⟩; have HB := hide (HA.out.below hb5); have c0 := HB.out.s0; have c1 := HB.out.s1; have c2 := HB.out.s2; have c3 := HB.out.s3; have c4 := HB.out.s4; have c5 := HB.out.s5; have f2 := HB.out.fz 2; have f3 := HB.out.fz 3; have f4 := HB.out.fz 4; have f5 := HB.out.fz 5; have cx := HB.out.cx; have fx := HB.out.fx; have cv := HB.out.cv; have d1 := HDC.out _ hb5; have fk : w5.cell? ⟨w4.heap.size + 1, 10, none⟩ = some (.func (.func 60) #[] #[]) := (HB.out.fn.cell 10).trans rfl; clear hb5) | (go_at_call 60; (with_reducible refine Calls.mono (over7_any HB.out) ?_); rintro r w6 ⟨rfl, sv6, h6⟩; obtain ⟨A6, c6, n6, rfl, hn6⟩ := OSt.nform h6; have r1 : decide ((200 : Int) < (n6 : Int)) = false := (by rw [hn6]; dsimp only; simp at hd ⊢; omega); have HF := hide h6; have e0_ := HF.out.s0; have ex := HF.out.cx; have ef := HF.out.fx; obtain ⟨z0, z1, z2, z3, z4, z5, z6, z7, z8, z9, z10, z11⟩ := HF.out.res.zero; clear h6 hn6))
                refine ⟨⟨j + 1, _, (⟨op, un, 0, false, st, false⟩ : Sta), hl, by simp only [] at hd ⊢; omega, hu, HEN.out, by have := HF.out.ix_ ((j : Int) + 1); exact this⟩, ?_⟩
                rw [(HF.out.ix_ ((j : Int) + 1)).boxN, HA.out.boxN]
                omega
        · have i1 : (inn != 0) = true := by simpa using hi
          have i2 : (inn == 0) = false := by simpa using hi
          by_cases k7 : k = 7
          · subst k7
            have hstep : (⟨op, un, inn, cm, st, false⟩ : Sta).step T (L.getD j 0) j = (⟨op, un, inn, cm, st, true⟩ : Sta) := by
              unfold Sta.step
              have hk := HK.out
              have hc := HCJ.out
              unfold Tb.at_ at hk
              generalize L.getD j 0 = cc at hk hc ⊢
              simp [hi, hk]
            by_cases hd : 200 < op.length
            · have r1 : decide ((200 : Int) < (op.length : Int)) = true := by simp; omega
              have hE := HE.out
              rw [HM.out, overN_stop hstep hd] at hE
              have HEN := hide hE
              clear hE hstep
              go_wp2_with (first | (go_at_call 16; (with_reducible refine Calls.mono HCL.out ?_); rintro r w5 ⟨rfl, hb5⟩; have HB := hide (HA.out.below hb5); have c0 := HB.out.s0; have c1 := HB.out.s1; have c2 := HB.out.s2; have c3 := HB.out.s3; have c4 := HB.out.s4; have c5 := HB.out.s5; have f2 := HB.out.fz 2; have f3 := HB.out.fz 3; have f4 := HB.out.fz 4; have f5 := HB.out.fz 5; have cx := HB.out.cx; have fx := HB.out.fx; have cv := HB.out.cv; have d1 := HDC.out _ hb5; have HF := hide (HB.out.quoted true); have e0_ := HF.out.s0; have ex := HF.out.cx; have ef := HF.out.fx; obtain ⟨z0, z1, z2, z3, z4, z5, z6, z7, z8, z9, z10, z11⟩ := HF.out.res.zero; clear hb5))
              refine bodyPost_ret (results_cell_tmp2 rfl _ _ (w.heap.size + 1) 50 _ (0, 0) _ rfl (HF.out.res.row6 _ _ _ _ _ _) Tryd.underlying50 rfl (by kernel_rfl)) rfl ?_
              rw [← HEN.out]
              exact ⟨below6 HF.out.bel (by omega) _ _ _ _ _ _, rfl⟩
            · have r1 : decide ((200 : Int) < (op.length : Int)) = false := by simp; omega
              have hE := HE.out
              rw [HM.out, overN_go hstep hd] at hE
              have HEN := hide hE
              clear hE hstep
              go_wp2_with (first | (go_at_call 16; (with_reducible refine Calls.mono HCL.out ?_); rintro r w5 ⟨rfl, hb5⟩; have HB := hide (HA.out.below hb5); have c0 := HB.out.s0; have c1 := HB.out.s1; have c2 := HB.out.s2; have c3 := HB.out.s3; have c4 := HB.out.s4; have c5 := HB.out.s5; have f2 := HB.out.fz 2; have f3 := HB.out.fz 3; have f4 := HB.out.fz 4; have f5 := HB.out.fz 5; have cx := HB.out.cx; have fx := HB.out.fx; have cv := HB.out.cv; have d1 := HDC.out _ hb5; have HF := hide (HB.out.quoted true); have e0_ := HF.out.s0; have ex := HF.out.cx; have ef := HF.out.fx; obtain ⟨z0, z1, z2, z3, z4, z5, z6, z7, z8, z9, z10, z11⟩ := HF.out.res.zero; clear hb5))
              refine ⟨⟨j + 1, _, (⟨op, un, inn, cm, st, true⟩ : Sta), hl, by simp only []; omega, hu, HEN.out, by have := HF.out.ix_ ((j : Int) + 1); exact this⟩, ?_⟩
              rw [(HF.out.ix_ ((j : Int) + 1)).boxN, HA.out.boxN]
              omega
          · have k7b : (k == 7) = false := by simpa using k7
            by_cases hci : cj = inn
            · have i3 : (cj == inn) = true := by simpa using hci
              have HCI := hide hci
              clear hci
              have hstep : (⟨op, un, inn, cm, st, false⟩ : Sta).step T (L.getD j 0) j = (⟨op, un, 0, cm, 0, false⟩ : Sta) := by
                unfold Sta.step
                have hk := HK.out
                have hc := HCJ.out
                unfold Tb.at_ at hk
                generalize L.getD j 0 = cc at hk hc ⊢
                have hci := HCI.out
                rw [hci] at hc
                rw [← hc] at hk ⊢
                simp [hi, hk, k7]
              by_cases hd : 200 < op.length
              · have r1 : decide ((200 : Int) < (op.length : Int)) = true := by simp; omega
                have hE := HE.out
                rw [HM.out, overN_stop hstep hd] at hE
                have HEN := hide hE
                clear hE hstep
                go_wp2_with (first | (go_at_call 16; (with_reducible refine Calls.mono HCL.out ?_); rintro r w5 ⟨rfl, hb5⟩; have HB := hide (HA.out.below hb5); have c0 := HB.out.s0; have c1 := HB.out.s1; have c2 := HB.out.s2; have c3 := HB.out.s3; have c4 := HB.out.s4; have c5 := HB.out.s5; have f2 := HB.out.fz 2; have f3 := HB.out.fz 3; have f4 := HB.out.fz 4; have f5 := HB.out.fz 5; have cx := HB.out.cx; have fx := HB.out.fx; have cv := HB.out.cv; have d1 := HDC.out _ hb5; have HF := hide (fun n => ((HB.out.drewN n).inn 0).start 0); have e0_ := fun n => (HF.out n).s0; have ex := fun n => (HF.out n).cx; have ef := fun n => (HF.out n).fx; have zz := fun n => (HF.out n).res.zero; have z0 := fun n => (zz n).1; have z1 := fun n => (zz n).2.1; have z2 := fun n => (zz n).2.2.1; have z3 := fun n => (zz n).2.2.2.1; have z4 := fun n => (zz n).2.2.2.2.1; have z5 := fun n => (zz n).2.2.2.2.2.1; have z6 := fun n => (zz n).2.2.2.2.2.2.1; have z7 := fun n => (zz n).2.2.2.2.2.2.2.1; have z8 := fun n => (zz n).2.2.2.2.2.2.2.2.1; have z9 := fun n => (zz n).2.2.2.2.2.2.2.2.2.1; have z10 := fun n => (zz n).2.2.2.2.2.2.2.2.2.2.1; have z11 := fun n => (zz n).2.2.2.2.2.2.2.2.2.2.2; clear zz; clear hb5))
                go_quiet (fail)
                go_wp2
                refine bodyPost_ret (results_cell_tmp2 rfl _ _ (w.heap.size + 1) 50 _ (0, 0) _ rfl ((HF.out nq).res.row6 _ _ _ _ _ _) Tryd.underlying50 rfl (by kernel_rfl)) rfl ?_
                rw [← HEN.out]
                exact ⟨below6 (HF.out nq).bel (by omega) _ _ _ _ _ _, rfl⟩
              · have r1 : decide ((200 : Int) < (op.length : Int)) = false := by simp; omega
                have hE := HE.out
                rw [HM.out, overN_go hstep hd] at hE
                have HEN := hide hE
                clear hE hstep
                go_wp2_with (first | (go_at_call 16; (with_reducible refine Calls.mono HCL.out ?_); rintro r w5 ⟨rfl, hb5⟩; have HB := hide (HA.out.below hb5); have c0 := HB.out.s0; have c1 := HB.out.s1; have c2 := HB.out.s2; have c3 := HB.out.s3; have c4 := HB.out.s4; have c5 := HB.out.s5; have f2 := HB.out.fz 2; have f3 := HB.out.fz 3; have f4 := HB.out.fz 4; have f5 := HB.out.fz 5; have cx := HB.out.cx; have fx := HB.out.fx; have cv := HB.out.cv; have d1 := HDC.out _ hb5; have HF := hide (fun n => ((HB.out.drewN n).inn 0).start 0); have e0_ := fun n => (HF.out n).s0; have ex := fun n => (HF.out n).cx; have ef := fun n => (HF.out n).fx; have zz := fun n => (HF.out n).res.zero; have z0 := fun n => (zz n).1; have z1 := fun n => (zz n).2.1; have z2 := fun n => (zz n).2.2.1; have z3 := fun n => (zz n).2.2.2.1; have z4 := fun n => (zz n).2.2.2.2.1; have z5 := fun n => (zz n).2.2.2.2.2.1; have z6 := fun n => (zz n).2.2.2.2.2.2.1; have z7 := fun n => (zz n).2.2.2.2.2.2.2.1; have z8 := fun n => (zz n).2.2.2.2.2.2.2.2.1; have z9 := fun n => (zz n).2.2.2.2.2.2.2.2.2.1; have z10 := fun n => (zz n).2.2.2.2.2.2.2.2.2.2.1; have z11 := fun n => (zz n).2.2.2.2.2.2.2.2.2.2.2; clear zz; clear hb5))
                go_quiet (fail)
                go_wp2
                refine ⟨⟨j + 1, _, (⟨op, un, 0, cm, 0, false⟩ : Sta), hl, by simp only []; omega, hu, HEN.out, by have := (HF.out nq).ix_ ((j : Int) + 1); exact this⟩, ?_⟩
                rw [((HF.out nq).ix_ ((j : Int) + 1)).boxN, HA.out.boxN]
                omega
            · have i3 : (cj == inn) = false := by simpa using hci
              have HCI := hide hci
              clear hci
              have hstep : (⟨op, un, inn, cm, st, false⟩ : Sta).step T (L.getD j 0) j = (⟨op, un, inn, cm, st, false⟩ : Sta) := by
                unfold Sta.step
                have hk := HK.out
                have hc := HCJ.out
                unfold Tb.at_ at hk
                generalize L.getD j 0 = cc at hk hc ⊢
                have hci := HCI.out
                rw [hc] at hci
                simp [hi, hk, k7, hci]
              by_cases hd : 200 < op.length
              · have r1 : decide ((200 : Int) < (op.length : Int)) = true := by simp; omega
                have hE := HE.out
                rw [HM.out, overN_stop hstep hd] at hE
                have HEN := hide hE
                clear hE hstep
                go_wp2_with (first | (go_at_call 16; (with_reducible refine Calls.mono HCL.out ?_); rintro r w5 ⟨rfl, hb5⟩; have HB := hide (HA.out.below hb5); have c0 := HB.out.s0; have c1 := HB.out.s1; have c2 := HB.out.s2; have c3 := HB.out.s3; have c4 := HB.out.s4; have c5 := HB.out.s5; have f2 := HB.out.fz 2; have f3 := HB.out.fz 3; have f4 := HB.out.fz 4; have f5 := HB.out.fz 5; have cx := HB.out.cx; have fx := HB.out.fx; have cv := HB.out.cv; have d1 := HDC.out _ hb5; have HF := hide (fun n => HB.out.drewN n); have e0_ := fun n => (HF.out n).s0; have ex := fun n => (HF.out n).cx; have ef := fun n => (HF.out n).fx; have zz := fun n => (HF.out n).res.zero; have z0 := fun n => (zz n).1; have z1 := fun n => (zz n).2.1; have z2 := fun n => (zz n).2.2.1; have z3 := fun n => (zz n).2.2.2.1; have z4 := fun n => (zz n).2.2.2.2.1; have z5 := fun n => (zz n).2.2.2.2.2.1; have z6 := fun n => (zz n).2.2.2.2.2.2.1; have z7 := fun n => (zz n).2.2.2.2.2.2.2.1; have z8 := fun n => (zz n).2.2.2.2.2.2.2.2.1; have z9 := fun n => (zz n).2.2.2.2.2.2.2.2.2.1; have z10 := fun n => (zz n).2.2.2.2.2.2.2.2.2.2.1; have z11 := fun n => (zz n).2.2.2.2.2.2.2.2.2.2.2; clear zz; clear hb5))
                go_quiet (fail)
                go_wp2
                refine bodyPost_ret (results_cell_tmp2 rfl _ _ (w.heap.size + 1) 50 _ (0, 0) _ rfl ((HF.out nq).res.row6 _ _ _ _ _ _) Tryd.underlying50 rfl (by kernel_rfl)) rfl ?_
                rw [← HEN.out]
                exact ⟨below6 (HF.out nq).bel (by omega) _ _ _ _ _ _, rfl⟩
              · have r1 : decide ((200 : Int) < (op.length : Int)) = false := by simp; omega
                have hE := HE.out
                rw [HM.out, overN_go hstep hd] at hE
                have HEN := hide hE
                clear hE hstep
                go_wp2_with (first | (go_at_call 16; (with_reducible refine Calls.mono HCL.out ?_); rintro r w5 ⟨rfl, hb5⟩; have HB := hide (HA.out.below hb5); have c0 := HB.out.s0; have c1 := HB.out.s1; have c2 := HB.out.s2; have c3 := HB.out.s3; have c4 := HB.out.s4; have c5 := HB.out.s5; have f2 := HB.out.fz 2; have f3 := HB.out.fz 3; have f4 := HB.out.fz 4; have f5 := HB.out.fz 5; have cx := HB.out.cx; have fx := HB.out.fx; have cv := HB.out.cv; have d1 := HDC.out _ hb5; have HF := hide (fun n => HB.out.drewN n); have e0_ := fun n => (HF.out n).s0; have ex := fun n => (HF.out n).cx; have ef := fun n => (HF.out n).fx; have zz := fun n => (HF.out n).res.zero; have z0 := fun n => (zz n).1; have z1 := fun n => (zz n).2.1; have z2 := fun n => (zz n).2.2.1; have z3 := fun n => (zz n).2.2.2.1; have z4 := fun n => (zz n).2.2.2.2.1; have z5 := fun n => (zz n).2.2.2.2.2.1; have z6 := fun n => (zz n).2.2.2.2.2.2.1; have z7 := fun n => (zz n).2.2.2.2.2.2.2.1; have z8 := fun n => (zz n).2.2.2.2.2.2.2.2.1; have z9 := fun n => (zz n).2.2.2.2.2.2.2.2.2.1; have z10 := fun n => (zz n).2.2.2.2.2.2.2.2.2.2.1; have z11 := fun n => (zz n).2.2.2.2.2.2.2.2.2.2.2; clear zz; clear hb5))
                go_quiet (fail)
                go_wp2
                refine ⟨⟨j + 1, _, (⟨op, un, inn, cm, st, false⟩ : Sta), hl, by simp only []; omega, hu, HEN.out, by have := (HF.out nq).ix_ ((j : Int) + 1); exact this⟩, ?_⟩
                rw [((HF.out nq).ix_ ((j : Int) + 1)).boxN, HA.out.boxN]
                omega
    · have y1 : decide ((j : Int) < (e0 : Int)) = false := by simp; omega
      have hE := HE.out
      rw [show e0 - j = 0 by omega] at hE
      have HEN := hide (show some (⟨op, un, inn, cm, st, qu⟩ : Sta) = R from hE)
      clear hE
      obtain ⟨z0, z1, z2, z3, z4, z5, z6, z7, z8, z9, z10, z11⟩ := HA.out.res.zero
      have c0 := HA.out.s0
      have c1 := HA.out.s1
      have c2 := HA.out.s2
      have c3 := HA.out.s3
      have c4 := HA.out.s4
      have c5 := HA.out.s5
      go_wp2
      refine bodyPost_ret (results_cell_tmp2 rfl _ _ (w.heap.size + 1) 50 _ (0, 0) _ rfl (HA.out.res.row6 _ _ _ _ _ _) Tryd.underlying50 rfl (by kernel_rfl)) rfl ?_
      rw [← HEN.out]
      refine ⟨below6 HA.out.bel (by omega) _ _ _ _ _ _, _, rfl, ?_, fun g hg => ?_⟩
      · have hn : (Value.slice As op.length cs).ownBlock ≠ some (w.heap.size + 1) := fun e => by have := (HA.out.opn _ e).1; have := HA.out.o1; omega
        exact (((((HA.out.op.far hn _).far hn _).far hn _).far hn _).far hn _).far hn _
      · have := (HA.out.opn _ hg).1
        have := HA.out.o1
        omega
end
end Go.Proofs.YtdojcgefiekleaaDoor
