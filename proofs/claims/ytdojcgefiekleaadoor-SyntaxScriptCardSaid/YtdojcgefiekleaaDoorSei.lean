/- The reference's move backward. No condition but those written. -/
import Derived.Test.YtdojcgefiekleaaDoorSeh
import Derived.Test.YtdojcgefiekleaaDoorDraw
import Derived.Deep.QuietTactic
import Derived.BigQuiet
import Derived.Deep.CutBlock
import Derived.Deep.DeepCutAuto
namespace Go.Proofs.YtdojcgefiekleaaDoor
open Go.RowKit

section
variable {w w' : World} {r : Nat} {T : Tb} {L : List Nat}
theorem RSc.take {A : Option Addr} {c i : Nat} (h : RSc w r T (.slice A L.length c) L) (hi : i ≤ L.length) : RSc w r T (.slice A i c) (L.take i) := by
  refine ⟨h.tab, ?_, by rw [List.length_take]; have := h.len; omega⟩
  obtain ⟨A', c', e, _, hc⟩ := h.row
  injection e with e1 _ e2
  subst e1 e2
  refine ⟨A, c, by rw [List.length_take, Nat.min_eq_left hi], by simp [ints], fun hp => ?_⟩
  rw [List.length_take] at hp
  obtain ⟨g, off, e, hx⟩ := hc (by omega)
  refine ⟨g, off, e, fun j u hu => hx j u ?_⟩
  unfold ints at hu ⊢
  rw [List.map_take, List.getElem?_take] at hu
  split at hu
  · exact hu
  · cases hu
theorem ZMid.at_ {W0 : World} {g off c N : Nat} {A B : List Lv} {x : Lv} {sv : Value} {st : List Int} (h : ZMid W0 w (.slice (some ⟨g, off, none⟩) N c) A B x sv st) : w.cell? ⟨g, off + A.length * 3 + 2, none⟩ = some x.sv ∧ ∀ j, w.frozen? ⟨g, j, none⟩ = false := by
  obtain ⟨g', off', c', e, _, _, _, hf, hc⟩ := Sl.fld lvC_len h.row (by simp; omega)
  cases e
  exact ⟨hc A.length x 2 _ (by simp) rfl, hf⟩
theorem ends_at {l : List Int} (h : l ≠ []) : (nints l)[l.length - 1]? = some (.int .i64 (ends l)) := by
  rcases List.eq_nil_or_concat l with e | ⟨k, y, e⟩
  · exact absurd e h
  · rw [e, List.concat_eq_append, ends_snoc]
    simp [nints]
theorem look_le {T : Tb} (hT : T.Ok) (c : Int) : 0 ≤ T.cl c ∧ T.cl c ≤ 10 := ⟨(hT.range c).1, (hT.range c).2.1⟩
set_option maxRecDepth 100000 in
set_option maxHeartbeats 64000000 in
theorem rback_any {A0 : Option Addr} {c n : Nat} (h : RSc w r T (.slice A0 L.length c) L) (hnc : L.length ≤ c) (hcm : c ≤ maxLen) (hto : n ≤ L.length) : Calls Tryd.prog 66 #[.pointer (some ⟨r, 0, none⟩), .slice A0 L.length c, .int .i64 (n : Int)] w fun e w' => e = .returned (ansV (bck1 T (L.take n))) ∧ Below w.heap.size w w' := by
  have hb0 := below_box w (.cells #[.int .i64 0, .int .i64 0] 40)
  have HB0 := hide hb0
  have HRB := hide (Blk.new w 40 #[.int .i64 0, .int .i64 0])
  have HS := hide ((h.below hb0).take hto)
  have hT : T.Ok := by obtain ⟨_, _, _, _, _, _, hok⟩ := h.tab; exact hok
  have hlen := h.len
  obtain ⟨L', hL'⟩ : ∃ L', L' = L.take n := ⟨_, rfl⟩
  have HLE := hide (show L'.length = n by rw [hL', List.length_take]; omega)
  rw [← hL'] at HS ⊢
  have hn9 : (n : Int) ≤ 1000000 := by omega
  have hnl : (n : Int) ≤ (L.length : Int) := by omega
  have hnc2 : (n : Int) ≤ (c : Int) := by omega
  have hnc3 : n ≤ c := by omega
  have hlc : (L.length : Int) ≤ (c : Int) := by omega
  have hc9 : (c : Int) ≤ 9223372036854775807 := by unfold maxLen at hcm; omega
  obtain ⟨R, hR⟩ : ∃ R, R = bck T 13 5 12 9 L' (n + 1) [] (-1) (-1) 0 := ⟨_, rfl⟩
  have HR := hide (show bck1 T L' = R by rw [hR]; unfold bck1; rw [HLE.out])
  have HR0 := hide hR
  obtain ⟨i0, hi, hi1, hi2, hi3⟩ := info_parts info_nt
  obtain ⟨l0, hl, hl1, hl2, hl3⟩ := info_parts info_lv
  have HI := hide hi
  have HI1 := hide hi1
  have HI2 := hide hi2
  have HI3 := hide hi3
  have HL := hide hl
  have HL1 := hide hl1
  have HL2 := hide hl2
  have HL3 := hide hl3
  have HT := hide hT
  have HZ0 := hide (ZSt.fresh (Below.refl (w.alloc (.cells #[.int .i64 0, .int .i64 0] 40)).heap.size (w.alloc (.cells #[.int .i64 0, .int .i64 0] 40))) (-1) (-1))
  obtain ⟨w1, hw1⟩ : ∃ y : World, y = w.alloc (.cells #[.int .i64 0, .int .i64 0] 40) := ⟨_, rfl⟩
  have HW1 := hide hw1
  have HWS := hide (show w1.heap.size = w.heap.size + 1 by rw [hw1]; simp)
  rw [← hw1] at HS HRB HB0 HZ0
  clear h hnc hcm hto hb0 hw1 hlen hL' hR hi hi1 hi2 hi3 hl hl1 hl2 hl3 hT
  go_enter Tryd.func66, Tryd.ntmps66
  go_wp2_with fail
  rw [← HW1.out]
  go_loopw [8, 9] (fun sv av wr => ∃ (i m : Nat) (A : List Lv) (x : Lv) (S : List Lvl) (top bar : Int), av = .int .i64 (i : Int) ∧ i ≤ n ∧ n < m + i ∧ bck T 13 5 12 9 L' m S top bar i = R ∧ Gh (A ++ [x]) S top bar ∧ BckOk S top bar i ∧ ZSt w1 wr sv (A ++ [x]) ∧ A.length ≤ 200 ∧ ∀ y ∈ A ++ [x], y.st.length ≤ i) (fun _ av _ => n - (intOf av).toNat)
  case atStart => exact ⟨0, n + 1, [], ⟨-1, -1, [], .slice none 0 0⟩, [], -1, -1, rfl, Nat.zero_le _, by omega, HR0.out.symm, Gh.start _, BckOk.start, by have h9 := HZ0.out; rw [HWS.out] at h9; exact h9, Nat.zero_le _, fun y hy => by
    obtain rfl : y = ⟨-1, -1, [], .slice none 0 0⟩ := by simpa using hy
    exact Nat.zero_le _⟩
  case round =>
    clear HZ0
    obtain ⟨i, m, A, x, S, top, bar, rfl, hi, hm, he, hg, hok, hz, ha, hst⟩ := hrel
    have HZ := hide hz
    have HG := hide hg
    have HOK := hide hok
    have HA := hide ha
    have HST := hide hst
    have HE := hide he
    have hi9 : (i : Int) ≤ 1000000 := by omega
    obtain ⟨g, off, cs, rfl, k1, k2, _⟩ := hz.row.at_ (by simp)
    obtain ⟨a0, ha0⟩ : ∃ a, a = A.length := ⟨_, rfl⟩
    obtain ⟨N, hN⟩ : ∃ N, N = (A ++ [x]).length := ⟨_, rfl⟩
    have hN2 : N = a0 + 1 := by rw [hN, ha0]; simp
    rw [← hN] at HZ k1 ⊢
    have HN := hide hN
    have HA0 := hide ha0
    have HNA := hide hN2
    have hN9 : (N : Int) ≤ 201 := by omega
    have ha9 : (a0 : Int) ≤ 200 := by omega
    have wN : IntKind.i64.wrap ((N : Int) - 1) = (a0 : Int) := by rw [show (N : Int) - 1 = (a0 : Int) by omega]; exact IntWalk.i64_in _ (by omega)
    have y1 : decide (a0 < N) = true := by simp; omega
    have y2 : decide ((a0 : Int) < (N : Int)) = true := by simp; omega
    have y3 : (a0 : Int) < (N : Int) := by omega
    have hs9 : (cs : Int) ≤ 9223372036854775807 := by unfold maxLen at k2; omega
    have hNc : (N : Int) ≤ (cs : Int) := by omega
    clear hz hg hok ha hst he hN hN2 ha0 k2
    by_cases hl : i < n
    · obtain ⟨m, rfl⟩ : ∃ k, m = k + 1 := ⟨m - 1, by omega⟩
      have HM := hide hm
      have HIN := hide hl
      have HIL := hide (show i < L'.length by rw [HLE.out]; exact hl)
      have x1 : decide (i < n) = true := by simpa using hl
      have x2 : decide ((i : Int) < (n : Int)) = true := by simp; omega
      have x3 : (i : Int) < (n : Int) := by omega
      have wi : IntKind.i64.wrap ((i : Int) + 1) = ((i + 1 : Nat) : Int) := by rw [IntWalk.i64_in _ (by omega)]; omega
      clear hi hm hl
      go_upto_block 2 with fail
      go_cut [11] (fun fv wx => fv = .int .i64 (preA T L' i : Int) ∧ Below wr.heap.size wr wx)
      case first =>
        as_aux_lemma =>
        go_wp2_with fail
        go_loopw [11] (fun fv wq => ∃ f : Nat, fv = .int .i64 (f : Int) ∧ f ≤ i ∧ preA T L' f = preA T L' i ∧ Below wr.heap.size wr wq) (fun fv _ => (intOf fv).toNat)
        case atStart => exact ⟨i, rfl, Nat.le_refl _, rfl, Below.refl _ _⟩
        case round =>
          obtain ⟨f, rfl, hf, he, hb⟩ := hrel
          have HB := hide hb
          have HE2 := hide he
          by_cases hfp : 0 < f
          · obtain ⟨j, rfl⟩ : ∃ j, f = j + 1 := ⟨f - 1, by omega⟩
            obtain ⟨z, hz⟩ : ∃ z : Nat, z = j + 1 := ⟨_, rfl⟩
            rw [← hz] at HE2 ⊢
            have HZZ := hide hz
            have v1 : decide (0 < z) = true := by simp; omega
            have v2 : decide ((0 : Int) < (z : Int)) = true := by simp; omega
            have v3 : (0 : Int) < (z : Int) := by omega
            have wz : IntKind.i64.wrap ((z : Int) - 1) = (j : Int) := by rw [show (z : Int) - 1 = (j : Int) by omega]; exact IntWalk.i64_in _ (by omega)
            have u1 : decide (j < n) = true := by have := HIN.out; simp; omega
            have u2 : decide ((j : Int) < (n : Int)) = true := by simp; omega
            have u3 : (j : Int) < (n : Int) := by omega
            have HF := hide (show j ≤ i by omega)
            have hsc := HS.out.below (HZ.out.rs.bel.trans (hb.mono HZ.out.rs.bel.size))
            obtain ⟨gt, ot, ch, kj, eA, d0, hkj, hch, HC⟩ := hsc.look (j := j) (by rw [HLE.out]; have := HIN.out; omega)
            cases eA
            by_cases h10 : kj = 10
            · subst h10
              have HNX := hide (show preA T L' j = preA T L' i by rw [← HE2.out, HZZ.out, preA_step hkj.out.symm])
              clear hf he hb hfp hkj hch hz hsc
              go_wp2_with (go_at_call 35; (with_reducible refine Calls.mono (HC.out _ (Below.refl _ _)) ?_); rintro e w3 ⟨rfl, b3⟩; have HK := hide (HB.out.trans (b3.mono HB.out.size)); clear b3)
              go_roundw
              case rel => exact ⟨j, rfl, HF.out, HNX.out, HK.out⟩
              case measure => have := HZZ.out; simp [intOf]; omega
            · have g10 : (kj == 10) = false := by simpa using h10
              have HNX := hide (show preA T L' i = z by rw [← HE2.out, HZZ.out, preA_stop (by rw [← hkj.out]; exact h10)])
              clear hf he hb hfp hkj hch hz hsc h10
              go_wp2_with (go_at_call 35; (with_reducible refine Calls.mono (HC.out _ (Below.refl _ _)) ?_); rintro e w3 ⟨rfl, b3⟩; have HK := hide (HB.out.trans (b3.mono HB.out.size)); clear b3)
              go_meet
              exact ⟨by rw [HNX.out], HK.out⟩
          · obtain rfl : f = 0 := by omega
            have v1 : decide ((0 : Int) < ((0 : Nat) : Int)) = false := by simp
            have HNX := hide (show preA T L' i = 0 by rw [← HE2.out]; rfl)
            clear hf he hb hfp
            go_wp2_with fail
            go_meet
            exact ⟨by rw [HNX.out], HB.out⟩
      case rest =>
        obtain ⟨rfl, hbc⟩ := hcut
        have HBc := hide hbc
        obtain ⟨pr, hpr⟩ : ∃ p, p = preA T L' i := ⟨_, rfl⟩
        have HPR := hide (show (pr : Int) ≤ (i : Int) from by have := preA_le (T := T) (L := L') i; rw [hpr]; omega)
        have HPE := hide hpr
        rw [← hpr]
        have hp9 : (pr : Int) ≤ 1000000 := by have := HPR.out; omega
        have hsc := HS.out.below (HZ.out.rs.bel.trans (hbc.mono HZ.out.rs.bel.size))
        obtain ⟨gt, ot, ch, kj, eA, d0, hkj, hch, HC⟩ := hsc.look HIL.out
        cases eA
        have HSW := hide (fun (y : World) (hb : Below wr.heap.size wr y) => HS.out.below (HZ.out.rs.bel.trans (hb.mono HZ.out.rs.bel.size)))
        have HBW := hide (fun (y : World) (hb : Below wr.heap.size wr y) => HZ.out.rs.bel.trans (hb.mono HZ.out.rs.bel.size))
        have HR10 := hide (look_le HT.out ((L'.getD i 0 : Nat) : Int))
        clear hbc hpr hsc
        by_cases hgp : kj = 3 ∨ kj = 9 ∨ kj = 0 ∨ kj = 10
        · as_aux_lemma =>
            have HEN := hide ((bck_gap (T := T) (a := 13) (b := 5) (c := 12) (d := 9) (n := m) (S := S) (top := top) (bar := bar) HIL.out (by rw [← hkj.out]; exact hgp)).symm.trans HE.out)
            clear hkj hch
            rcases hgp with rfl | rfl | rfl | rfl
            all_goals
              go_wp2_with (go_at_call 35; (with_reducible refine Calls.mono (HC.out _ (Below.refl _ _)) ?_); rintro e w3 ⟨rfl, b3⟩; have HK := hide (HBc.out.trans (b3.mono HBc.out.size)); skip; clear b3)
              go_roundw
              case rel => exact ⟨i + 1, m, A, x, S, top, bar, rfl, by omega, by have := HM.out; omega, HEN.out, HG.out, HOK.out.up (Nat.le_succ i), HZ.out.below HK.out, HA.out, fun y hy => Nat.le_trans (HST.out y hy) (by omega)⟩
              case measure => simp [intOf] <;> omega
        have g3 : (kj == 3) = false := by simp; omega
        have g9 : (kj == 9) = false := by simp; omega
        have g0 : (kj == 0) = false := by simp; omega
        have g10 : (kj == 10) = false := by simp; omega
        have HKN := hide hgp
        clear hgp
        by_cases h8 : kj = 8
        · as_aux_lemma =>
            have HCM := hide (fun (y : World) (hb : Below wr.heap.size wr y) => rcomment_any (HSW.out y hb) (Nat.le_of_lt HIL.out))
            have HCA := hide (show cmtA T L' i = cmtF T L' i by rw [cmtA_eq, cmtF_step HIL.out (by rw [← hkj.out]; omega)])
            have HK8 := hide (show T.at_ L' i = 8 by rw [← hkj.out]; exact h8)
            obtain ⟨e0, he0⟩ : ∃ e, e = cmtF T L' i := ⟨_, rfl⟩
            have HE0 := hide (show i < e0 ∧ e0 ≤ n by
              have h1 := cmtF_le (T := T) (L := L') (i := i + 1) HIL.out
              rw [he0, cmtF_step HIL.out (by rw [HK8.out]; omega)]
              rw [HLE.out] at h1
              omega)
            rw [← he0] at HCM HCA
            have he9 : (e0 : Int) ≤ 1000000 := by have := HE0.out; omega
            subst h8
            clear hkj hch he0
            by_cases hen : e0 = n
            · have s1 : decide (e0 = n) = true := by simpa using hen
              have s2 : ((e0 : Int) == (n : Int)) = true := by simp; omega
              obtain ⟨p, hp⟩ : ∃ p, n = p + 1 := ⟨n - 1, by have := HIN.out; omega⟩
              have wp' : IntKind.i64.wrap ((n : Int) - 1) = (p : Int) := by rw [show (n : Int) - 1 = (p : Int) by omega]; exact IntWalk.i64_in _ (by omega)
              have p1 : decide (p < n) = true := by simp; omega
              have p2 : decide ((p : Int) < (n : Int)) = true := by simp; omega
              have p3 : (p : Int) < (n : Int) := by omega
              obtain ⟨gt', ot', cp, kp, eA, d1, hkp, hcp, HCP⟩ := (HSW.out wc HBc.out).look (j := p) (by rw [HLE.out]; omega)
              cases eA
              have HP := hide hp
              have HEN0 := hide hen
              have HCQ := hide (fun (y : World) (hb : Below wr.heap.size wr y) => (show Calls Tryd.prog 35 #[.pointer (some ⟨r, 0, none⟩), .int .i64 cp] y (fun e w' => e = .returned (.int .i64 kp) ∧ Below y.heap.size y w') from by
                have := rClass_any (HSW.out y hb).tab cp
                rw [show T.cl cp = kp by rw [hkp.out, hcp.out]; rfl] at this
                exact this))
              by_cases h9 : kp = 9
              · have HEN := hide (show bck T 13 5 12 9 L' m S top bar e0 = R by
                  rw [← HE.out, bck_cmt HIL.out HK8.out (fun hh => hh.2 (by rw [HCA.out, HEN0.out, HP.out, Nat.add_sub_cancel, ← hkp.out]; exact h9)), HCA.out])
                subst h9
                clear hen hp hkp hcp
                go_wp2_with (first | (go_at_call 35; (with_reducible refine Calls.mono (HC.out _ (Below.refl _ _)) ?_); rintro e w3 ⟨rfl, b3⟩; have HK := hide (HBc.out.trans (b3.mono HBc.out.size)); have d2 := cell_keep d1 b3; clear b3) | (go_at_call 84; (with_reducible refine Calls.mono (HCM.out _ HK.out) ?_); rintro e w4 ⟨rfl, b4⟩; have HQ := hide (HK.out.trans (b4.mono HK.out.size)); have d3 := cell_keep d2 b4; clear b4) | (go_at_call 35; (with_reducible refine Calls.mono (HCQ.out _ HQ.out) ?_); rintro e w5 ⟨rfl, b5⟩; have HX := hide (HQ.out.trans (b5.mono HQ.out.size)); skip; clear b5))
                go_roundw
                case rel => exact ⟨e0, m, A, x, S, top, bar, rfl, HE0.out.2, by have := HM.out; have := HE0.out; omega, HEN.out, HG.out, HOK.out.up (by have := HE0.out; omega), HZ.out.below HX.out, HA.out, fun y hy => Nat.le_trans (HST.out y hy) (by have := HE0.out; omega)⟩
                case measure => have := HE0.out; simp [intOf]; omega
              · have HRR := hide (show R = (0, 9, (i : Int)) by
                  rw [← HE.out, bck_cmt_bad HIL.out HK8.out ⟨by rw [HCA.out, HLE.out]; exact HEN0.out, by rw [HCA.out, HEN0.out, HP.out, Nat.add_sub_cancel, ← hkp.out]; exact h9⟩])
                have g9' : (kp != 9) = true := by simpa using h9
                have g9'' : (kp == 9) = false := by simpa using h9
                clear hen hp hkp hcp h9
                go_wp2_with (first | (go_at_call 35; (with_reducible refine Calls.mono (HC.out _ (Below.refl _ _)) ?_); rintro e w3 ⟨rfl, b3⟩; have HK := hide (HBc.out.trans (b3.mono HBc.out.size)); have d2 := cell_keep d1 b3; clear b3) | (go_at_call 84; (with_reducible refine Calls.mono (HCM.out _ HK.out) ?_); rintro e w4 ⟨rfl, b4⟩; have HQ := hide (HK.out.trans (b4.mono HK.out.size)); have d3 := cell_keep d2 b4; clear b4) | (go_at_call 35; (with_reducible refine Calls.mono (HCQ.out _ HQ.out) ?_); rintro e w5 ⟨rfl, b5⟩; have HX := hide (HQ.out.trans (b5.mono HQ.out.size)); have HBB := hide (HBW.out _ HX.out); have HRK := hide (HRB.out.below HBB.out HRB.out.lt); have t0 := HRK.out.cell 0; have t1 := HRK.out.cell 1; have t2 := HRK.out.frozen 0; have t3 := HRK.out.frozen 1; clear b5))
                refine bodyPost_ret (results_tmp_cell rfl _ _ w.heap.size 40 #[.int .i64 (9), .int .i64 ((i : Int))] (0, 0) _ rfl ((HRK.out.set_ 0 _).set_ 1 _) Tryd.underlying40 rfl (by kernel_rfl)) rfl ?_
                exact ⟨by rw [HR.out]; rw [HRR.out]; rfl, ((HB0.out.trans (HBB.out.mono HB0.out.size)).setCell (p := ⟨w.heap.size, 0, none⟩) (Nat.le_refl _) _).setCell (p := ⟨w.heap.size, 1, none⟩) (Nat.le_refl _) _⟩
            · have s1 : decide (e0 = n) = false := by simpa using hen
              have s2 : ((e0 : Int) == (n : Int)) = false := by simp; omega
              have HEN := hide (show bck T 13 5 12 9 L' m S top bar e0 = R by
                rw [← HE.out, bck_cmt HIL.out HK8.out (fun hh => hen (by have h9 := hh.1; rw [HCA.out, HLE.out] at h9; exact h9)), HCA.out])
              clear hen
              go_wp2_with (first | (go_at_call 35; (with_reducible refine Calls.mono (HC.out _ (Below.refl _ _)) ?_); rintro e w3 ⟨rfl, b3⟩; have HK := hide (HBc.out.trans (b3.mono HBc.out.size)); skip; clear b3) | (go_at_call 84; (with_reducible refine Calls.mono (HCM.out _ HK.out) ?_); rintro e w4 ⟨rfl, b4⟩; have HQ := hide (HK.out.trans (b4.mono HK.out.size)); skip; clear b4))
              go_roundw
              case rel => exact ⟨e0, m, A, x, S, top, bar, rfl, HE0.out.2, by have := HM.out; have := HE0.out; omega, HEN.out, HG.out, HOK.out.up (by have := HE0.out; omega), HZ.out.below HQ.out, HA.out, fun y hy => Nat.le_trans (HST.out y hy) (by have := HE0.out; omega)⟩
              case measure => have := HE0.out; simp [intOf]; omega
        have g8 : (kj == 8) = false := by simpa using h8
        by_cases h6 : kj = 6
        · as_aux_lemma =>
            have HK6 := hide (show T.at_ L' i = 6 by rw [← hkj.out]; exact h6)
            have HQU := hide (fun (y : World) (hb : Below wr.heap.size wr y) => rquoted_any (HSW.out y hb) HIL.out)
            subst h6
            clear hkj hch
            cases hq : quoA T L' i with
            | none =>
              rw [hq, show quoR none = .tuple #[.int .i64 0, .bool false] from rfl] at HQU
              have HRR := hide (show R = (0, 9, (i : Int)) by rw [← HE.out, bck_str_bad HIL.out HK6.out hq])
              clear hq
              go_wp2_with (first | (go_at_call 35; (with_reducible refine Calls.mono (HC.out _ (Below.refl _ _)) ?_); rintro e w3 ⟨rfl, b3⟩; have HK := hide (HBc.out.trans (b3.mono HBc.out.size)); skip; clear b3) | (go_at_call 81; (with_reducible refine Calls.mono (HQU.out _ HK.out) ?_); rintro e w4 ⟨rfl, b4⟩; have HQ := hide (HK.out.trans (b4.mono HK.out.size)); have HBB := hide (HBW.out _ HQ.out); have HRK := hide (HRB.out.below HBB.out HRB.out.lt); have t0 := HRK.out.cell 0; have t1 := HRK.out.cell 1; have t2 := HRK.out.frozen 0; have t3 := HRK.out.frozen 1; clear b4))
              refine bodyPost_ret (results_tmp_cell rfl _ _ w.heap.size 40 #[.int .i64 (9), .int .i64 ((i : Int))] (0, 0) _ rfl ((HRK.out.set_ 0 _).set_ 1 _) Tryd.underlying40 rfl (by kernel_rfl)) rfl ?_
              exact ⟨by rw [HR.out]; rw [HRR.out]; rfl, ((HB0.out.trans (HBB.out.mono HB0.out.size)).setCell (p := ⟨w.heap.size, 0, none⟩) (Nat.le_refl _) _).setCell (p := ⟨w.heap.size, 1, none⟩) (Nat.le_refl _) _⟩
            | some e0 =>
              rw [hq, show quoR (some e0) = .tuple #[.int .i64 (e0 : Int), .bool true] from rfl] at HQU
              have HEN := hide (show bck T 13 5 12 9 L' m (laidIn S top (pr : Int)).1 (laidIn S top (pr : Int)).2 bar e0 = R by rw [← HE.out, bck_str HIL.out HK6.out hq, ← HPE.out])
              have HE0 := hide (show i < e0 ∧ e0 ≤ n by
                have h1 := hq
                rw [quoA_eq] at h1
                have h2 := quoF_le h1
                rw [HLE.out] at h2
                omega)
              clear hq
              have hxs := (HZ.out.rs.sl (lvR x) (List.mem_map_of_mem (by simp))).1
              obtain ⟨Ax, cx, ex, _, _⟩ := hxs.form
              have ex2 : x.sv = .slice Ax x.st.length cx := ex
              have hxl := HST.out x (by simp)
              obtain ⟨lx, hlx⟩ : ∃ l, l = x.st.length := ⟨_, rfl⟩
              have HXS := hide (show Sl wr 3 1 (.slice Ax lx cx) lx (nints x.st) by rw [hlx, ← ex2]; exact hxs)
              have HXV := hide (show x.sv = .slice Ax lx cx by rw [hlx]; exact ex2)
              have HXL := hide hlx
              have hx9 : (lx : Int) ≤ 1000000 := by omega
              clear hxs ex ex2 hxl hlx
              go_wp2_with (first | (go_at_call 35; (with_reducible refine Calls.mono (HC.out _ (Below.refl _ _)) ?_); rintro e w3 ⟨rfl, b3⟩; have HK := hide (HBc.out.trans (b3.mono HBc.out.size)); skip; clear b3) | (go_at_call 81; (with_reducible refine Calls.mono (HQU.out _ HK.out) ?_); rintro e w4 ⟨rfl, b4⟩; have HQ := hide (HK.out.trans (b4.mono HK.out.size)); have kk := (HZ.out.below HQ.out).at_; have k5 := kk.2.2.1; rw [HXV.out, ← HA0.out] at k5; clear kk; clear b4) | (at_builtin; refine wpList_append_sl rfl (.tmp 114) (.tmp 116) 24 rfl 3 i0 (.int .i64 0) 1 8 Tryd.underlying24 HI.out HI1.out HI2.out HI3.out rfl (.slice Ax lx cx) lx (nints x.st) rfl ((HXS.out.only (Only.of_below (F := fun _ => False) HQ.out) fun _ _ f => f).alloc (.cells #[.int .i64 (pr : Int)] 3)) _ rfl 1 [.int .i64 (pr : Int)] (rd_elem w4 3 1 [.int .i64 (pr : Int)] rfl) (fun u hu => by simp at hu; rw [hu]; rfl) ?b1 ?b2 ?_))
              case b1 => unfold maxLen; omega
              case b2 => omega
              intro v2 w6 hs6 ho6 hv6
              have HMI := hide (show ZMid w1 w6 (.slice (some ⟨g, off, none⟩) N cs) A [] x v2 (x.st ++ [(pr : Int)]) from ((HZ.out.below HQ.out).below (below_box _ _)).append (by rw [nints_snoc, List.length_append, ← HXL.out]; exact hs6) (by rw [HXV.out]; exact ho6) (by rw [HXV.out]; exact hv6.imp Eq.symm fun e => ⟨_, e, by rw [World.size_alloc]; exact Nat.le_refl _⟩))
              obtain ⟨Av, cv, rfl, _, _⟩ := hs6.form
              clear hs6 ho6 hv6
              have HMX := HMI
              have m0 := HMX.out.at_.1
              have m1 := HMX.out.at_.2 (off + A.length * 3 + 2)
              rw [← HA0.out] at m0 m1
              rw [HXV.out] at m0
              go_wp2_with fail
              go_roundw
              case rel => exact ⟨e0, m, A, { x with st := x.st ++ [(pr : Int)], sv := .slice Av (lx + 1) cv }, (laidIn S top (pr : Int)).1, (laidIn S top (pr : Int)).2, bar, rfl, HE0.out.2, by have := HE0.out; have := HM.out; omega, HEN.out, HG.out.put (by omega) _, (HOK.out.up (Nat.le_of_lt HE0.out.1)).laid (by omega) (by have := HPR.out; have := HE0.out; omega), by
                  have h9 := HMX.out.store HN.out
                  rw [← HA0.out] at h9
                  exact h9, HA.out, fun y hy => by
                  rcases List.mem_append.1 hy with hy | hy
                  · exact Nat.le_trans (HST.out y (by simp [hy])) (by have := HE0.out; omega)
                  · obtain rfl : y = { x with st := x.st ++ [(pr : Int)], sv := .slice Av (lx + 1) cv } := by simpa using hy
                    have := HST.out x (by simp)
                    have := HE0.out
                    simp
                    omega⟩
              case measure => have := HE0.out; simp [intOf]; omega
        have g6 : (kj == 6) = false := by simpa using h6
        by_cases h4 : kj = 4
        · as_aux_lemma =>
            have HK4 := hide (show T.at_ L' i = 4 by rw [← hkj.out]; exact h4)
            subst h4
            clear hkj hch
            have HSL := hide (show S.length = a0 by have h1 := HG.out.len; rw [← HN.out] at h1; have := HNA.out; omega)
            by_cases hdp : 200 ≤ a0
            · have HRR := hide (show R = (0, 12, (i : Int)) by rw [← HE.out, bck_deep HIL.out HK4.out (by rw [HSL.out]; exact hdp)])
              have s1 : decide ((200 : Int) < (N : Int)) = true := by have := HNA.out; simp; omega
              have s2 : (200 : Int) < (N : Int) := by have := HNA.out; omega
              clear hdp
              go_wp2_with (go_at_call 35; (with_reducible refine Calls.mono (HC.out _ (Below.refl _ _)) ?_); rintro e w3 ⟨rfl, b3⟩; have HK := hide (HBc.out.trans (b3.mono HBc.out.size)); have HBB := hide (HBW.out _ HK.out); have HRK := hide (HRB.out.below HBB.out HRB.out.lt); have t0 := HRK.out.cell 0; have t1 := HRK.out.cell 1; have t2 := HRK.out.frozen 0; have t3 := HRK.out.frozen 1; clear b3)
              refine bodyPost_ret (results_tmp_cell rfl _ _ w.heap.size 40 #[.int .i64 (12), .int .i64 ((i : Int))] (0, 0) _ rfl ((HRK.out.set_ 0 _).set_ 1 _) Tryd.underlying40 rfl (by kernel_rfl)) rfl ?_
              exact ⟨by rw [HR.out]; rw [HRR.out]; rfl, ((HB0.out.trans (HBB.out.mono HB0.out.size)).setCell (p := ⟨w.heap.size, 0, none⟩) (Nat.le_refl _) _).setCell (p := ⟨w.heap.size, 1, none⟩) (Nat.le_refl _) _⟩
            · have HEN := hide ((bck_open (T := T) (a := 13) (b := 5) (c := 12) (d := 9) (n := m) (top := top) (bar := bar) HIL.out HK4.out (by rw [HSL.out]; omega)).symm.trans HE.out)
              rw [← HPE.out] at HEN
              have s1 : decide ((200 : Int) < (N : Int)) = false := by have := HNA.out; simp; omega
              have s2 : ¬ (200 : Int) < (N : Int) := by have := HNA.out; omega
              have HAL := hide (show a0 + 1 ≤ 200 by omega)
              have HROW := hide HZ.out.row
              rw [← HN.out] at HROW
              clear hdp
              go_wp2_with (first | (go_at_call 35; (with_reducible refine Calls.mono (HC.out _ (Below.refl _ _)) ?_); rintro e w3 ⟨rfl, b3⟩; have HK := hide (HBc.out.trans (b3.mono HBc.out.size)); skip; clear b3) | (at_builtin; refine wpList_append_sl rfl (.tmp 128) (.tmp 132) 100 rfl 99 l0 (.agg #[.int .i64 0, .int .i64 0, .slice none 0 0]) 3 40 Tryd.underlying100 HL.out HL1.out HL2.out HL3.out rfl (.slice (some ⟨g, off, none⟩) N cs) N (rows lvC (A ++ [x])) rfl ((HROW.out.only (Only.of_below (F := fun _ => False) HK.out) fun _ _ f => f).alloc (.cells (lvC ⟨(i : Int), (pr : Int), [], .slice none 0 0⟩).toArray 99)) _ rfl 1 (lvC ⟨(i : Int), (pr : Int), [], .slice none 0 0⟩) (rd_elem w3 99 3 (lvC ⟨(i : Int), (pr : Int), [], .slice none 0 0⟩) rfl) (fun u hu => by simp [lvC] at hu; rcases hu with rfl | rfl | rfl <;> rfl) ?b1 ?b2 ?_))
              case b1 => unfold maxLen; omega
              case b2 => omega
              intro v2 w6 hs6 ho6 hv6
              have HZN := hide (show ZSt w1 w6 v2 ((A ++ [x]) ++ [⟨(i : Int), (pr : Int), [], .slice none 0 0⟩]) from (HZ.out.below HK.out).push _ (by rw [← HN.out]; exact hs6) ho6 (by rw [World.size_alloc]; exact hv6))
              obtain ⟨Av, cv, rfl, _, _⟩ := hs6.form
              clear hs6 ho6 hv6
              go_wp2_with fail
              go_roundw
              case rel => exact ⟨i + 1, m, A ++ [x], ⟨(i : Int), (pr : Int), [], .slice none 0 0⟩, ((i : Int), (pr : Int), -1) :: S, top, bar, rfl, by omega, by have := HM.out; omega, HEN.out, HG.out.push _ _, by
                  have h9 := HOK.out.open_ (T := T) (L := L')
                  rw [← HPE.out] at h9
                  exact h9, HZN.out, by rw [← HN.out]; have := HNA.out; have := HAL.out; omega, fun y hy => by
                  rcases List.mem_append.1 hy with hy | hy
                  · exact Nat.le_trans (HST.out y hy) (Nat.le_succ i)
                  · obtain rfl : y = ⟨(i : Int), (pr : Int), [], .slice none 0 0⟩ := by simpa using hy
                    exact Nat.zero_le _⟩
              case measure => simp [intOf]; omega
        have g4 : (kj == 4) = false := by simpa using h4
        by_cases h5 : kj = 5
        · as_aux_lemma =>
            have HK5 := hide (show T.at_ L' i = 5 by rw [← hkj.out]; exact h5)
            have HCH := hide hch.out
            subst h5
            clear hkj hch
            by_cases hk0 : a0 = 0
            · have HA00 := hide (show A = [] from List.eq_nil_of_length_eq_zero (by rw [← HA0.out]; exact hk0))
              have HEN := hide (show bck T 13 5 12 9 L' m [] (-1) (i : Int) (i + 1) = R by
                have h1 := HG.out
                rw [HA00.out] at h1
                obtain ⟨h2, _⟩ := h1.none
                have h3 := HE.out
                rw [h2, bck_close0 HIL.out HK5.out] at h3
                exact h3)
              have s1 : decide (a0 = 0) = true := by simpa using hk0
              have s2 : ((a0 : Int) == 0) = true := by simp; omega
              clear hk0
              go_upto_region 32 with (go_at_call 35; (with_reducible refine Calls.mono (HC.out _ (Below.refl _ _)) ?_); rintro e w3 ⟨rfl, b3⟩; have HK := hide (HBc.out.trans (b3.mono HBc.out.size)); skip; clear b3)
              refine wp_region_d (S := fun _ => True) (D := []) (by kernel_rfl) ?_
              change wpAnyD _ _ _ _ _ _ _ _ _ w3.drew
              refine wpAnyD_takeW (i := 0) (oi := { dst := some 138, op := Op.move (Operand.tmp 10), type := 3, pos := "ref.go:343", after := #[], guard := none }) (v := ?_) rfl (by kernel_rfl) (by kernel_rfl) (by kernel_rfl) (fun _ _ _ h => h) (Or.inl ⟨by rfl, ?_⟩) ?_
              rotate_left
              · intro w hSw
                clear hSw
                go_simp
                all_goals with_reducible rfl
              simp only [Act.put, List.setIfInBounds_toArray, List.set_cons_zero, List.set_cons_succ]
              refine wpAnyD_takeW (i := 1) (oi := { dst := some 139, op := Op.binOp BinOp.eql 3 (Operand.tmp 138) (Operand.const (Value.int IntKind.i64 0)) 3, type := 4, pos := "ref.go:343", after := #[{ on := 0, ground := Ground.data }], guard := none }) (v := ?_) rfl (by kernel_rfl) (by kernel_rfl) (by kernel_rfl) (fun _ _ _ h => h) (Or.inl ⟨by rfl, ?_⟩) ?_
              rotate_left
              · intro w hSw
                clear hSw
                go_simp
                all_goals with_reducible rfl
              simp only [Act.put, List.setIfInBounds_toArray, List.set_cons_zero, List.set_cons_succ]
              refine wpAnyD_takeW (i := 2) (oi := { dst := some 140, op := Op.move (Operand.tmp 139), type := 4, pos := "ref.go:343", after := #[{ on := 1, ground := Ground.data }], guard := none }) (v := ?_) rfl (by kernel_rfl) (by kernel_rfl) (by kernel_rfl) (fun _ _ _ h => h) (Or.inl ⟨by rfl, ?_⟩) ?_
              rotate_left
              · intro w hSw
                clear hSw
                go_simp
                all_goals with_reducible rfl
              simp only [Act.put, List.setIfInBounds_toArray, List.set_cons_zero, List.set_cons_succ]
              refine wpAnyD_takeW (i := 3) (oi := { dst := some 141, op := Op.move (Operand.tmp 1), type := 24, pos := "ref.go:343", after := #[{ on := 2, ground := Ground.guard }], guard := some (2, false) }) (v := undef) rfl (by kernel_rfl) (by kernel_rfl) (by kernel_rfl) (fun _ _ _ h => h) (Or.inr ⟨by rfl, rfl⟩) ?_
              simp only [Act.put, List.setIfInBounds_toArray, List.set_cons_zero, List.set_cons_succ]
              refine wpAnyD_takeW (i := 4) (oi := { dst := some 142, op := Op.move (Operand.tmp 9), type := 3, pos := "ref.go:343", after := #[{ on := 2, ground := Ground.guard }], guard := some (2, false) }) (v := undef) rfl (by kernel_rfl) (by kernel_rfl) (by kernel_rfl) (fun _ _ _ h => h) (Or.inr ⟨by rfl, rfl⟩) ?_
              simp only [Act.put, List.setIfInBounds_toArray, List.set_cons_zero, List.set_cons_succ]
              refine wpAnyD_takeW (i := 5) (oi := { dst := some 143, op := Op.indexAddr 24 (Operand.tmp 141) (Operand.tmp 142), type := 0, pos := "ref.go:343", after := #[{ on := 3, ground := Ground.data }, { on := 4, ground := Ground.data }, { on := 2, ground := Ground.guard }], guard := some (2, false) }) (v := undef) rfl (by kernel_rfl) (by kernel_rfl) (by kernel_rfl) (fun _ _ _ h => h) (Or.inr ⟨by rfl, rfl⟩) ?_
              simp only [Act.put, List.setIfInBounds_toArray, List.set_cons_zero, List.set_cons_succ]
              refine wpAnyD_takeW (i := 6) (oi := { dst := some 144, op := Op.load 3 (Operand.tmp 143), type := 3, pos := "ref.go:343", after := #[{ on := 5, ground := Ground.data }, { on := 2, ground := Ground.guard }], guard := some (2, false) }) (v := undef) rfl (by kernel_rfl) (by kernel_rfl) (by kernel_rfl) (fun _ _ _ h => h) (Or.inr ⟨by rfl, rfl⟩) ?_
              simp only [Act.put, List.setIfInBounds_toArray, List.set_cons_zero, List.set_cons_succ]
              refine wpAnyD_takeW (i := 7) (oi := { dst := some 145, op := Op.move (Operand.tmp 0), type := 29, pos := "ref.go:343", after := #[{ on := 2, ground := Ground.guard }], guard := some (2, false) }) (v := undef) rfl (by kernel_rfl) (by kernel_rfl) (by kernel_rfl) (fun _ _ _ h => h) (Or.inr ⟨by rfl, rfl⟩) ?_
              simp only [Act.put, List.setIfInBounds_toArray, List.set_cons_zero, List.set_cons_succ]
              refine wpAnyD_takeW (i := 8) (oi := { dst := some 146, op := Op.move (Operand.tmp 1), type := 24, pos := "ref.go:343", after := #[{ on := 2, ground := Ground.guard }], guard := some (2, false) }) (v := undef) rfl (by kernel_rfl) (by kernel_rfl) (by kernel_rfl) (fun _ _ _ h => h) (Or.inr ⟨by rfl, rfl⟩) ?_
              simp only [Act.put, List.setIfInBounds_toArray, List.set_cons_zero, List.set_cons_succ]
              refine wpAnyD_takeW (i := 9) (oi := { dst := some 147, op := Op.move (Operand.tmp 8), type := 100, pos := "ref.go:343", after := #[{ on := 2, ground := Ground.guard }], guard := some (2, false) }) (v := undef) rfl (by kernel_rfl) (by kernel_rfl) (by kernel_rfl) (fun _ _ _ h => h) (Or.inr ⟨by rfl, rfl⟩) ?_
              simp only [Act.put, List.setIfInBounds_toArray, List.set_cons_zero, List.set_cons_succ]
              refine wpAnyD_takeW (i := 10) (oi := { dst := some 148, op := Op.move (Operand.tmp 10), type := 3, pos := "ref.go:343", after := #[{ on := 2, ground := Ground.guard }], guard := some (2, false) }) (v := undef) rfl (by kernel_rfl) (by kernel_rfl) (by kernel_rfl) (fun _ _ _ h => h) (Or.inr ⟨by rfl, rfl⟩) ?_
              simp only [Act.put, List.setIfInBounds_toArray, List.set_cons_zero, List.set_cons_succ]
              refine wpAnyD_takeW (i := 11) (oi := { dst := some 149, op := Op.indexAddr 100 (Operand.tmp 147) (Operand.tmp 148), type := 0, pos := "ref.go:343", after := #[{ on := 9, ground := Ground.data }, { on := 10, ground := Ground.data }, { on := 2, ground := Ground.guard }], guard := some (2, false) }) (v := undef) rfl (by kernel_rfl) (by kernel_rfl) (by kernel_rfl) (fun _ _ _ h => h) (Or.inr ⟨by rfl, rfl⟩) ?_
              simp only [Act.put, List.setIfInBounds_toArray, List.set_cons_zero, List.set_cons_succ]
              refine wpAnyD_takeW (i := 12) (oi := { dst := some 150, op := Op.fieldAddr 99 (Operand.tmp 149) 0, type := 0, pos := "ref.go:343", after := #[{ on := 11, ground := Ground.data }, { on := 2, ground := Ground.guard }], guard := some (2, false) }) (v := undef) rfl (by kernel_rfl) (by kernel_rfl) (by kernel_rfl) (fun _ _ _ h => h) (Or.inr ⟨by rfl, rfl⟩) ?_
              simp only [Act.put, List.setIfInBounds_toArray, List.set_cons_zero, List.set_cons_succ]
              refine wpAnyD_takeW (i := 13) (oi := { dst := some 151, op := Op.load 3 (Operand.tmp 150), type := 3, pos := "ref.go:343", after := #[{ on := 12, ground := Ground.data }, { on := 2, ground := Ground.guard }], guard := some (2, false) }) (v := undef) rfl (by kernel_rfl) (by kernel_rfl) (by kernel_rfl) (fun _ _ _ h => h) (Or.inr ⟨by rfl, rfl⟩) ?_
              simp only [Act.put, List.setIfInBounds_toArray, List.set_cons_zero, List.set_cons_succ]
              refine wpAnyD_takeW (i := 14) (oi := { dst := some 152, op := Op.indexAddr 24 (Operand.tmp 146) (Operand.tmp 151), type := 0, pos := "ref.go:343", after := #[{ on := 8, ground := Ground.data }, { on := 13, ground := Ground.data }, { on := 2, ground := Ground.guard }], guard := some (2, false) }) (v := undef) rfl (by kernel_rfl) (by kernel_rfl) (by kernel_rfl) (fun _ _ _ h => h) (Or.inr ⟨by rfl, rfl⟩) ?_
              simp only [Act.put, List.setIfInBounds_toArray, List.set_cons_zero, List.set_cons_succ]
              refine wpAnyD_takeW (i := 15) (oi := { dst := some 153, op := Op.load 3 (Operand.tmp 152), type := 3, pos := "ref.go:343", after := #[{ on := 14, ground := Ground.data }, { on := 2, ground := Ground.guard }], guard := some (2, false) }) (v := undef) rfl (by kernel_rfl) (by kernel_rfl) (by kernel_rfl) (fun _ _ _ h => h) (Or.inr ⟨by rfl, rfl⟩) ?_
              simp only [Act.put, List.setIfInBounds_toArray, List.set_cons_zero, List.set_cons_succ]
              refine wpAnyD_takeW (i := 16) (oi := { dst := some 154, op := Op.call { callee := Callee.value (Operand.func 36), args := #[Operand.tmp 145, Operand.tmp 153], argTypes := #[29, 3] }, type := 3, pos := "ref.go:343", after := #[{ on := 7, ground := Ground.data }, { on := 15, ground := Ground.data }, { on := 2, ground := Ground.chain }, { on := 2, ground := Ground.guard }], guard := some (2, false) }) (v := undef) rfl (by kernel_rfl) (by kernel_rfl) (by kernel_rfl) (fun _ _ _ h => h) (Or.inr ⟨by rfl, rfl⟩) ?_
              simp only [Act.put, List.setIfInBounds_toArray, List.set_cons_zero, List.set_cons_succ]
              refine wpAnyD_takeW (i := 17) (oi := { dst := some 155, op := Op.binOp BinOp.neq 3 (Operand.tmp 144) (Operand.tmp 154) 3, type := 4, pos := "ref.go:343", after := #[{ on := 6, ground := Ground.data }, { on := 16, ground := Ground.data }, { on := 2, ground := Ground.guard }], guard := some (2, false) }) (v := undef) rfl (by kernel_rfl) (by kernel_rfl) (by kernel_rfl) (fun _ _ _ h => h) (Or.inr ⟨by rfl, rfl⟩) ?_
              simp only [Act.put, List.setIfInBounds_toArray, List.set_cons_zero, List.set_cons_succ]
              refine wpAnyD_takeW (i := 18) (oi := { dst := some 156, op := Op.pick (Operand.tmp 140) (Operand.const (Value.bool true)) (Operand.tmp 155), type := 4, pos := "ref.go:343", after := #[{ on := 2, ground := Ground.data }, { on := 17, ground := Ground.data }], guard := none }) (v := ?_) rfl (by kernel_rfl) (by kernel_rfl) (by kernel_rfl) (fun _ _ _ h => h) (Or.inl ⟨by rfl, ?_⟩) ?_
              rotate_left
              · intro w hSw
                clear hSw
                go_simp
                all_goals with_reducible rfl
              simp only [Act.put, List.setIfInBounds_toArray, List.set_cons_zero, List.set_cons_succ]
              refine wpAnyD_done (by kernel_rfl) ?_ _
              have HX := hide (HK.out.drew)
              go_wp2_with fail
              go_roundw
              case rel => exact ⟨i + 1, m, [], ⟨-1, (i : Int), [], .slice none 0 0⟩, [], -1, (i : Int), rfl, by omega, by have := HM.out; omega, HEN.out, Gh.start _, HOK.out.wall, ZSt.fresh (HBW.out _ HX.out) (-1) (i : Int), Nat.zero_le _, fun y hy => by
                  obtain rfl : y = ⟨-1, (i : Int), [], .slice none 0 0⟩ := by simpa using hy
                  exact Nat.zero_le _⟩
              case measure => simp [intOf]; omega
            · have s1 : decide (a0 = 0) = false := by simpa using hk0
              have s2 : ((a0 : Int) == 0) = false := by simp; omega
              have HANE := hide (show A ≠ [] from fun e => hk0 (by rw [HA0.out, e]; rfl))
              obtain ⟨S', hS', hg2⟩ := HG.out.drop HANE.out
              have HG2' := hide hg2
              have hlv := HOK.out
              rw [hS'] at hlv
              have HOK2 := hide hlv.tail
              have hl1 := hlv.1 _ (List.mem_cons_self ..)
              unfold LvlOk at hl1
              simp only [] at hl1
              obtain ⟨ob, hob⟩ : ∃ o : Nat, x.op = (o : Int) := ⟨x.op.toNat, by omega⟩
              have HOB := hide hob
              have HXB := hide (show 0 ≤ x.bar ∧ x.bar < (i : Int) from ⟨hl1.2.2.1, hl1.2.2.2.1⟩)
              have HSE := hide hS'
              have hoi : ob < i := by omega
              have o1 : decide (ob < n) = true := by simp; omega
              have o2 : decide ((ob : Int) < (n : Int)) = true := by simp; omega
              have o3 : (ob : Int) < (n : Int) := by omega
              have o4 : (0 : Int) ≤ (ob : Int) := by omega
              obtain ⟨gt', ot', co, ko, eA, d1, _, hco, _⟩ := (HSW.out wc HBc.out).look (j := ob) (by rw [HLE.out]; omega)
              cases eA
              have HCO := hide hco.out
              have HMA := hide (fun (y : World) (hb : Below wr.heap.size wr y) => rMate_any (HSW.out y hb).tab co)
              obtain ⟨mo, hmo⟩ : ∃ z, z = T.mate co := ⟨_, rfl⟩
              rw [← hmo] at HMA
              have HMO := hide hmo
              clear hk0 hg2 hlv hl1 hob hS' hoi hco hmo
              by_cases hmt : ch = mo
              · have HEN := hide (show bck T 13 5 12 9 L' m (laidIn S' top x.bar).1 (laidIn S' top x.bar).2 bar (i + 1) = R by
                  have h3 := HE.out
                  rw [HSE.out, bck_close HIL.out HK5.out (by rw [← HCH.out, HOB.out, Int.toNat_natCast, ← HCO.out, ← HMO.out]; exact hmt)] at h3
                  exact h3)
                have e1 : (ch == mo) = true := by simpa using hmt
                have e2 : (ch != mo) = false := by simpa using hmt
                clear hmt
                obtain ⟨A1, y, hae⟩ : ∃ A1 y, A = A1 ++ [y] := by
                  rcases List.eq_nil_or_concat A with e | ⟨A1, y, e⟩
                  · exact absurd e HANE.out
                  · exact ⟨A1, y, by rw [e, List.concat_eq_append]⟩
                have HAE := hide hae
                obtain ⟨a1, ha1⟩ : ∃ a, a = A1.length := ⟨_, rfl⟩
                have HA1 := hide ha1
                have HA2 := hide (show a1 + 1 = a0 by rw [HA0.out, hae, ha1]; simp)
                have wa : IntKind.i64.wrap ((a0 : Int) - 1) = (a1 : Int) := by have := HA2.out; rw [show (a0 : Int) - 1 = (a1 : Int) by omega]; exact IntWalk.i64_in _ (by omega)
                have n1 : decide (a1 < N) = true := by have := HA2.out; have := HNA.out; simp; omega
                have n2 : decide ((a1 : Int) < (N : Int)) = true := by have := HA2.out; have := HNA.out; simp; omega
                have n3 : (a1 : Int) < (N : Int) := by have := HA2.out; have := HNA.out; omega
                have n4 : (a0 : Int) ≤ (cs : Int) := by have := HNA.out; omega
                have n5 : a0 ≤ cs := by have := HNA.out; omega
                have HG2 := hide (show Gh (A1 ++ [y]) S' top bar by rw [← hae]; exact HG2'.out)
                have hys := (HZ.out.rs.sl (lvR y) (List.mem_map_of_mem (by rw [hae]; simp))).1
                obtain ⟨Ay, cy, ey, _, _⟩ := hys.form
                have ey2 : y.sv = .slice Ay y.st.length cy := ey
                have hyl := HST.out y (by rw [hae]; simp)
                obtain ⟨ly, hly⟩ : ∃ l, l = y.st.length := ⟨_, rfl⟩
                have HYS := hide (show Sl wr 3 1 (.slice Ay ly cy) ly (nints y.st) by rw [hly, ← ey2]; exact hys)
                have HYV := hide (show y.sv = .slice Ay ly cy by rw [hly]; exact ey2)
                have HYL := hide hly
                have hy9 : (ly : Int) ≤ 1000000 := by omega
                have kk := HZ.out
                rw [hae, List.append_assoc] at kk
                have HK1 := hide (show wr.cell? ⟨g, off + a1 * 3 + 2, none⟩ = some (.slice Ay ly cy) by rw [ha1, hly, ← ey2]; exact kk.at_.2.2.1)
                have HK2 := hide (show wr.cell? ⟨g, off + a0 * 3 + 1, none⟩ = some (.int .i64 x.bar) by have h9 := HZ.out.at_.2.1; rw [← HA0.out] at h9; exact h9)
                have HK3 := hide (show wr.cell? ⟨g, off + a0 * 3, none⟩ = some (.int .i64 (ob : Int)) by have h9 := HZ.out.at_.1; rw [← HA0.out, HOB.out] at h9; exact h9)
                clear hae ha1 hys ey ey2 hyl hly kk
                go_upto_region 32 with (go_at_call 35; (with_reducible refine Calls.mono (HC.out _ (Below.refl _ _)) ?_); rintro e w3 ⟨rfl, b3⟩; have HK := hide (HBc.out.trans (b3.mono HBc.out.size)); have HD0 := hide (cell_keep d0 b3); have HD2 := hide (cell_keep d1 b3); have HD1 := hide (cell_keep HK3.out HK.out); have HMT := hide (fun (y : World) (hb : Below w3.heap.size w3 y) => HMA.out y (HK.out.trans (hb.mono HK.out.size))); clear b3)
                have HB7 := hide ((Below.refl w3.heap.size w3).drew)
                refine wp_region_d (S := fun y => (y.cell? ⟨gt, ot + i, none⟩ = some (.int .i64 ch) ∧ y.cell? ⟨g, off + a0 * 3, none⟩ = some (.int .i64 (ob : Int)) ∧ y.cell? ⟨gt, ot + ob, none⟩ = some (.int .i64 co))) (D := []) (by kernel_rfl) ?_
                change wpAnyD _ _ _ _ _ _ _ _ _ w3.drew
                obtain ⟨w7, hw7⟩ : ∃ y : World, y = w3.drew := ⟨_, rfl⟩
                rw [← hw7] at HB7 ⊢
                clear hw7
                have HKS := hide (fun (y : World) (hb : Below w3.heap.size w3 y) => (show (y.cell? ⟨gt, ot + i, none⟩ = some (.int .i64 ch) ∧ y.cell? ⟨g, off + a0 * 3, none⟩ = some (.int .i64 (ob : Int)) ∧ y.cell? ⟨gt, ot + ob, none⟩ = some (.int .i64 co)) from ⟨cell_keep HD0.out hb, cell_keep HD1.out hb, cell_keep HD2.out hb⟩))
                have hS := HKS.out w7 HB7.out
                refine wpAnyD_takeW (i := 0) (oi := { dst := some 138, op := Op.move (Operand.tmp 10), type := 3, pos := "ref.go:343", after := #[], guard := none }) (v := ?_) rfl (by kernel_rfl) (by kernel_rfl) (by kernel_rfl) (fun _ _ _ h => h) (Or.inl ⟨by rfl, ?_⟩) ?_
                rotate_left
                · intro w hSw
                  clear hSw
                  go_simp
                  all_goals with_reducible rfl
                simp only [Act.put, List.setIfInBounds_toArray, List.set_cons_zero, List.set_cons_succ]
                refine wpAnyD_takeW (i := 1) (oi := { dst := some 139, op := Op.binOp BinOp.eql 3 (Operand.tmp 138) (Operand.const (Value.int IntKind.i64 0)) 3, type := 4, pos := "ref.go:343", after := #[{ on := 0, ground := Ground.data }], guard := none }) (v := ?_) rfl (by kernel_rfl) (by kernel_rfl) (by kernel_rfl) (fun _ _ _ h => h) (Or.inl ⟨by rfl, ?_⟩) ?_
                rotate_left
                · intro w hSw
                  clear hSw
                  go_simp
                  all_goals with_reducible rfl
                simp only [Act.put, List.setIfInBounds_toArray, List.set_cons_zero, List.set_cons_succ]
                refine wpAnyD_takeW (i := 2) (oi := { dst := some 140, op := Op.move (Operand.tmp 139), type := 4, pos := "ref.go:343", after := #[{ on := 1, ground := Ground.data }], guard := none }) (v := ?_) rfl (by kernel_rfl) (by kernel_rfl) (by kernel_rfl) (fun _ _ _ h => h) (Or.inl ⟨by rfl, ?_⟩) ?_
                rotate_left
                · intro w hSw
                  clear hSw
                  go_simp
                  all_goals with_reducible rfl
                simp only [Act.put, List.setIfInBounds_toArray, List.set_cons_zero, List.set_cons_succ]
                refine wpAnyD_takeW (i := 3) (oi := { dst := some 141, op := Op.move (Operand.tmp 1), type := 24, pos := "ref.go:343", after := #[{ on := 2, ground := Ground.guard }], guard := some (2, false) }) (v := ?_) rfl (by kernel_rfl) (by kernel_rfl) (by kernel_rfl) (fun _ _ _ h => h) (Or.inl ⟨by rfl, ?_⟩) ?_
                rotate_left
                · intro w hSw
                  clear hSw
                  go_simp
                  all_goals with_reducible rfl
                simp only [Act.put, List.setIfInBounds_toArray, List.set_cons_zero, List.set_cons_succ]
                refine wpAnyD_takeW (i := 4) (oi := { dst := some 142, op := Op.move (Operand.tmp 9), type := 3, pos := "ref.go:343", after := #[{ on := 2, ground := Ground.guard }], guard := some (2, false) }) (v := ?_) rfl (by kernel_rfl) (by kernel_rfl) (by kernel_rfl) (fun _ _ _ h => h) (Or.inl ⟨by rfl, ?_⟩) ?_
                rotate_left
                · intro w hSw
                  clear hSw
                  go_simp
                  all_goals with_reducible rfl
                simp only [Act.put, List.setIfInBounds_toArray, List.set_cons_zero, List.set_cons_succ]
                refine wpAnyD_takeW (i := 5) (oi := { dst := some 143, op := Op.indexAddr 24 (Operand.tmp 141) (Operand.tmp 142), type := 0, pos := "ref.go:343", after := #[{ on := 3, ground := Ground.data }, { on := 4, ground := Ground.data }, { on := 2, ground := Ground.guard }], guard := some (2, false) }) (v := ?_) rfl (by kernel_rfl) (by kernel_rfl) (by kernel_rfl) (fun _ _ _ h => h) (Or.inl ⟨by rfl, ?_⟩) ?_
                rotate_left
                · intro w hSw
                  clear hSw
                  go_simp
                  all_goals with_reducible rfl
                simp only [Act.put, List.setIfInBounds_toArray, List.set_cons_zero, List.set_cons_succ]
                refine wpAnyD_take (i := 6) (oi := { dst := some 144, op := Op.load 3 (Operand.tmp 143), type := 3, pos := "ref.go:343", after := #[{ on := 5, ground := Ground.data }, { on := 2, ground := Ground.guard }], guard := some (2, false) }) (v := ?_) rfl (by kernel_rfl) (by kernel_rfl) (by kernel_rfl) (by kernel_rfl) (by kernel_rfl) (fun _ _ _ h => h) (Or.inl ⟨by rfl, ?_⟩) hS ?_
                rotate_left
                · intro w hSw
                  obtain ⟨s0, s1, s2⟩ := hSw
                  go_simp
                  all_goals with_reducible rfl
                simp only [Act.put, List.setIfInBounds_toArray, List.set_cons_zero, List.set_cons_succ]
                refine wpAnyD_takeW (i := 7) (oi := { dst := some 145, op := Op.move (Operand.tmp 0), type := 29, pos := "ref.go:343", after := #[{ on := 2, ground := Ground.guard }], guard := some (2, false) }) (v := ?_) rfl (by kernel_rfl) (by kernel_rfl) (by kernel_rfl) (fun _ _ _ h => h) (Or.inl ⟨by rfl, ?_⟩) ?_
                rotate_left
                · intro w hSw
                  clear hSw
                  go_simp
                  all_goals with_reducible rfl
                simp only [Act.put, List.setIfInBounds_toArray, List.set_cons_zero, List.set_cons_succ]
                refine wpAnyD_takeW (i := 8) (oi := { dst := some 146, op := Op.move (Operand.tmp 1), type := 24, pos := "ref.go:343", after := #[{ on := 2, ground := Ground.guard }], guard := some (2, false) }) (v := ?_) rfl (by kernel_rfl) (by kernel_rfl) (by kernel_rfl) (fun _ _ _ h => h) (Or.inl ⟨by rfl, ?_⟩) ?_
                rotate_left
                · intro w hSw
                  clear hSw
                  go_simp
                  all_goals with_reducible rfl
                simp only [Act.put, List.setIfInBounds_toArray, List.set_cons_zero, List.set_cons_succ]
                refine wpAnyD_takeW (i := 9) (oi := { dst := some 147, op := Op.move (Operand.tmp 8), type := 100, pos := "ref.go:343", after := #[{ on := 2, ground := Ground.guard }], guard := some (2, false) }) (v := ?_) rfl (by kernel_rfl) (by kernel_rfl) (by kernel_rfl) (fun _ _ _ h => h) (Or.inl ⟨by rfl, ?_⟩) ?_
                rotate_left
                · intro w hSw
                  clear hSw
                  go_simp
                  all_goals with_reducible rfl
                simp only [Act.put, List.setIfInBounds_toArray, List.set_cons_zero, List.set_cons_succ]
                refine wpAnyD_takeW (i := 10) (oi := { dst := some 148, op := Op.move (Operand.tmp 10), type := 3, pos := "ref.go:343", after := #[{ on := 2, ground := Ground.guard }], guard := some (2, false) }) (v := ?_) rfl (by kernel_rfl) (by kernel_rfl) (by kernel_rfl) (fun _ _ _ h => h) (Or.inl ⟨by rfl, ?_⟩) ?_
                rotate_left
                · intro w hSw
                  clear hSw
                  go_simp
                  all_goals with_reducible rfl
                simp only [Act.put, List.setIfInBounds_toArray, List.set_cons_zero, List.set_cons_succ]
                refine wpAnyD_takeW (i := 11) (oi := { dst := some 149, op := Op.indexAddr 100 (Operand.tmp 147) (Operand.tmp 148), type := 0, pos := "ref.go:343", after := #[{ on := 9, ground := Ground.data }, { on := 10, ground := Ground.data }, { on := 2, ground := Ground.guard }], guard := some (2, false) }) (v := ?_) rfl (by kernel_rfl) (by kernel_rfl) (by kernel_rfl) (fun _ _ _ h => h) (Or.inl ⟨by rfl, ?_⟩) ?_
                rotate_left
                · intro w hSw
                  clear hSw
                  go_simp
                  all_goals with_reducible rfl
                simp only [Act.put, List.setIfInBounds_toArray, List.set_cons_zero, List.set_cons_succ]
                refine wpAnyD_takeW (i := 12) (oi := { dst := some 150, op := Op.fieldAddr 99 (Operand.tmp 149) 0, type := 0, pos := "ref.go:343", after := #[{ on := 11, ground := Ground.data }, { on := 2, ground := Ground.guard }], guard := some (2, false) }) (v := ?_) rfl (by kernel_rfl) (by kernel_rfl) (by kernel_rfl) (fun _ _ _ h => h) (Or.inl ⟨by rfl, ?_⟩) ?_
                rotate_left
                · intro w hSw
                  clear hSw
                  go_simp
                  all_goals with_reducible rfl
                simp only [Act.put, List.setIfInBounds_toArray, List.set_cons_zero, List.set_cons_succ]
                refine wpAnyD_take (i := 13) (oi := { dst := some 151, op := Op.load 3 (Operand.tmp 150), type := 3, pos := "ref.go:343", after := #[{ on := 12, ground := Ground.data }, { on := 2, ground := Ground.guard }], guard := some (2, false) }) (v := ?_) rfl (by kernel_rfl) (by kernel_rfl) (by kernel_rfl) (by kernel_rfl) (by kernel_rfl) (fun _ _ _ h => h) (Or.inl ⟨by rfl, ?_⟩) hS ?_
                rotate_left
                · intro w hSw
                  obtain ⟨s0, s1, s2⟩ := hSw
                  go_simp
                  all_goals with_reducible rfl
                simp only [Act.put, List.setIfInBounds_toArray, List.set_cons_zero, List.set_cons_succ]
                refine wpAnyD_takeW (i := 14) (oi := { dst := some 152, op := Op.indexAddr 24 (Operand.tmp 146) (Operand.tmp 151), type := 0, pos := "ref.go:343", after := #[{ on := 8, ground := Ground.data }, { on := 13, ground := Ground.data }, { on := 2, ground := Ground.guard }], guard := some (2, false) }) (v := ?_) rfl (by kernel_rfl) (by kernel_rfl) (by kernel_rfl) (fun _ _ _ h => h) (Or.inl ⟨by rfl, ?_⟩) ?_
                rotate_left
                · intro w hSw
                  clear hSw
                  go_simp
                  all_goals with_reducible rfl
                simp only [Act.put, List.setIfInBounds_toArray, List.set_cons_zero, List.set_cons_succ]
                refine wpAnyD_take (i := 15) (oi := { dst := some 153, op := Op.load 3 (Operand.tmp 152), type := 3, pos := "ref.go:343", after := #[{ on := 14, ground := Ground.data }, { on := 2, ground := Ground.guard }], guard := some (2, false) }) (v := ?_) rfl (by kernel_rfl) (by kernel_rfl) (by kernel_rfl) (by kernel_rfl) (by kernel_rfl) (fun _ _ _ h => h) (Or.inl ⟨by rfl, ?_⟩) hS ?_
                rotate_left
                · intro w hSw
                  obtain ⟨s0, s1, s2⟩ := hSw
                  go_simp
                  all_goals with_reducible rfl
                simp only [Act.put, List.setIfInBounds_toArray, List.set_cons_zero, List.set_cons_succ]
                clear hS
                refine wpAnyD_one (i := 16) (o := { dst := some 154, op := Op.call { callee := Callee.value (Operand.func 36), args := #[Operand.tmp 145, Operand.tmp 153], argTypes := #[29, 3] }, type := 3, pos := "ref.go:343", after := #[{ on := 7, ground := Ground.data }, { on := 15, ground := Ground.data }, { on := 2, ground := Ground.chain }, { on := 2, ground := Ground.guard }], guard := some (2, false) }) (by kernel_rfl) rfl (fun K hK => ?_)
                go_simp
                (with_reducible refine Calls.mono (HMT.out _ HB7.out) ?_)
                rintro r w8 ⟨rfl, b8⟩
                have HB8 := hide (HB7.out.trans (b8.mono HB7.out.size))
                clear b8
                have hS := HKS.out w8 HB8.out
                refine hK _ _ (fun _ _ => hS) ?_
                clear hK K
                try simp only [Act.put, List.setIfInBounds_toArray, List.set_cons_zero, List.set_cons_succ]
                refine wpAnyD_takeW (i := 17) (oi := { dst := some 155, op := Op.binOp BinOp.neq 3 (Operand.tmp 144) (Operand.tmp 154) 3, type := 4, pos := "ref.go:343", after := #[{ on := 6, ground := Ground.data }, { on := 16, ground := Ground.data }, { on := 2, ground := Ground.guard }], guard := some (2, false) }) (v := ?_) rfl (by kernel_rfl) (by kernel_rfl) (by kernel_rfl) (fun _ _ _ h => h) (Or.inl ⟨by rfl, ?_⟩) ?_
                rotate_left
                · intro w hSw
                  clear hSw
                  go_simp
                  all_goals with_reducible rfl
                simp only [Act.put, List.setIfInBounds_toArray, List.set_cons_zero, List.set_cons_succ]
                refine wpAnyD_takeW (i := 18) (oi := { dst := some 156, op := Op.pick (Operand.tmp 140) (Operand.const (Value.bool true)) (Operand.tmp 155), type := 4, pos := "ref.go:343", after := #[{ on := 2, ground := Ground.data }, { on := 17, ground := Ground.data }], guard := none }) (v := ?_) rfl (by kernel_rfl) (by kernel_rfl) (by kernel_rfl) (fun _ _ _ h => h) (Or.inl ⟨by rfl, ?_⟩) ?_
                rotate_left
                · intro w hSw
                  clear hSw
                  go_simp
                  all_goals with_reducible rfl
                simp only [Act.put, List.setIfInBounds_toArray, List.set_cons_zero, List.set_cons_succ]
                refine wpAnyD_done (by kernel_rfl) ?_ _
                clear hS
                have HX := hide (HK.out.trans (HB8.out.mono HK.out.size))
                go_upto_region 34 with fail
                have HB9 := hide (HX.out.drew)
                refine wp_region_d (S := fun y => (y.cell? ⟨g, off + a1 * 3 + 2, none⟩ = some (.slice Ay ly cy) ∧ y.cell? ⟨g, off + a0 * 3 + 1, none⟩ = some (.int .i64 x.bar))) (D := [18]) (by kernel_rfl) ?_
                change wpAnyD _ _ _ _ _ _ _ _ _ w8.drew
                obtain ⟨w9, hw9⟩ : ∃ y : World, y = w8.drew := ⟨_, rfl⟩
                rw [← hw9] at HB9 ⊢
                clear hw9
                have HKT := hide (fun (y : World) (hb : Below wr.heap.size wr y) => (show (y.cell? ⟨g, off + a1 * 3 + 2, none⟩ = some (.slice Ay ly cy) ∧ y.cell? ⟨g, off + a0 * 3 + 1, none⟩ = some (.int .i64 x.bar)) from ⟨cell_keep HK1.out hb, cell_keep HK2.out hb⟩))
                have hS := HKT.out w9 HB9.out
                refine wpAnyD_takeW (i := 0) (oi := { dst := some 160, op := Op.move (Operand.tmp 8), type := 100, pos := "ref.go:346", after := #[], guard := none }) (v := ?_) rfl (by kernel_rfl) (by kernel_rfl) (by kernel_rfl) (fun _ _ _ h => h) (Or.inl ⟨by rfl, ?_⟩) ?_
                rotate_left
                · intro w hSw
                  clear hSw
                  go_simp
                  all_goals with_reducible rfl
                simp only [Act.put, List.setIfInBounds_toArray, List.set_cons_zero, List.set_cons_succ]
                refine wpAnyD_takeW (i := 1) (oi := { dst := some 161, op := Op.move (Operand.tmp 10), type := 3, pos := "ref.go:346", after := #[], guard := none }) (v := ?_) rfl (by kernel_rfl) (by kernel_rfl) (by kernel_rfl) (fun _ _ _ h => h) (Or.inl ⟨by rfl, ?_⟩) ?_
                rotate_left
                · intro w hSw
                  clear hSw
                  go_simp
                  all_goals with_reducible rfl
                simp only [Act.put, List.setIfInBounds_toArray, List.set_cons_zero, List.set_cons_succ]
                refine wpAnyD_takeW (i := 2) (oi := { dst := some 162, op := Op.binOp BinOp.sub 3 (Operand.tmp 161) (Operand.const (Value.int IntKind.i64 1)) 3, type := 3, pos := "ref.go:346", after := #[{ on := 1, ground := Ground.data }], guard := none }) (v := ?_) rfl (by kernel_rfl) (by kernel_rfl) (by kernel_rfl) (fun _ _ _ h => h) (Or.inl ⟨by rfl, ?_⟩) ?_
                rotate_left
                · intro w hSw
                  clear hSw
                  go_simp
                  all_goals with_reducible rfl
                simp only [Act.put, List.setIfInBounds_toArray, List.set_cons_zero, List.set_cons_succ]
                refine wpAnyD_takeW (i := 3) (oi := { dst := some 163, op := Op.move (Operand.tmp 8), type := 100, pos := "ref.go:346", after := #[], guard := none }) (v := ?_) rfl (by kernel_rfl) (by kernel_rfl) (by kernel_rfl) (fun _ _ _ h => h) (Or.inl ⟨by rfl, ?_⟩) ?_
                rotate_left
                · intro w hSw
                  clear hSw
                  go_simp
                  all_goals with_reducible rfl
                simp only [Act.put, List.setIfInBounds_toArray, List.set_cons_zero, List.set_cons_succ]
                refine wpAnyD_takeW (i := 4) (oi := { dst := some 164, op := Op.move (Operand.tmp 10), type := 3, pos := "ref.go:346", after := #[], guard := none }) (v := ?_) rfl (by kernel_rfl) (by kernel_rfl) (by kernel_rfl) (fun _ _ _ h => h) (Or.inl ⟨by rfl, ?_⟩) ?_
                rotate_left
                · intro w hSw
                  clear hSw
                  go_simp
                  all_goals with_reducible rfl
                simp only [Act.put, List.setIfInBounds_toArray, List.set_cons_zero, List.set_cons_succ]
                refine wpAnyD_takeW (i := 5) (oi := { dst := some 165, op := Op.binOp BinOp.sub 3 (Operand.tmp 164) (Operand.const (Value.int IntKind.i64 1)) 3, type := 3, pos := "ref.go:346", after := #[{ on := 4, ground := Ground.data }], guard := none }) (v := ?_) rfl (by kernel_rfl) (by kernel_rfl) (by kernel_rfl) (fun _ _ _ h => h) (Or.inl ⟨by rfl, ?_⟩) ?_
                rotate_left
                · intro w hSw
                  clear hSw
                  go_simp
                  all_goals with_reducible rfl
                simp only [Act.put, List.setIfInBounds_toArray, List.set_cons_zero, List.set_cons_succ]
                refine wpAnyD_takeW (i := 6) (oi := { dst := some 166, op := Op.indexAddr 100 (Operand.tmp 163) (Operand.tmp 165), type := 0, pos := "ref.go:346", after := #[{ on := 3, ground := Ground.data }, { on := 5, ground := Ground.data }], guard := none }) (v := ?_) rfl (by kernel_rfl) (by kernel_rfl) (by kernel_rfl) (fun _ _ _ h => h) (Or.inl ⟨by rfl, ?_⟩) ?_
                rotate_left
                · intro w hSw
                  clear hSw
                  go_simp
                  all_goals with_reducible rfl
                simp only [Act.put, List.setIfInBounds_toArray, List.set_cons_zero, List.set_cons_succ]
                refine wpAnyD_takeW (i := 7) (oi := { dst := some 167, op := Op.fieldAddr 99 (Operand.tmp 166) 2, type := 0, pos := "ref.go:346", after := #[{ on := 6, ground := Ground.data }], guard := none }) (v := ?_) rfl (by kernel_rfl) (by kernel_rfl) (by kernel_rfl) (fun _ _ _ h => h) (Or.inl ⟨by rfl, ?_⟩) ?_
                rotate_left
                · intro w hSw
                  clear hSw
                  go_simp
                  all_goals with_reducible rfl
                simp only [Act.put, List.setIfInBounds_toArray, List.set_cons_zero, List.set_cons_succ]
                refine wpAnyD_take (i := 8) (oi := { dst := some 168, op := Op.load 24 (Operand.tmp 167), type := 24, pos := "ref.go:346", after := #[{ on := 7, ground := Ground.data }], guard := none }) (v := ?_) rfl (by kernel_rfl) (by kernel_rfl) (by kernel_rfl) (by kernel_rfl) (by kernel_rfl) (fun _ _ _ h => h) (Or.inl ⟨by rfl, ?_⟩) hS ?_
                rotate_left
                · intro w hSw
                  obtain ⟨s0, s1⟩ := hSw
                  go_simp
                  all_goals with_reducible rfl
                simp only [Act.put, List.setIfInBounds_toArray, List.set_cons_zero, List.set_cons_succ]
                refine wpAnyD_takeW (i := 9) (oi := { dst := some 169, op := Op.move (Operand.tmp 8), type := 100, pos := "ref.go:346", after := #[], guard := none }) (v := ?_) rfl (by kernel_rfl) (by kernel_rfl) (by kernel_rfl) (fun _ _ _ h => h) (Or.inl ⟨by rfl, ?_⟩) ?_
                rotate_left
                · intro w hSw
                  clear hSw
                  go_simp
                  all_goals with_reducible rfl
                simp only [Act.put, List.setIfInBounds_toArray, List.set_cons_zero, List.set_cons_succ]
                refine wpAnyD_takeW (i := 10) (oi := { dst := some 170, op := Op.move (Operand.tmp 10), type := 3, pos := "ref.go:346", after := #[], guard := none }) (v := ?_) rfl (by kernel_rfl) (by kernel_rfl) (by kernel_rfl) (fun _ _ _ h => h) (Or.inl ⟨by rfl, ?_⟩) ?_
                rotate_left
                · intro w hSw
                  clear hSw
                  go_simp
                  all_goals with_reducible rfl
                simp only [Act.put, List.setIfInBounds_toArray, List.set_cons_zero, List.set_cons_succ]
                refine wpAnyD_takeW (i := 11) (oi := { dst := some 171, op := Op.indexAddr 100 (Operand.tmp 169) (Operand.tmp 170), type := 0, pos := "ref.go:346", after := #[{ on := 9, ground := Ground.data }, { on := 10, ground := Ground.data }], guard := none }) (v := ?_) rfl (by kernel_rfl) (by kernel_rfl) (by kernel_rfl) (fun _ _ _ h => h) (Or.inl ⟨by rfl, ?_⟩) ?_
                rotate_left
                · intro w hSw
                  clear hSw
                  go_simp
                  all_goals with_reducible rfl
                simp only [Act.put, List.setIfInBounds_toArray, List.set_cons_zero, List.set_cons_succ]
                refine wpAnyD_takeW (i := 12) (oi := { dst := some 172, op := Op.fieldAddr 99 (Operand.tmp 171) 1, type := 0, pos := "ref.go:346", after := #[{ on := 11, ground := Ground.data }], guard := none }) (v := ?_) rfl (by kernel_rfl) (by kernel_rfl) (by kernel_rfl) (fun _ _ _ h => h) (Or.inl ⟨by rfl, ?_⟩) ?_
                rotate_left
                · intro w hSw
                  clear hSw
                  go_simp
                  all_goals with_reducible rfl
                simp only [Act.put, List.setIfInBounds_toArray, List.set_cons_zero, List.set_cons_succ]
                refine wpAnyD_take (i := 13) (oi := { dst := some 173, op := Op.load 3 (Operand.tmp 172), type := 3, pos := "ref.go:346", after := #[{ on := 12, ground := Ground.data }], guard := none }) (v := ?_) rfl (by kernel_rfl) (by kernel_rfl) (by kernel_rfl) (by kernel_rfl) (by kernel_rfl) (fun _ _ _ h => h) (Or.inl ⟨by rfl, ?_⟩) hS ?_
                rotate_left
                · intro w hSw
                  obtain ⟨s0, s1⟩ := hSw
                  go_simp
                  all_goals with_reducible rfl
                simp only [Act.put, List.setIfInBounds_toArray, List.set_cons_zero, List.set_cons_succ]
                clear hS
                refine wpAnyD_one (i := 14) (o := { dst := some 174, op := Op.buildSlice 24 1 #[(0, Operand.tmp 173)], type := 24, pos := "ref.go:346", after := #[{ on := 13, ground := Ground.data }], guard := none }) (by kernel_rfl) rfl (fun K hK => ?_)
                go_simp
                have HBO := hide (show Below wr.heap.size wr (w9.alloc (.cells #[.int .i64 x.bar] 3)) from HB9.out.alloc HB9.out.size _)
                refine hK _ _ (fun _ _ => HKT.out _ HBO.out) ?_
                clear hK K
                try simp only [Act.put, List.setIfInBounds_toArray, List.set_cons_zero, List.set_cons_succ]
                refine wpAnyD_one (i := 15) (o := { dst := some 175, op := Op.call { callee := Callee.builtin Builtin.append, args := #[Operand.tmp 168, Operand.tmp 174], argTypes := #[24, 24] }, type := 24, pos := "ref.go:346", after := #[{ on := 8, ground := Ground.data }, { on := 14, ground := Ground.data }], guard := none }) (by kernel_rfl) rfl (fun K hK => ?_)
                refine step_append_sl rfl (.tmp 168) (.tmp 174) 24 rfl 3 i0 (.int .i64 0) 1 8 Tryd.underlying24 HI.out HI1.out HI2.out HI3.out rfl (.slice Ay ly cy) ly (nints y.st) rfl ((HYS.out.only (Only.of_below (F := fun _ => False) HB9.out) fun _ _ f => f).alloc (.cells #[.int .i64 x.bar] 3)) (.slice (some ⟨w9.heap.size, 0, none⟩) 1 1) rfl 1 [.int .i64 x.bar] (rd_elem w9 3 1 [.int .i64 x.bar] rfl) (fun u hu => by simp at hu; rw [hu]; rfl) (by unfold maxLen; omega) (by omega) ?_
                intro v2 w6 hs6 ho6 hv6
                have HMI := hide (show ZMid w1 w6 (.slice (some ⟨g, off, none⟩) N cs) A1 [x] y v2 (y.st ++ [x.bar]) from (show ZSt w1 (w9.alloc (.cells #[.int .i64 x.bar] 3)) (.slice (some ⟨g, off, none⟩) N cs) (A1 ++ y :: [x]) from by have h9 := HZ.out.below HBO.out; rw [HAE.out, List.append_assoc] at h9; exact h9).append (by rw [nints_snoc, List.length_append, ← HYL.out]; exact hs6) (by rw [HYV.out]; exact ho6) (by rw [HYV.out]; exact hv6.imp Eq.symm fun e => ⟨_, e, by rw [World.size_alloc]; exact Nat.le_refl _⟩))
                obtain ⟨Av, cv, rfl, _, _⟩ := hs6.form
                have r0 := HMI.out.at_.1
                have r1 := HMI.out.at_.2 (off + A1.length * 3 + 2)
                rw [HYV.out, ← HA1.out] at r0
                rw [← HA1.out] at r1
                have r2 : w6.cell? ⟨g, off + a0 * 3 + 1, none⟩ = some (.int .i64 x.bar) := by
                  have h9 := HMI.out.row
                  obtain ⟨g', off', c', e, _, _, _, hf, hc⟩ := Sl.fld lvC_len h9 (by simp)
                  cases e
                  have := hc (A1.length + 1) x 1 _ (by simp) rfl
                  rw [← HA1.out, HA2.out] at this
                  exact this
                refine hK _ _ (fun _ _ => ⟨r0, r2⟩) ?_
                clear hK K hs6 ho6 hv6 r2
                try simp only [Act.put, List.setIfInBounds_toArray, List.set_cons_zero, List.set_cons_succ]
                refine wpAnyD_takeW (i := 16) (oi := { dst := some 176, op := Op.indexAddr 100 (Operand.tmp 160) (Operand.tmp 162), type := 0, pos := "ref.go:346", after := #[{ on := 0, ground := Ground.data }, { on := 2, ground := Ground.data }, { on := 0, ground := Ground.phase }, { on := 1, ground := Ground.phase }, { on := 2, ground := Ground.phase }, { on := 3, ground := Ground.phase }, { on := 4, ground := Ground.phase }, { on := 5, ground := Ground.phase }, { on := 6, ground := Ground.phase }, { on := 7, ground := Ground.phase }, { on := 8, ground := Ground.phase }, { on := 9, ground := Ground.phase }, { on := 10, ground := Ground.phase }, { on := 11, ground := Ground.phase }, { on := 12, ground := Ground.phase }, { on := 13, ground := Ground.phase }, { on := 14, ground := Ground.phase }, { on := 15, ground := Ground.phase }], guard := none }) (v := ?_) rfl (by kernel_rfl) (by kernel_rfl) (by kernel_rfl) (fun _ _ _ h => h) (Or.inl ⟨by rfl, ?_⟩) ?_
                rotate_left
                · intro w hSw
                  clear hSw
                  go_simp
                  all_goals with_reducible rfl
                simp only [Act.put, List.setIfInBounds_toArray, List.set_cons_zero, List.set_cons_succ]
                refine wpAnyD_takeW (i := 17) (oi := { dst := some 177, op := Op.fieldAddr 99 (Operand.tmp 176) 2, type := 0, pos := "ref.go:346", after := #[{ on := 16, ground := Ground.data }, { on := 0, ground := Ground.phase }, { on := 1, ground := Ground.phase }, { on := 2, ground := Ground.phase }, { on := 3, ground := Ground.phase }, { on := 4, ground := Ground.phase }, { on := 5, ground := Ground.phase }, { on := 6, ground := Ground.phase }, { on := 7, ground := Ground.phase }, { on := 8, ground := Ground.phase }, { on := 9, ground := Ground.phase }, { on := 10, ground := Ground.phase }, { on := 11, ground := Ground.phase }, { on := 12, ground := Ground.phase }, { on := 13, ground := Ground.phase }, { on := 14, ground := Ground.phase }, { on := 15, ground := Ground.phase }], guard := none }) (v := ?_) rfl (by kernel_rfl) (by kernel_rfl) (by kernel_rfl) (fun _ _ _ h => h) (Or.inl ⟨by rfl, ?_⟩) ?_
                rotate_left
                · intro w hSw
                  clear hSw
                  go_simp
                  all_goals with_reducible rfl
                simp only [Act.put, List.setIfInBounds_toArray, List.set_cons_zero, List.set_cons_succ]
                refine wpAnyD_one (i := 18) (o := { dst := none, op := Op.store 24 (Operand.tmp 177) (Operand.tmp 175), type := 0, pos := "ref.go:346", after := #[{ on := 17, ground := Ground.data }, { on := 15, ground := Ground.data }, { on := 15, ground := Ground.chain }, { on := 0, ground := Ground.phase }, { on := 1, ground := Ground.phase }, { on := 2, ground := Ground.phase }, { on := 3, ground := Ground.phase }, { on := 4, ground := Ground.phase }, { on := 5, ground := Ground.phase }, { on := 6, ground := Ground.phase }, { on := 7, ground := Ground.phase }, { on := 8, ground := Ground.phase }, { on := 9, ground := Ground.phase }, { on := 10, ground := Ground.phase }, { on := 11, ground := Ground.phase }, { on := 12, ground := Ground.phase }, { on := 13, ground := Ground.phase }, { on := 14, ground := Ground.phase }, { on := 15, ground := Ground.phase }], guard := none }) (by kernel_rfl) rfl (fun K hK => ?_)
                go_simp
                refine hK _ _ (fun h => by cases h) ?_
                clear hK K
                try simp only [Act.put, List.setIfInBounds_toArray, List.set_cons_zero, List.set_cons_succ]
                refine wpAnyD_done (by kernel_rfl) ?_ _
                have HZN := hide (show ZSt w1 (w6.setCell ⟨g, off + a1 * 3 + 2, none⟩ (.slice Av (ly + 1) cv)) (.slice (some ⟨g, off, none⟩) a0 cs) (A1 ++ [{ y with st := y.st ++ [x.bar], sv := .slice Av (ly + 1) cv }]) from by
                  have h9 := HMI.out.store (by rw [HN.out, HAE.out, List.append_assoc]; rfl)
                  rw [← HA1.out] at h9
                  have h8 := h9.cut (m := a0) (by have h7 := HNA.out; have h6 := HA1.out; have h5 := HA2.out; simp; omega) (by have := HNA.out; omega)
                  have e : (A1 ++ { y with st := y.st ++ [x.bar], sv := Value.slice Av (ly + 1) cv } :: [x]).take a0 = A1 ++ [{ y with st := y.st ++ [x.bar], sv := .slice Av (ly + 1) cv }] := by
                    rw [show a0 = (A1 ++ [{ y with st := y.st ++ [x.bar], sv := Value.slice Av (ly + 1) cv }]).length by have := HA1.out; have := HA2.out; simp; omega, show A1 ++ { y with st := y.st ++ [x.bar], sv := Value.slice Av (ly + 1) cv } :: [x] = (A1 ++ [{ y with st := y.st ++ [x.bar], sv := .slice Av (ly + 1) cv }]) ++ [x] by simp]
                    exact List.take_left
                  rw [e] at h8
                  exact h8)
                go_wp2_with fail
                go_roundw
                case rel => exact ⟨i + 1, m, A1, { y with st := y.st ++ [x.bar], sv := .slice Av (ly + 1) cv }, (laidIn S' top x.bar).1, (laidIn S' top x.bar).2, bar, rfl, by omega, by have := HM.out; omega, HEN.out, HG2.out.put HXB.out.1 _, (HOK2.out.up (Nat.le_succ i)).laid HXB.out.1 (by have := HXB.out; omega), HZN.out, by have := HA1.out; have := HA2.out; omega, fun z hz => by
                    rcases List.mem_append.1 hz with hz | hz
                    · exact Nat.le_trans (HST.out z (by rw [HAE.out]; simp [hz])) (Nat.le_succ i)
                    · obtain rfl : z = { y with st := y.st ++ [x.bar], sv := .slice Av (ly + 1) cv } := by simpa using hz
                      have := HST.out y (by rw [HAE.out]; simp)
                      simp
                      omega⟩
                case measure => simp [intOf]; omega
              · have HEN := hide (show bck T 13 5 12 9 L' m [] (-1) (i : Int) (i + 1) = R by
                  have h3 := HE.out
                  rw [HSE.out, bck_close_bad HIL.out HK5.out (by rw [← HCH.out, HOB.out, Int.toNat_natCast, ← HCO.out, ← HMO.out]; exact hmt)] at h3
                  exact h3)
                have e1 : (ch == mo) = false := by simpa using hmt
                have e2 : (ch != mo) = true := by simpa using hmt
                have HK3 := hide (show wr.cell? ⟨g, off + a0 * 3, none⟩ = some (.int .i64 (ob : Int)) by have h9 := HZ.out.at_.1; rw [← HA0.out, HOB.out] at h9; exact h9)
                clear hmt
                go_upto_region 32 with (go_at_call 35; (with_reducible refine Calls.mono (HC.out _ (Below.refl _ _)) ?_); rintro e w3 ⟨rfl, b3⟩; have HK := hide (HBc.out.trans (b3.mono HBc.out.size)); have HD0 := hide (cell_keep d0 b3); have HD2 := hide (cell_keep d1 b3); have HD1 := hide (cell_keep HK3.out HK.out); have HMT := hide (fun (y : World) (hb : Below w3.heap.size w3 y) => HMA.out y (HK.out.trans (hb.mono HK.out.size))); clear b3)
                have HB7 := hide ((Below.refl w3.heap.size w3).drew)
                refine wp_region_d (S := fun y => (y.cell? ⟨gt, ot + i, none⟩ = some (.int .i64 ch) ∧ y.cell? ⟨g, off + a0 * 3, none⟩ = some (.int .i64 (ob : Int)) ∧ y.cell? ⟨gt, ot + ob, none⟩ = some (.int .i64 co))) (D := []) (by kernel_rfl) ?_
                change wpAnyD _ _ _ _ _ _ _ _ _ w3.drew
                obtain ⟨w7, hw7⟩ : ∃ y : World, y = w3.drew := ⟨_, rfl⟩
                rw [← hw7] at HB7 ⊢
                clear hw7
                have HKS := hide (fun (y : World) (hb : Below w3.heap.size w3 y) => (show (y.cell? ⟨gt, ot + i, none⟩ = some (.int .i64 ch) ∧ y.cell? ⟨g, off + a0 * 3, none⟩ = some (.int .i64 (ob : Int)) ∧ y.cell? ⟨gt, ot + ob, none⟩ = some (.int .i64 co)) from ⟨cell_keep HD0.out hb, cell_keep HD1.out hb, cell_keep HD2.out hb⟩))
                have hS := HKS.out w7 HB7.out
                refine wpAnyD_takeW (i := 0) (oi := { dst := some 138, op := Op.move (Operand.tmp 10), type := 3, pos := "ref.go:343", after := #[], guard := none }) (v := ?_) rfl (by kernel_rfl) (by kernel_rfl) (by kernel_rfl) (fun _ _ _ h => h) (Or.inl ⟨by rfl, ?_⟩) ?_
                rotate_left
                · intro w hSw
                  clear hSw
                  go_simp
                  all_goals with_reducible rfl
                simp only [Act.put, List.setIfInBounds_toArray, List.set_cons_zero, List.set_cons_succ]
                refine wpAnyD_takeW (i := 1) (oi := { dst := some 139, op := Op.binOp BinOp.eql 3 (Operand.tmp 138) (Operand.const (Value.int IntKind.i64 0)) 3, type := 4, pos := "ref.go:343", after := #[{ on := 0, ground := Ground.data }], guard := none }) (v := ?_) rfl (by kernel_rfl) (by kernel_rfl) (by kernel_rfl) (fun _ _ _ h => h) (Or.inl ⟨by rfl, ?_⟩) ?_
                rotate_left
                · intro w hSw
                  clear hSw
                  go_simp
                  all_goals with_reducible rfl
                simp only [Act.put, List.setIfInBounds_toArray, List.set_cons_zero, List.set_cons_succ]
                refine wpAnyD_takeW (i := 2) (oi := { dst := some 140, op := Op.move (Operand.tmp 139), type := 4, pos := "ref.go:343", after := #[{ on := 1, ground := Ground.data }], guard := none }) (v := ?_) rfl (by kernel_rfl) (by kernel_rfl) (by kernel_rfl) (fun _ _ _ h => h) (Or.inl ⟨by rfl, ?_⟩) ?_
                rotate_left
                · intro w hSw
                  clear hSw
                  go_simp
                  all_goals with_reducible rfl
                simp only [Act.put, List.setIfInBounds_toArray, List.set_cons_zero, List.set_cons_succ]
                refine wpAnyD_takeW (i := 3) (oi := { dst := some 141, op := Op.move (Operand.tmp 1), type := 24, pos := "ref.go:343", after := #[{ on := 2, ground := Ground.guard }], guard := some (2, false) }) (v := ?_) rfl (by kernel_rfl) (by kernel_rfl) (by kernel_rfl) (fun _ _ _ h => h) (Or.inl ⟨by rfl, ?_⟩) ?_
                rotate_left
                · intro w hSw
                  clear hSw
                  go_simp
                  all_goals with_reducible rfl
                simp only [Act.put, List.setIfInBounds_toArray, List.set_cons_zero, List.set_cons_succ]
                refine wpAnyD_takeW (i := 4) (oi := { dst := some 142, op := Op.move (Operand.tmp 9), type := 3, pos := "ref.go:343", after := #[{ on := 2, ground := Ground.guard }], guard := some (2, false) }) (v := ?_) rfl (by kernel_rfl) (by kernel_rfl) (by kernel_rfl) (fun _ _ _ h => h) (Or.inl ⟨by rfl, ?_⟩) ?_
                rotate_left
                · intro w hSw
                  clear hSw
                  go_simp
                  all_goals with_reducible rfl
                simp only [Act.put, List.setIfInBounds_toArray, List.set_cons_zero, List.set_cons_succ]
                refine wpAnyD_takeW (i := 5) (oi := { dst := some 143, op := Op.indexAddr 24 (Operand.tmp 141) (Operand.tmp 142), type := 0, pos := "ref.go:343", after := #[{ on := 3, ground := Ground.data }, { on := 4, ground := Ground.data }, { on := 2, ground := Ground.guard }], guard := some (2, false) }) (v := ?_) rfl (by kernel_rfl) (by kernel_rfl) (by kernel_rfl) (fun _ _ _ h => h) (Or.inl ⟨by rfl, ?_⟩) ?_
                rotate_left
                · intro w hSw
                  clear hSw
                  go_simp
                  all_goals with_reducible rfl
                simp only [Act.put, List.setIfInBounds_toArray, List.set_cons_zero, List.set_cons_succ]
                refine wpAnyD_take (i := 6) (oi := { dst := some 144, op := Op.load 3 (Operand.tmp 143), type := 3, pos := "ref.go:343", after := #[{ on := 5, ground := Ground.data }, { on := 2, ground := Ground.guard }], guard := some (2, false) }) (v := ?_) rfl (by kernel_rfl) (by kernel_rfl) (by kernel_rfl) (by kernel_rfl) (by kernel_rfl) (fun _ _ _ h => h) (Or.inl ⟨by rfl, ?_⟩) hS ?_
                rotate_left
                · intro w hSw
                  obtain ⟨s0, s1, s2⟩ := hSw
                  go_simp
                  all_goals with_reducible rfl
                simp only [Act.put, List.setIfInBounds_toArray, List.set_cons_zero, List.set_cons_succ]
                refine wpAnyD_takeW (i := 7) (oi := { dst := some 145, op := Op.move (Operand.tmp 0), type := 29, pos := "ref.go:343", after := #[{ on := 2, ground := Ground.guard }], guard := some (2, false) }) (v := ?_) rfl (by kernel_rfl) (by kernel_rfl) (by kernel_rfl) (fun _ _ _ h => h) (Or.inl ⟨by rfl, ?_⟩) ?_
                rotate_left
                · intro w hSw
                  clear hSw
                  go_simp
                  all_goals with_reducible rfl
                simp only [Act.put, List.setIfInBounds_toArray, List.set_cons_zero, List.set_cons_succ]
                refine wpAnyD_takeW (i := 8) (oi := { dst := some 146, op := Op.move (Operand.tmp 1), type := 24, pos := "ref.go:343", after := #[{ on := 2, ground := Ground.guard }], guard := some (2, false) }) (v := ?_) rfl (by kernel_rfl) (by kernel_rfl) (by kernel_rfl) (fun _ _ _ h => h) (Or.inl ⟨by rfl, ?_⟩) ?_
                rotate_left
                · intro w hSw
                  clear hSw
                  go_simp
                  all_goals with_reducible rfl
                simp only [Act.put, List.setIfInBounds_toArray, List.set_cons_zero, List.set_cons_succ]
                refine wpAnyD_takeW (i := 9) (oi := { dst := some 147, op := Op.move (Operand.tmp 8), type := 100, pos := "ref.go:343", after := #[{ on := 2, ground := Ground.guard }], guard := some (2, false) }) (v := ?_) rfl (by kernel_rfl) (by kernel_rfl) (by kernel_rfl) (fun _ _ _ h => h) (Or.inl ⟨by rfl, ?_⟩) ?_
                rotate_left
                · intro w hSw
                  clear hSw
                  go_simp
                  all_goals with_reducible rfl
                simp only [Act.put, List.setIfInBounds_toArray, List.set_cons_zero, List.set_cons_succ]
                refine wpAnyD_takeW (i := 10) (oi := { dst := some 148, op := Op.move (Operand.tmp 10), type := 3, pos := "ref.go:343", after := #[{ on := 2, ground := Ground.guard }], guard := some (2, false) }) (v := ?_) rfl (by kernel_rfl) (by kernel_rfl) (by kernel_rfl) (fun _ _ _ h => h) (Or.inl ⟨by rfl, ?_⟩) ?_
                rotate_left
                · intro w hSw
                  clear hSw
                  go_simp
                  all_goals with_reducible rfl
                simp only [Act.put, List.setIfInBounds_toArray, List.set_cons_zero, List.set_cons_succ]
                refine wpAnyD_takeW (i := 11) (oi := { dst := some 149, op := Op.indexAddr 100 (Operand.tmp 147) (Operand.tmp 148), type := 0, pos := "ref.go:343", after := #[{ on := 9, ground := Ground.data }, { on := 10, ground := Ground.data }, { on := 2, ground := Ground.guard }], guard := some (2, false) }) (v := ?_) rfl (by kernel_rfl) (by kernel_rfl) (by kernel_rfl) (fun _ _ _ h => h) (Or.inl ⟨by rfl, ?_⟩) ?_
                rotate_left
                · intro w hSw
                  clear hSw
                  go_simp
                  all_goals with_reducible rfl
                simp only [Act.put, List.setIfInBounds_toArray, List.set_cons_zero, List.set_cons_succ]
                refine wpAnyD_takeW (i := 12) (oi := { dst := some 150, op := Op.fieldAddr 99 (Operand.tmp 149) 0, type := 0, pos := "ref.go:343", after := #[{ on := 11, ground := Ground.data }, { on := 2, ground := Ground.guard }], guard := some (2, false) }) (v := ?_) rfl (by kernel_rfl) (by kernel_rfl) (by kernel_rfl) (fun _ _ _ h => h) (Or.inl ⟨by rfl, ?_⟩) ?_
                rotate_left
                · intro w hSw
                  clear hSw
                  go_simp
                  all_goals with_reducible rfl
                simp only [Act.put, List.setIfInBounds_toArray, List.set_cons_zero, List.set_cons_succ]
                refine wpAnyD_take (i := 13) (oi := { dst := some 151, op := Op.load 3 (Operand.tmp 150), type := 3, pos := "ref.go:343", after := #[{ on := 12, ground := Ground.data }, { on := 2, ground := Ground.guard }], guard := some (2, false) }) (v := ?_) rfl (by kernel_rfl) (by kernel_rfl) (by kernel_rfl) (by kernel_rfl) (by kernel_rfl) (fun _ _ _ h => h) (Or.inl ⟨by rfl, ?_⟩) hS ?_
                rotate_left
                · intro w hSw
                  obtain ⟨s0, s1, s2⟩ := hSw
                  go_simp
                  all_goals with_reducible rfl
                simp only [Act.put, List.setIfInBounds_toArray, List.set_cons_zero, List.set_cons_succ]
                refine wpAnyD_takeW (i := 14) (oi := { dst := some 152, op := Op.indexAddr 24 (Operand.tmp 146) (Operand.tmp 151), type := 0, pos := "ref.go:343", after := #[{ on := 8, ground := Ground.data }, { on := 13, ground := Ground.data }, { on := 2, ground := Ground.guard }], guard := some (2, false) }) (v := ?_) rfl (by kernel_rfl) (by kernel_rfl) (by kernel_rfl) (fun _ _ _ h => h) (Or.inl ⟨by rfl, ?_⟩) ?_
                rotate_left
                · intro w hSw
                  clear hSw
                  go_simp
                  all_goals with_reducible rfl
                simp only [Act.put, List.setIfInBounds_toArray, List.set_cons_zero, List.set_cons_succ]
                refine wpAnyD_take (i := 15) (oi := { dst := some 153, op := Op.load 3 (Operand.tmp 152), type := 3, pos := "ref.go:343", after := #[{ on := 14, ground := Ground.data }, { on := 2, ground := Ground.guard }], guard := some (2, false) }) (v := ?_) rfl (by kernel_rfl) (by kernel_rfl) (by kernel_rfl) (by kernel_rfl) (by kernel_rfl) (fun _ _ _ h => h) (Or.inl ⟨by rfl, ?_⟩) hS ?_
                rotate_left
                · intro w hSw
                  obtain ⟨s0, s1, s2⟩ := hSw
                  go_simp
                  all_goals with_reducible rfl
                simp only [Act.put, List.setIfInBounds_toArray, List.set_cons_zero, List.set_cons_succ]
                clear hS
                refine wpAnyD_one (i := 16) (o := { dst := some 154, op := Op.call { callee := Callee.value (Operand.func 36), args := #[Operand.tmp 145, Operand.tmp 153], argTypes := #[29, 3] }, type := 3, pos := "ref.go:343", after := #[{ on := 7, ground := Ground.data }, { on := 15, ground := Ground.data }, { on := 2, ground := Ground.chain }, { on := 2, ground := Ground.guard }], guard := some (2, false) }) (by kernel_rfl) rfl (fun K hK => ?_)
                go_simp
                (with_reducible refine Calls.mono (HMT.out _ HB7.out) ?_)
                rintro r w8 ⟨rfl, b8⟩
                have HB8 := hide (HB7.out.trans (b8.mono HB7.out.size))
                clear b8
                have hS := HKS.out w8 HB8.out
                refine hK _ _ (fun _ _ => hS) ?_
                clear hK K
                try simp only [Act.put, List.setIfInBounds_toArray, List.set_cons_zero, List.set_cons_succ]
                refine wpAnyD_takeW (i := 17) (oi := { dst := some 155, op := Op.binOp BinOp.neq 3 (Operand.tmp 144) (Operand.tmp 154) 3, type := 4, pos := "ref.go:343", after := #[{ on := 6, ground := Ground.data }, { on := 16, ground := Ground.data }, { on := 2, ground := Ground.guard }], guard := some (2, false) }) (v := ?_) rfl (by kernel_rfl) (by kernel_rfl) (by kernel_rfl) (fun _ _ _ h => h) (Or.inl ⟨by rfl, ?_⟩) ?_
                rotate_left
                · intro w hSw
                  clear hSw
                  go_simp
                  all_goals with_reducible rfl
                simp only [Act.put, List.setIfInBounds_toArray, List.set_cons_zero, List.set_cons_succ]
                refine wpAnyD_takeW (i := 18) (oi := { dst := some 156, op := Op.pick (Operand.tmp 140) (Operand.const (Value.bool true)) (Operand.tmp 155), type := 4, pos := "ref.go:343", after := #[{ on := 2, ground := Ground.data }, { on := 17, ground := Ground.data }], guard := none }) (v := ?_) rfl (by kernel_rfl) (by kernel_rfl) (by kernel_rfl) (fun _ _ _ h => h) (Or.inl ⟨by rfl, ?_⟩) ?_
                rotate_left
                · intro w hSw
                  clear hSw
                  go_simp
                  all_goals with_reducible rfl
                simp only [Act.put, List.setIfInBounds_toArray, List.set_cons_zero, List.set_cons_succ]
                refine wpAnyD_done (by kernel_rfl) ?_ _
                clear hS
                have HX := hide (HK.out.trans (HB8.out.mono HK.out.size))
                go_wp2_with fail
                go_roundw
                case rel => exact ⟨i + 1, m, [], ⟨-1, (i : Int), [], .slice none 0 0⟩, [], -1, (i : Int), rfl, by omega, by have := HM.out; omega, HEN.out, Gh.start _, HOK.out.wall, ZSt.fresh (HBW.out _ HX.out) (-1) (i : Int), Nat.zero_le _, fun y hy => by
                    obtain rfl : y = ⟨-1, (i : Int), [], .slice none 0 0⟩ := by simpa using hy
                    exact Nat.zero_le _⟩
                case measure => simp [intOf]; omega
        have g5 : (kj == 5) = false := by simpa using h5
        as_aux_lemma =>
          have HKN2 := hide (show T.at_ L' i = 1 ∨ T.at_ L' i = 2 ∨ T.at_ L' i = 7 by
            have h1 := HR10.out
            have h2 := hkj.out
            have h3 := HKN.out
            unfold Tb.at_ at h2 ⊢
            omega)
          have HEN0 := hide ((bck_name (T := T) (a := 13) (b := 5) (c := 12) (d := 9) (n := m) (S := S) (top := top) (bar := bar) HIL.out HKN2.out).symm.trans HE.out)
          rw [← HPE.out] at HEN0
          obtain ⟨e0, he0⟩ : ∃ e, e = nameA T L' i := ⟨_, rfl⟩
          have HEN := HEN0
          rw [← he0] at HEN
          have HE0 := hide (show i < e0 ∧ e0 ≤ n by
            have h1 := nameA_le (T := T) (L := L') (i := i) (Nat.le_of_lt HIL.out)
            have h2 := name_more HT.out HIL.out (by rw [← hkj.out]; exact h8) (by rw [← hkj.out]; exact HKN.out) (by rw [← hkj.out]; exact h4) (by rw [← hkj.out]; exact h5) (by rw [← hkj.out]; exact h6)
            rw [HLE.out] at h1
            rw [he0]
            omega)
          have HWD0 := hide (fun (y : World) (hb : Below w1.heap.size w1 y) => rword_scan (HS.out.below hb) (Nat.le_of_lt HIL.out))
          rw [← he0] at HWD0
          clear he0 HEN0 hkj hch h8 h6 h4 h5
          have hxs := (HZ.out.rs.sl (lvR x) (List.mem_map_of_mem (by simp))).1
          obtain ⟨Ax, cx, ex, _, _⟩ := hxs.form
          have ex2 : x.sv = .slice Ax x.st.length cx := ex
          have hxl := HST.out x (by simp)
          obtain ⟨lx, hlx⟩ : ∃ l, l = x.st.length := ⟨_, rfl⟩
          have HXS := hide (show Sl wr 3 1 (.slice Ax lx cx) lx (nints x.st) by rw [hlx, ← ex2]; exact hxs)
          have HXV := hide (show x.sv = .slice Ax lx cx by rw [hlx]; exact ex2)
          have HXL := hide hlx
          have hx9 : (lx : Int) ≤ 1000000 := by omega
          clear hxs ex ex2 hxl hlx
          go_wp2_with (first | (go_at_call 35; (with_reducible refine Calls.mono (HC.out _ (Below.refl _ _)) ?_); rintro e w3 ⟨rfl, b3⟩; have HK := hide (HBc.out.trans (b3.mono HBc.out.size)); have kk := (HZ.out.below HK.out).at_; have k5 := kk.2.2.1; rw [HXV.out, ← HA0.out] at k5; clear kk; clear b3) | (at_builtin; refine wpList_append_sl rfl (.tmp 56) (.tmp 58) 24 rfl 3 i0 (.int .i64 0) 1 8 Tryd.underlying24 HI.out HI1.out HI2.out HI3.out rfl (.slice Ax lx cx) lx (nints x.st) rfl ((HXS.out.only (Only.of_below (F := fun _ => False) HK.out) fun _ _ f => f).alloc (.cells #[.int .i64 (pr : Int)] 3)) _ rfl 1 [.int .i64 (pr : Int)] (rd_elem w3 3 1 [.int .i64 (pr : Int)] rfl) (fun u hu => by simp at hu; rw [hu]; rfl) ?b1 ?b2 ?_))
          case b1 => unfold maxLen; omega
          case b2 => omega
          intro v2 w6 hs6 ho6 hv6
          have HMI := hide (show ZMid w1 w6 (.slice (some ⟨g, off, none⟩) N cs) A [] x v2 (x.st ++ [(pr : Int)]) from ((HZ.out.below HK.out).below (below_box _ _)).append (by rw [nints_snoc, List.length_append, ← HXL.out]; exact hs6) (by rw [HXV.out]; exact ho6) (by rw [HXV.out]; exact hv6.imp Eq.symm fun e => ⟨_, e, by rw [World.size_alloc]; exact Nat.le_refl _⟩))
          obtain ⟨Av, cv, rfl, _, _⟩ := hs6.form
          clear hs6 ho6 hv6
          have HWD := HWD0
          have HX := hide HMI.out.rs.bel
          go_wp2_with (go_at_call 83; (with_reducible refine Calls.mono (HWD.out _ HX.out) ?_); rintro e w7 ⟨rfl, b7⟩; have HMX := hide (HMI.out.below b7); have m0 := HMX.out.at_.1; have m1 := HMX.out.at_.2 (off + A.length * 3 + 2); rw [← HA0.out] at m0 m1; rw [HXV.out] at m0; clear b7)
          go_roundw
          case rel => exact ⟨e0, m, A, { x with st := x.st ++ [(pr : Int)], sv := .slice Av (lx + 1) cv }, (laidIn S top (pr : Int)).1, (laidIn S top (pr : Int)).2, bar, rfl, HE0.out.2, by have := HE0.out; have := HM.out; omega, HEN.out, HG.out.put (by omega) _, (HOK.out.up (Nat.le_of_lt HE0.out.1)).laid (by omega) (by have := HPR.out; have := HE0.out; omega), by
              have h9 := HMX.out.store HN.out
              rw [← HA0.out] at h9
              exact h9, HA.out, fun y hy => by
              rcases List.mem_append.1 hy with hy | hy
              · exact Nat.le_trans (HST.out y (by simp [hy])) (by have := HE0.out; omega)
              · obtain rfl : y = { x with st := x.st ++ [(pr : Int)], sv := .slice Av (lx + 1) cv } := by simpa using hy
                have := HST.out x (by simp)
                have := HE0.out
                simp
                omega⟩
          case measure => have := HE0.out; simp [intOf]; omega
    · as_aux_lemma =>
      obtain rfl : i = n := by omega
      obtain ⟨m, rfl⟩ : ∃ k, m = k + 1 := ⟨m - 1, by omega⟩
      have x1 : decide (i < i) = false := by simp
      have x2 : decide ((i : Int) < (i : Int)) = false := by simp
      have HOUT := hide (show R = (if x.st ≠ [] then ((ends x.st).toNat, 0, 0) else if 0 ≤ x.op then (0, 5, x.op) else if 0 ≤ x.bar then (0, 5, x.bar) else (0, 13, 0)) by
        rw [← HE.out, bck_end (by rw [HLE.out]; exact Nat.le_refl _), HG.out.out HOK.out])
      have hxs := (HZ.out.rs.sl (lvR x) (List.mem_map_of_mem (by simp))).1
      obtain ⟨Ax, cx, ex, _, _⟩ := hxs.form
      have ex2 : x.sv = .slice Ax x.st.length cx := ex
      have hxl := HST.out x (by simp)
      obtain ⟨lx, hlx⟩ : ∃ l, l = x.st.length := ⟨_, rfl⟩
      have HXS := hide (show Sl wr 3 1 (.slice Ax lx cx) lx (nints x.st) by rw [hlx, ← ex2]; exact hxs)
      have HXV := hide (show x.sv = .slice Ax lx cx by rw [hlx]; exact ex2)
      have HXL := hide hlx
      have hx9 : (lx : Int) ≤ 1000000 := by omega
      clear hxs ex ex2 hxl hlx
      have HBT := hide (below_box wr (.cells #[.int .i64 x.op, .int .i64 x.bar, .slice Ax lx cx] 99))
      have HTB := hide (Blk.new wr 99 #[.int .i64 x.op, .int .i64 x.bar, .slice Ax lx cx])
      have HBB := hide (HZ.out.rs.bel.trans (HBT.out.mono HZ.out.rs.bel.size))
      have HRK := hide (HRB.out.below HBB.out HRB.out.lt)
      have t0 := HRK.out.cell 0
      have t1 := HRK.out.cell 1
      have t2 := HRK.out.frozen 0
      have t3 := HRK.out.frozen 1
      have t4 := HTB.out.cell 0
      have t5 := HTB.out.cell 1
      have t6 := HTB.out.cell 2
      have kk := HZ.out.at_
      have k3 := kk.1
      have k4 := kk.2.1
      have k5 := kk.2.2.1
      rw [← HA0.out] at k3 k4 k5
      rw [HXV.out] at k5
      clear kk hi hm hl
      by_cases hse : x.st = []
      · have hl0 : lx = 0 := by rw [HXL.out, hse]; rfl
        have l1 : decide (0 < lx) = false := by simp; omega
        have l2 : decide ((0 : Int) < (lx : Int)) = false := by simp; omega
        have l3 : ¬ (0 : Int) < (lx : Int) := by omega
        have HLX := hide hl0
        by_cases ho : 0 ≤ x.op
        · have HRR := hide (show R = (0, 5, x.op) by rw [HOUT.out, if_neg (not_not_intro hse), if_pos ho])
          have o1 : decide (0 ≤ x.op) = true := by simpa using ho
          clear hse hl0
          go_upto_region 41 with fail
          go_region
          go_wp2_with fail
          refine bodyPost_ret (results_tmp_cell rfl _ _ w.heap.size 40 #[.int .i64 (5), .int .i64 (x.op)] (0, 0) _ rfl ((HRK.out.set_ 0 _).set_ 1 _) Tryd.underlying40 rfl (by kernel_rfl)) rfl ?_
          exact ⟨by rw [HR.out]; rw [HRR.out]; rfl, (((HB0.out.trans (HBB.out.mono HB0.out.size)).setCell (p := ⟨w.heap.size, 0, none⟩) (Nat.le_refl _) _).setCell (p := ⟨w.heap.size, 1, none⟩) (Nat.le_refl _) _).drew⟩
        · have o1 : decide (0 ≤ x.op) = false := by simpa using ho
          by_cases hbr : 0 ≤ x.bar
          · have HRR := hide (show R = (0, 5, x.bar) by rw [HOUT.out, if_neg (not_not_intro hse), if_neg ho, if_pos hbr])
            have o2 : decide (0 ≤ x.bar) = true := by simpa using hbr
            clear hse hl0
            go_upto_region 43 with fail
            go_region
            go_wp2_with fail
            refine bodyPost_ret (results_tmp_cell rfl _ _ w.heap.size 40 #[.int .i64 (5), .int .i64 (x.bar)] (0, 0) _ rfl ((HRK.out.set_ 0 _).set_ 1 _) Tryd.underlying40 rfl (by kernel_rfl)) rfl ?_
            exact ⟨by rw [HR.out]; rw [HRR.out]; rfl, (((HB0.out.trans (HBB.out.mono HB0.out.size)).setCell (p := ⟨w.heap.size, 0, none⟩) (Nat.le_refl _) _).setCell (p := ⟨w.heap.size, 1, none⟩) (Nat.le_refl _) _).drew⟩
          · have HRR := hide (show R = (0, 13, 0) by rw [HOUT.out, if_neg (not_not_intro hse), if_neg ho, if_neg hbr])
            have o2 : decide (0 ≤ x.bar) = false := by simpa using hbr
            clear hse hl0
            go_wp2_with fail
            refine bodyPost_ret (results_tmp_cell rfl _ _ w.heap.size 40 #[.int .i64 (13), .int .i64 (0)] (0, 0) _ rfl ((HRK.out.set_ 0 _).set_ 1 _) Tryd.underlying40 rfl (by kernel_rfl)) rfl ?_
            exact ⟨by rw [HR.out]; rw [HRR.out]; rfl, ((HB0.out.trans (HBB.out.mono HB0.out.size)).setCell (p := ⟨w.heap.size, 0, none⟩) (Nat.le_refl _) _).setCell (p := ⟨w.heap.size, 1, none⟩) (Nat.le_refl _) _⟩
      · have hl0 : 0 < lx := by rw [HXL.out]; exact List.length_pos_iff.2 hse
        have l1 : decide (0 < lx) = true := by simpa using hl0
        have l2 : decide ((0 : Int) < (lx : Int)) = true := by simp; omega
        have l3 : (0 : Int) < (lx : Int) := by omega
        obtain ⟨lz, hlz⟩ : ∃ z, lx = z + 1 := ⟨lx - 1, by omega⟩
        have wl : IntKind.i64.wrap ((lx : Int) - 1) = (lz : Int) := by rw [show (lx : Int) - 1 = (lz : Int) by omega]; exact IntWalk.i64_in _ (by omega)
        have l4 : decide (lz < lx) = true := by simp; omega
        have l5 : decide ((lz : Int) < (lx : Int)) = true := by simp; omega
        have l6 : (lz : Int) < (lx : Int) := by omega
        obtain ⟨gs, os, cx', eA, _, _, hcel, _, _⟩ := (HXS.out.only (Only.of_below (F := fun _ => False) HBT.out) fun _ _ f => f).at_ hl0
        cases eA
        have l7 := hcel lz _ (by have h9 := ends_at hse; rw [← HXL.out, show lx - 1 = lz by omega] at h9; exact h9)
        obtain ⟨ez, hez⟩ : ∃ z, z = ends x.st := ⟨_, rfl⟩
        rw [← hez] at l7
        have HRR := hide (show R = (ez.toNat, 0, 0) by rw [HOUT.out, if_pos hse, hez])
        have HEZ := hide (show 0 ≤ ez by
          rcases List.eq_nil_or_concat x.st with e | ⟨l, y, e⟩
          · exact absurd e hse
          · rw [hez, e, List.concat_eq_append, ends_snoc]
            exact HG.out.pos x (by simp) y (by rw [e]; simp))
        clear hse hl0 hlz hcel hez
        go_wp2_with fail
        refine bodyPost_ret (results_tmp_cell rfl _ _ w.heap.size 40 #[.int .i64 (0), .int .i64 (0)] (0, 0) _ rfl ((HRK.out.set_ 0 _).set_ 1 _) Tryd.underlying40 rfl (by kernel_rfl)) rfl ?_
        exact ⟨by rw [HR.out]; rw [HRR.out]; show _ = Ending.returned (.tuple #[.int .i64 ((ez.toNat : Nat) : Int), _]); rw [Int.toNat_of_nonneg HEZ.out]; rfl, ((HB0.out.trans (HBB.out.mono HB0.out.size)).setCell (p := ⟨w.heap.size, 0, none⟩) (Nat.le_refl _) _).setCell (p := ⟨w.heap.size, 1, none⟩) (Nat.le_refl _) _⟩
end
end Go.Proofs.YtdojcgefiekleaaDoor
