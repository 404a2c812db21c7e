/- SyntaxBuilt: the walk, where there are gaps. No condition but those written. -/
import Derived.Test.YtdojcgefiekleaaDoorSdh
namespace Go.Proofs.YtdojcgefiekleaaDoor
open Go.RowKit

set_option maxRecDepth 100000 in
set_option maxHeartbeats 16000000 in
theorem built_some (lv pv gv : Value) (l ps gs : List Int) (w : World) (hT : Tabs w) (hl : Rd w lv 1 l.length (zints l)) (hp : Rd w pv 1 ps.length (zints ps)) (hg : Rd w gv 1 gs.length (zints gs)) (hlm : l.length ≤ maxLen) (hpm : ps.length ≤ maxLen) (hgm : gs.length ≤ maxLen) (hgz : gs.length ≠ 0) : Calls Tryd.prog 6 #[lv, pv, gv] w fun e w' => e = .returned (.bool true) ∧ Below w.heap.size w w' := by
  obtain ⟨lA, lc, rfl⟩ := hl.form
  obtain ⟨pA, pc, rfl⟩ := hp.form
  obtain ⟨gA, gc, rfl⟩ := hg.form
  have HLV := hide (lives_any w hT)
  have HT := hide hT
  unfold maxLen at hlm hpm hgm
  obtain ⟨nl, hnl⟩ : ∃ n, n = l.length := ⟨_, rfl⟩
  obtain ⟨np, hnp⟩ : ∃ n, n = ps.length := ⟨_, rfl⟩
  obtain ⟨ng, hng⟩ : ∃ n, n = gs.length := ⟨_, rfl⟩
  rw [← hnl] at hl hlm ⊢
  rw [← hnp] at hp hpm ⊢
  rw [← hng] at hg hgm hgz ⊢
  have HLR := hide hl
  have HPR := hide hp
  have HGR := hide hg
  have HNL := hide hnl
  have HNP := hide hnp
  have HNG := hide hng
  have HGZ := hide hgz
  clear hT hl hp hg hnl hnp hng hgz
  by_cases g1 : 60 < nl
  · have y1 : decide ((60 : Int) < (nl : Int)) = true := by simp; omega
    clear g1
    go_enter Tryd.func6, Tryd.ntmps6
    go_wp2_with (go_at_call 11; (with_reducible refine Calls.mono HLV.out ?_); rintro r w1 ⟨rfl, hb1⟩; have HB1 := hide hb1; clear hb1)
    go_ret
    exact ⟨rfl, HB1.out⟩
  have y1 : decide ((60 : Int) < (nl : Int)) = false := by simp; omega
  by_cases g2 : 60 < np
  · have y2 : decide ((60 : Int) < (np : Int)) = true := by simp; omega
    clear g2
    go_enter Tryd.func6, Tryd.ntmps6
    go_wp2_with (go_at_call 11; (with_reducible refine Calls.mono HLV.out ?_); rintro r w1 ⟨rfl, hb1⟩; have HB1 := hide hb1; clear hb1)
    go_ret
    exact ⟨rfl, HB1.out⟩
  have y2 : decide ((60 : Int) < (np : Int)) = false := by simp; omega
  by_cases g3 : 60 < ng
  · have y3 : decide ((60 : Int) < (ng : Int)) = true := by simp; omega
    clear g3
    go_enter Tryd.func6, Tryd.ntmps6
    go_wp2_with (go_at_call 11; (with_reducible refine Calls.mono HLV.out ?_); rintro r w1 ⟨rfl, hb1⟩; have HB1 := hide hb1; clear hb1)
    go_ret
    exact ⟨rfl, HB1.out⟩
  have y3 : decide ((60 : Int) < (ng : Int)) = false := by simp; omega
  have hl60 : (nl : Int) ≤ 60 := by omega
  have hp60 : (np : Int) ≤ 60 := by omega
  have hg60 : (ng : Int) ≤ 60 := by omega
  clear hlm hpm hgm g1 g2 g3 y1 y2 y3
  have y1 : decide ((60 : Int) < (nl : Int)) = false := by simp; omega
  have y2 : decide ((60 : Int) < (np : Int)) = false := by simp; omega
  have y3 : decide ((60 : Int) < (ng : Int)) = false := by simp; omega
  obtain ⟨i0, hi0, hz0, hz1, hz2⟩ := info_parts info_int
  go_enter Tryd.func6, Tryd.ntmps6
  go_wp2_with (first | (go_at_call 11; (with_reducible refine Calls.mono HLV.out ?_); rintro r w1 ⟨rfl, hb1⟩; have HB1 := hide hb1; clear hb1) | (go_at_call 22; (with_reducible refine Calls.mono (tlisp_any _) ?_); rintro r w2 ⟨p, rfl, hb2, -, ht2⟩; have HT2 := hide ht2; have HB2 := hide (HB1.out.trans (hb2.mono HB1.out.size)); clear hb2 ht2))
  clear y1 y2 y3
  go_loopw [8, 9, 10, 11, 12, 13] (fun sv ov bv ev nv iv wr => ∃ (i : Nat) (sb : ByteArray) (O B En Nn : List Int) (g : Bool) (s : List Nat) (E : List Exr) (S : List Lvl) (top : Int), sv = .string sb ∧ iv = .int .i64 (i : Int) ∧ i ≤ nl ∧ Bld w2 wr (i * 17) i ov bv ev nv sb O B En Nn g s E S top) (fun _ _ _ _ _ iv _ => 61 - (intOf iv).toNat)
  case atStart => exact ⟨0, ⟨#[]⟩, [], [], [], [], false, [], [], [], -1, rfl, rfl, Nat.zero_le _, Bld.start _⟩
  case round =>
    obtain ⟨i, sb, O, B, En, Nn, g, s, E, S, top, rfl, rfl, hin, hst⟩ := hrel
    by_cases hlt : i < nl
    · have z0 : decide ((i : Int) < (nl : Int)) = true := by simp; omega
      have z1 : (i : Int) < (nl : Int) := by omega
      have HLT := hide hlt
      obtain ⟨li, hli⟩ : ∃ x, l[i]? = some x := ⟨_, List.getElem?_eq_getElem (by rw [← HNL.out]; exact hlt)⟩
      have hlz : (zints l)[i]? = some (.int .i64 li) := by unfold zints; rw [List.getElem?_map, hli]; rfl
      obtain ⟨lb, loff, rfl, HLC⟩ := rd_cells HLR.out (by omega)
      have HLC := hide (fun (W : World) (hW : Below w.heap.size w W) => HLC W hW i _ hlz)
      obtain ⟨oA, oc, rfl, hoc⟩ := hst.form_o
      obtain ⟨bA, bc, rfl⟩ := hst.form_b
      obtain ⟨eA, ec, rfl⟩ := hst.form_e
      obtain ⟨nA, nc, rfl⟩ := hst.form_n
      obtain ⟨nO, hnO⟩ : ∃ n, n = O.length := ⟨_, rfl⟩
      obtain ⟨nB, hnB⟩ : ∃ n, n = B.length := ⟨_, rfl⟩
      obtain ⟨nE, hnE⟩ : ∃ n, n = En.length := ⟨_, rfl⟩
      obtain ⟨nN, hnN⟩ : ∃ n, n = Nn.length := ⟨_, rfl⟩
      have bO : (nO : Int) ≤ 60 := by have := hst.lenO; omega
      have bB : (nB : Int) ≤ 60 := by have := hst.lenB; omega
      have bE : (nE : Int) ≤ 60 := by have := hst.lenE; omega
      have bN : (nN : Int) ≤ 60 := by have := hst.lenN; omega
      have bS : (sb.size : Int) ≤ 2000 := by have := hst.size; omega
      have hoc2 : (nO : Int) ≤ (oc : Int) := by omega
      rw [← hnO] at hst ⊢
      rw [← hnB] at hst ⊢
      rw [← hnE] at hst ⊢
      rw [← hnN] at hst ⊢
      have HNO := hide hnO
      have HNB := hide hnB
      have HNE := hide hnE
      have HNN := hide hnN
      have HST := hide hst
      have HPK := hide (fun W => pick_any li 4 W (by omega) (by omega))
      have k0 := pickZ_ge (n := li) (k := 4) (by omega)
      have k4 := pickZ_lt (n := li) (k := 4) (by omega)
      obtain ⟨k, hk⟩ : ∃ k, pickZ li 4 = k := ⟨_, rfl⟩
      rw [hk] at HPK k0 k4
      clear hli hlz hnO hnB hnE hnN hst hlt hk hoc hin
      have HWR := hide (HB2.out.trans (HST.out.rs.bel.mono HB2.out.size))
      have gz0 := HGZ.out
      obtain ⟨gb, goff, rfl, hgc⟩ := rd_cells HGR.out (by omega)
      obtain ⟨gr, hgr, hgr2⟩ : ∃ r : Nat, (i : Int).tmod (ng : Int) = (r : Int) ∧ r < ng := ⟨i % ng, (Int.ofNat_tmod i ng).symm, Nat.mod_lt _ (by omega)⟩
      obtain ⟨gz, hgz⟩ : ∃ x, gs[gr]? = some x := ⟨_, List.getElem?_eq_getElem (by rw [← HNG.out]; exact hgr2)⟩
      have HGC := hide (fun (W : World) (hW : Below w.heap.size w W) => hgc W hW gr _ (zints_at hgz))
      have g1 : decide ((0 : Int) < (ng : Int)) = true := by simp; omega
      have g6 : decide (0 < ng) = true := by simp; omega
      have g2 : ((ng : Int) == 0) = false := by simp; omega
      have g3 : ¬ ((ng : Int) = 0) := by omega
      have g4 : decide ((gr : Int) < (ng : Int)) = true := by simp; omega
      have g5 : (gr : Int) < (ng : Int) := by omega
      clear hgc hgr2 hgz
      clear gz0
      have cg := HGC.out wr HWR.out
      go_upto_region 14 with (go_at_call 23; (with_reducible refine Calls.mono (gapT_any _ _) ?_); rintro r wg ⟨q, hq, rfl, hbg⟩; have HQ := hide hq; have zq : ((strOf q).size : Int) ≤ 8 := (by have h1 := strA_size (asc_gaps q hq); have h2 := len_gaps q hq; omega); have HSG := hide (HST.out.below hbg); have cl := HLC.out wg (HWR.out.trans (hbg.mono HWR.out.size)); have HBG := hide hbg; clear hq hbg)
      go_upto_region 14 with fail
      obtain ⟨sb1, hsb1⟩ : ∃ x, x = sb ++ strOf q := ⟨_, rfl⟩
      rw [← hsb1]
      have HS1 := hide (show Bld w2 wg (i * 17 + 8) i _ _ _ _ sb1 O B En Nn true (s ++ q) E S top from by
        rw [hsb1]
        have hi60 := HLT.out
        exact HSG.out.gap HQ.out (by omega))
      have z9 : (sb1.size : Int) ≤ 1100 := by have := HS1.out.size; omega
      clear hsb1
      rcases S with _ | ⟨y, S⟩
      · have hn0 : nO = 0 := by rw [HNO.out, HST.out.eO]; rfl
        have n1 : decide ((0 : Int) < (nO : Int)) = false := by simp; omega
        have n2 : decide (0 < nO) = false := by simp; omega
        clear hn0
        go_upto_region 17 with fail
        by_cases hk2 : k < 2
        · have x1 : decide (k < 2) = true := by simpa using hk2
          by_cases pz0 : np = 0
          · have pz1 : decide ((0 : Int) < (np : Int)) = false := by simp; omega
            have pz2 : decide (0 < np) = false := by simp; omega
            clear pz0
            rcases (show k = 0 ∨ k = 1 by omega) with rfl | rfl
            · as_aux_lemma =>
                go_wp2_with (go_at_call 15; (with_reducible refine Calls.mono (HPK.out _) ?_); rintro r w' ⟨rfl, rfl⟩)
                have hi60 := HLT.out
                go_roundw
                case rel => exact ⟨i + 1, sb1, _, _, _, _, _, _, _, _, _, rfl, by go_num, HLT.out, HS1.out.weak (by omega) (by omega) (by omega) (by omega)⟩
                case measure => have := HLT.out; simp [intOf]; omega
            · as_aux_lemma =>
                go_wp2_with (go_at_call 15; (with_reducible refine Calls.mono (HPK.out _) ?_); rintro r w' ⟨rfl, rfl⟩)
                have hi60 := HLT.out
                go_roundw
                case rel => exact ⟨i + 1, sb1, _, _, _, _, _, _, _, _, _, rfl, by go_num, HLT.out, HS1.out.weak (by omega) (by omega) (by omega) (by omega)⟩
                case measure => have := HLT.out; simp [intOf]; omega
          · obtain ⟨pb, poff, rfl, hpc⟩ := rd_cells HPR.out (by omega)
            obtain ⟨pr, hpr, hpr2⟩ : ∃ r : Nat, (i : Int).tmod (np : Int) = (r : Int) ∧ r < np := ⟨i % np, (Int.ofNat_tmod i np).symm, Nat.mod_lt _ (by omega)⟩
            obtain ⟨pz, hpz⟩ : ∃ x, ps[pr]? = some x := ⟨_, List.getElem?_eq_getElem (by rw [← HNP.out]; exact hpr2)⟩
            have HPC := hide (fun (W : World) (hW : Below w.heap.size w W) => hpc W hW pr _ (zints_at hpz))
            have p1 : decide ((0 : Int) < (np : Int)) = true := by simp; omega
            have p6 : decide (0 < np) = true := by simp; omega
            have p2 : ((np : Int) == 0) = false := by simp; omega
            have p3 : ¬ ((np : Int) = 0) := by omega
            have p4 : decide ((pr : Int) < (np : Int)) = true := by simp; omega
            have p5 : (pr : Int) < (np : Int) := by omega
            clear hpc hpr2 hpz
            clear pz0
            as_aux_lemma =>
              have HSB := hide (show Sl wg 3 1 (.slice bA nB bc) nB (zints B) from by have h := HS1.out.sb_; rwa [← HNB.out] at h)
              go_wp2_with (first | (go_at_call 15; (with_reducible refine Calls.mono (HPK.out _) ?_); rintro r w' ⟨rfl, rfl⟩) | (at_builtin; refine wpList_append_sl rfl (.tmp 91) (.tmp 94) 24 rfl 3 i0 (.int .i64 0) 1 8 Tryd.underlying24 hi0 hz0 hz1 hz2 rfl _ nB (zints B) rfl (HSB.out.alloc _) _ rfl 1 [_] (rd_one _ _ _) ?one ?b1 ?b2 ?_))
              case one => intro u hu; simp at hu; subst hu; rfl
              case b1 => unfold maxLen; omega
              case b2 => omega
              intro bv2 wa hsl honly hv
              obtain ⟨bA2, bc2, rfl, _⟩ := hsl.form
              have HR1 := hide (Rs.turn (A := [(.slice oA nO oc, O)]) (B := [(.slice eA nE ec, En), (.slice nA nN nc, Nn)]) (v := .slice bA nB bc) (xs := B) (xs' := B ++ [(sb1.size : Int)]) (HS1.out.rs.below (below_box' wg _)) (by rw [List.length_append, zints_snoc, ← HNB.out]; exact hsl) honly (hv.imp id fun e => ⟨_, e, by simp⟩))
              clear hsl honly hv
              have HSN := hide (show Sl wa 3 1 (.slice nA nN nc) nN (zints Nn) from by have h := (HR1.out.sl (.slice nA nN nc, Nn) (by simp)).1; rwa [← HNN.out] at h)
              go_wp2_with (at_builtin; refine wpList_append_sl rfl (.tmp 96) (.tmp 98) 24 rfl 3 i0 (.int .i64 0) 1 8 Tryd.underlying24 hi0 hz0 hz1 hz2 rfl _ nN (zints Nn) rfl (HSN.out.alloc _) _ rfl 1 [_] (rd_one _ _ _) ?one ?b1 ?b2 ?_)
              case one => intro u hu; simp at hu; subst hu; rfl
              case b1 => unfold maxLen; omega
              case b2 => omega
              intro nv2 wb hsl honly hv
              obtain ⟨nA2, nc2, rfl, _⟩ := hsl.form
              have HR2 := hide (Rs.turn (A := [(.slice oA nO oc, O), (.slice bA2 (nB + 1) bc2, B ++ [(sb1.size : Int)]), (.slice eA nE ec, En)]) (B := []) (v := .slice nA nN nc) (xs := Nn) (xs' := Nn ++ [(-1)]) (HR1.out.below (below_box' wa _)) (by rw [List.length_append, zints_snoc, ← HNN.out]; exact hsl) honly (hv.imp id fun e => ⟨_, e, by simp⟩))
              clear hsl honly hv
              have cp := HPC.out wb (HB2.out.trans (HR2.out.bel.mono HB2.out.size))
              go_upto_region 21 with (go_at_call 24; (with_reducible refine Calls.mono (pieceT_any _ _) ?_); rintro r wp ⟨pq, hpq, rfl, hbp⟩; have HPQ := hide hpq; have zpq : ((strOf pq).size : Int) ≤ 8 := (by have h1 := strA_size (asc_pieces pq hpq); have h2 := len_pieces pq hpq; omega); have HR3 := hide (HR2.out.below hbp); clear hpq hbp)
              go_upto_region 21 with fail
              obtain ⟨sb2, hsb2⟩ : ∃ x, x = sb1 ++ strOf pq := ⟨_, rfl⟩
              rw [← hsb2]
              have z10 : (sb2.size : Int) ≤ 2000 := by
                have e1 : sb2.size = sb1.size + (strOf pq).size := by rw [hsb2, ByteArray.size_append]
                have e2 := strA_size (asc_pieces pq HPQ.out)
                have e3 := len_pieces pq HPQ.out
                omega
              have HSB2 := hide hsb2
              clear hsb2
              have HSE := hide (show Sl wp 3 1 (.slice eA nE ec) nE (zints En) from by have h := (HR3.out.sl (.slice eA nE ec, En) (by simp)).1; rwa [← HNE.out] at h)
              go_wp2_with (at_builtin; refine wpList_append_sl rfl (.tmp 110) (.tmp 113) 24 rfl 3 i0 (.int .i64 0) 1 8 Tryd.underlying24 hi0 hz0 hz1 hz2 rfl _ nE (zints En) rfl (HSE.out.alloc _) _ rfl 1 [_] (rd_one _ _ _) ?one ?b1 ?b2 ?_)
              case one => intro u hu; simp at hu; subst hu; rfl
              case b1 => unfold maxLen; omega
              case b2 => omega
              intro ev2 we hsl honly hv
              obtain ⟨eA2, ec2, rfl, _⟩ := hsl.form
              have HR4 := hide (Rs.turn (A := [(.slice oA nO oc, O), (.slice bA2 (nB + 1) bc2, B ++ [(sb1.size : Int)])]) (B := [(.slice nA2 (nN + 1) nc2, Nn ++ [(-1)])]) (v := .slice eA nE ec) (xs := En) (xs' := En ++ [(sb2.size : Int)]) (HR3.out.below (below_box' wp _)) (by rw [List.length_append, zints_snoc, ← HNE.out]; exact hsl) honly (hv.imp id fun e => ⟨_, e, by simp⟩))
              clear hsl honly hv
              go_wp2
              have hi60 := HLT.out
              obtain ⟨E2, S2, top2, hfin⟩ := HS1.out.piece HPQ.out (by omega) (by omega) HSB2.out HR4.out rfl rfl (rfl)
              go_roundw
              case rel => exact ⟨i + 1, sb2, _, _, _, _, _, _, E2, S2, top2, rfl, by go_num, HLT.out, hfin.weak (by omega) (by omega) (by omega) (by omega)⟩
              case measure => have := HLT.out; simp [intOf]; omega
        · by_cases hk3 : k = 2
          · subst hk3
            rcases (show (i : Int).tmod 2 = 0 ∨ (i : Int).tmod 2 = 1 by have h : ((i % 2 : Nat) : Int) = (i : Int).tmod 2 := Int.ofNat_tmod i 2; omega) with par | par
            · as_aux_lemma =>
                have HSO := hide (show Sl wg 3 1 (.slice oA nO oc) nO (zints O) from by have h := HS1.out.so; rwa [← HNO.out] at h)
                go_wp2_with (first | (go_at_call 15; (with_reducible refine Calls.mono (HPK.out _) ?_); rintro r w' ⟨rfl, rfl⟩) | (at_builtin; refine wpList_append_sl rfl (.tmp 118) (.tmp 121) 24 rfl 3 i0 (.int .i64 0) 1 8 Tryd.underlying24 hi0 hz0 hz1 hz2 rfl _ nO (zints O) rfl (HSO.out.alloc _) _ rfl 1 [_] (rd_one _ _ _) ?one ?b1 ?b2 ?_))
                case one => intro u hu; simp at hu; subst hu; rfl
                case b1 => unfold maxLen; omega
                case b2 => omega
                intro ov2 wa hsl honly hv
                obtain ⟨oA2, oc2, rfl, _⟩ := hsl.form
                have HR1 := hide (Rs.turn (A := []) (B := [(.slice bA nB bc, B), (.slice eA nE ec, En), (.slice nA nN nc, Nn)]) (v := .slice oA nO oc) (xs := O) (xs' := O ++ [(sb1.size : Int)]) (HS1.out.rs.below (below_box' wg _)) (by rw [List.length_append, zints_snoc, ← HNO.out]; exact hsl) honly (hv.imp id fun e => ⟨_, e, by simp⟩))
                clear hsl honly hv
                go_wp2
                have hi60 := HLT.out
                obtain ⟨E2, S2, top2, hfin⟩ := HS1.out.brack (q := 40) (by decide) (by omega) (by omega) rfl HR1.out rfl
                go_roundw
                case rel => exact ⟨i + 1, _, _, _, _, _, _, _, E2, S2, top2, rfl, by go_num, HLT.out, hfin.weak (by omega) (by omega) (by omega) (by omega)⟩
                case measure => have := HLT.out; simp [intOf]; omega
            · as_aux_lemma =>
                have HSO := hide (show Sl wg 3 1 (.slice oA nO oc) nO (zints O) from by have h := HS1.out.so; rwa [← HNO.out] at h)
                go_wp2_with (first | (go_at_call 15; (with_reducible refine Calls.mono (HPK.out _) ?_); rintro r w' ⟨rfl, rfl⟩) | (at_builtin; refine wpList_append_sl rfl (.tmp 118) (.tmp 121) 24 rfl 3 i0 (.int .i64 0) 1 8 Tryd.underlying24 hi0 hz0 hz1 hz2 rfl _ nO (zints O) rfl (HSO.out.alloc _) _ rfl 1 [_] (rd_one _ _ _) ?one ?b1 ?b2 ?_))
                case one => intro u hu; simp at hu; subst hu; rfl
                case b1 => unfold maxLen; omega
                case b2 => omega
                intro ov2 wa hsl honly hv
                obtain ⟨oA2, oc2, rfl, _⟩ := hsl.form
                have HR1 := hide (Rs.turn (A := []) (B := [(.slice bA nB bc, B), (.slice eA nE ec, En), (.slice nA nN nc, Nn)]) (v := .slice oA nO oc) (xs := O) (xs' := O ++ [(sb1.size : Int)]) (HS1.out.rs.below (below_box' wg _)) (by rw [List.length_append, zints_snoc, ← HNO.out]; exact hsl) honly (hv.imp id fun e => ⟨_, e, by simp⟩))
                clear hsl honly hv
                go_wp2
                have hi60 := HLT.out
                obtain ⟨E2, S2, top2, hfin⟩ := HS1.out.brack (q := 91) (by decide) (by omega) (by omega) rfl HR1.out rfl
                go_roundw
                case rel => exact ⟨i + 1, _, _, _, _, _, _, _, E2, S2, top2, rfl, by go_num, HLT.out, hfin.weak (by omega) (by omega) (by omega) (by omega)⟩
                case measure => have := HLT.out; simp [intOf]; omega
          · obtain rfl : k = 3 := by omega
            as_aux_lemma =>
              go_wp2_with (go_at_call 15; (with_reducible refine Calls.mono (HPK.out _) ?_); rintro r w' ⟨rfl, rfl⟩)
              have hi60 := HLT.out
              go_roundw
              case rel => exact ⟨i + 1, sb1, _, _, _, _, _, _, _, _, _, rfl, by go_num, HLT.out, HS1.out.weak (by omega) (by omega) (by omega) (by omega)⟩
              case measure => have := HLT.out; simp [intOf]; omega
      · obtain ⟨yo, hyo⟩ : ∃ yo : Nat, y.1 = (yo : Int) := ⟨y.1.toNat, by have h := HST.out.good.lv; have := h.2.2.1; have := LvOk.hd_ge h.2.2.2.2.2.2.2; omega⟩
        have HYO := hide hyo
        have HYL := hide (show y.1.toNat < s.length from by have h := HST.out.good.lv.2.2.2.1; omega)
        have HYH := hide HST.out.good.lv.2.2.2.2.1
        clear hyo
        rcases S with _ | ⟨z, S⟩
        · have hm1 : nO = 1 := by rw [HNO.out, HST.out.eO]; rfl
          obtain ⟨mO, hmO⟩ : ∃ mO, mO = 0 := ⟨_, rfl⟩
          have HMO := hide (show nO = mO + 1 by omega)
          obtain ⟨ob, ooff, rfl, hoc0⟩ := rd_cells (show Rd wr (.slice oA nO oc) 1 nO (zints O) from by have h := HST.out.so.rd; rwa [← HNO.out] at h) (by omega)
          have HOC := hide (fun (W : World) (hW : Below wr.heap.size wr W) => hoc0 W hW mO (.int .i64 (yo : Int)) (zints_at (by rw [HST.out.eO, hmO]; simp [opnB]; exact HYO.out)))
          clear hoc0
          have n1 : decide ((0 : Int) < (nO : Int)) = true := by simp; omega
          have n2 : decide (0 < nO) = true := by simp; omega
          have n3 : (nO : Int) - 1 = (mO : Int) := by omega
          have n4 : (mO : Int) < (nO : Int) := by omega
          have n5 : decide ((mO : Int) < (nO : Int)) = true := by simp; omega
          have n6 : decide (mO < nO) = true := by simp; omega
          have n7 : (mO : Int) ≤ (oc : Int) := by omega
          have n8 : (mO : Int) ≤ 60 := by omega
          have m1 : decide ((0 : Int) < (mO : Int)) = false := by simp; omega
          have m2 : decide (0 < mO) = false := by simp; omega
          clear hm1 hmO
          have co := HOC.out wg HBG.out
          go_upto_region 17 with fail
          by_cases hk2 : k < 2
          · have x1 : decide (k < 2) = true := by simpa using hk2
            by_cases pz0 : np = 0
            · have pz1 : decide ((0 : Int) < (np : Int)) = false := by simp; omega
              have pz2 : decide (0 < np) = false := by simp; omega
              clear pz0
              rcases (show k = 0 ∨ k = 1 by omega) with rfl | rfl
              · as_aux_lemma =>
                  go_wp2_with (go_at_call 15; (with_reducible refine Calls.mono (HPK.out _) ?_); rintro r w' ⟨rfl, rfl⟩)
                  have hi60 := HLT.out
                  go_roundw
                  case rel => exact ⟨i + 1, sb1, _, _, _, _, _, _, _, _, _, rfl, by go_num, HLT.out, HS1.out.weak (by omega) (by omega) (by omega) (by omega)⟩
                  case measure => have := HLT.out; simp [intOf]; omega
              · as_aux_lemma =>
                  go_wp2_with (go_at_call 15; (with_reducible refine Calls.mono (HPK.out _) ?_); rintro r w' ⟨rfl, rfl⟩)
                  have hi60 := HLT.out
                  go_roundw
                  case rel => exact ⟨i + 1, sb1, _, _, _, _, _, _, _, _, _, rfl, by go_num, HLT.out, HS1.out.weak (by omega) (by omega) (by omega) (by omega)⟩
                  case measure => have := HLT.out; simp [intOf]; omega
            · obtain ⟨pb, poff, rfl, hpc⟩ := rd_cells HPR.out (by omega)
              obtain ⟨pr, hpr, hpr2⟩ : ∃ r : Nat, (i : Int).tmod (np : Int) = (r : Int) ∧ r < np := ⟨i % np, (Int.ofNat_tmod i np).symm, Nat.mod_lt _ (by omega)⟩
              obtain ⟨pz, hpz⟩ : ∃ x, ps[pr]? = some x := ⟨_, List.getElem?_eq_getElem (by rw [← HNP.out]; exact hpr2)⟩
              have HPC := hide (fun (W : World) (hW : Below w.heap.size w W) => hpc W hW pr _ (zints_at hpz))
              have p1 : decide ((0 : Int) < (np : Int)) = true := by simp; omega
              have p6 : decide (0 < np) = true := by simp; omega
              have p2 : ((np : Int) == 0) = false := by simp; omega
              have p3 : ¬ ((np : Int) = 0) := by omega
              have p4 : decide ((pr : Int) < (np : Int)) = true := by simp; omega
              have p5 : (pr : Int) < (np : Int) := by omega
              clear hpc hpr2 hpz
              clear pz0
              as_aux_lemma =>
                have HSB := hide (show Sl wg 3 1 (.slice bA nB bc) nB (zints B) from by have h := HS1.out.sb_; rwa [← HNB.out] at h)
                go_wp2_with (first | (go_at_call 15; (with_reducible refine Calls.mono (HPK.out _) ?_); rintro r w' ⟨rfl, rfl⟩) | (at_builtin; refine wpList_append_sl rfl (.tmp 91) (.tmp 94) 24 rfl 3 i0 (.int .i64 0) 1 8 Tryd.underlying24 hi0 hz0 hz1 hz2 rfl _ nB (zints B) rfl (HSB.out.alloc _) _ rfl 1 [_] (rd_one _ _ _) ?one ?b1 ?b2 ?_))
                case one => intro u hu; simp at hu; subst hu; rfl
                case b1 => unfold maxLen; omega
                case b2 => omega
                intro bv2 wa hsl honly hv
                obtain ⟨bA2, bc2, rfl, _⟩ := hsl.form
                have HR1 := hide (Rs.turn (A := [(.slice (some ⟨ob, ooff, none⟩) nO oc, O)]) (B := [(.slice eA nE ec, En), (.slice nA nN nc, Nn)]) (v := .slice bA nB bc) (xs := B) (xs' := B ++ [(sb1.size : Int)]) (HS1.out.rs.below (below_box' wg _)) (by rw [List.length_append, zints_snoc, ← HNB.out]; exact hsl) honly (hv.imp id fun e => ⟨_, e, by simp⟩))
                clear hsl honly hv
                have HSN := hide (show Sl wa 3 1 (.slice nA nN nc) nN (zints Nn) from by have h := (HR1.out.sl (.slice nA nN nc, Nn) (by simp)).1; rwa [← HNN.out] at h)
                go_wp2_with (at_builtin; refine wpList_append_sl rfl (.tmp 96) (.tmp 98) 24 rfl 3 i0 (.int .i64 0) 1 8 Tryd.underlying24 hi0 hz0 hz1 hz2 rfl _ nN (zints Nn) rfl (HSN.out.alloc _) _ rfl 1 [_] (rd_one _ _ _) ?one ?b1 ?b2 ?_)
                case one => intro u hu; simp at hu; subst hu; rfl
                case b1 => unfold maxLen; omega
                case b2 => omega
                intro nv2 wb hsl honly hv
                obtain ⟨nA2, nc2, rfl, _⟩ := hsl.form
                have HR2 := hide (Rs.turn (A := [(.slice (some ⟨ob, ooff, none⟩) nO oc, O), (.slice bA2 (nB + 1) bc2, B ++ [(sb1.size : Int)]), (.slice eA nE ec, En)]) (B := []) (v := .slice nA nN nc) (xs := Nn) (xs' := Nn ++ [(yo : Int)]) (HR1.out.below (below_box' wa _)) (by rw [List.length_append, zints_snoc, ← HNN.out]; exact hsl) honly (hv.imp id fun e => ⟨_, e, by simp⟩))
                clear hsl honly hv
                have cp := HPC.out wb (HB2.out.trans (HR2.out.bel.mono HB2.out.size))
                go_upto_region 21 with (go_at_call 24; (with_reducible refine Calls.mono (pieceT_any _ _) ?_); rintro r wp ⟨pq, hpq, rfl, hbp⟩; have HPQ := hide hpq; have zpq : ((strOf pq).size : Int) ≤ 8 := (by have h1 := strA_size (asc_pieces pq hpq); have h2 := len_pieces pq hpq; omega); have HR3 := hide (HR2.out.below hbp); clear hpq hbp)
                go_upto_region 21 with fail
                obtain ⟨sb2, hsb2⟩ : ∃ x, x = sb1 ++ strOf pq := ⟨_, rfl⟩
                rw [← hsb2]
                have z10 : (sb2.size : Int) ≤ 2000 := by
                  have e1 : sb2.size = sb1.size + (strOf pq).size := by rw [hsb2, ByteArray.size_append]
                  have e2 := strA_size (asc_pieces pq HPQ.out)
                  have e3 := len_pieces pq HPQ.out
                  omega
                have HSB2 := hide hsb2
                clear hsb2
                have HSE := hide (show Sl wp 3 1 (.slice eA nE ec) nE (zints En) from by have h := (HR3.out.sl (.slice eA nE ec, En) (by simp)).1; rwa [← HNE.out] at h)
                go_wp2_with (at_builtin; refine wpList_append_sl rfl (.tmp 110) (.tmp 113) 24 rfl 3 i0 (.int .i64 0) 1 8 Tryd.underlying24 hi0 hz0 hz1 hz2 rfl _ nE (zints En) rfl (HSE.out.alloc _) _ rfl 1 [_] (rd_one _ _ _) ?one ?b1 ?b2 ?_)
                case one => intro u hu; simp at hu; subst hu; rfl
                case b1 => unfold maxLen; omega
                case b2 => omega
                intro ev2 we hsl honly hv
                obtain ⟨eA2, ec2, rfl, _⟩ := hsl.form
                have HR4 := hide (Rs.turn (A := [(.slice (some ⟨ob, ooff, none⟩) nO oc, O), (.slice bA2 (nB + 1) bc2, B ++ [(sb1.size : Int)])]) (B := [(.slice nA2 (nN + 1) nc2, Nn ++ [(yo : Int)])]) (v := .slice eA nE ec) (xs := En) (xs' := En ++ [(sb2.size : Int)]) (HR3.out.below (below_box' wp _)) (by rw [List.length_append, zints_snoc, ← HNE.out]; exact hsl) honly (hv.imp id fun e => ⟨_, e, by simp⟩))
                clear hsl honly hv
                go_wp2
                have hi60 := HLT.out
                obtain ⟨E2, S2, top2, hfin⟩ := HS1.out.piece HPQ.out (by omega) (by omega) HSB2.out HR4.out rfl rfl (HYO.out.symm)
                go_roundw
                case rel => exact ⟨i + 1, sb2, _, _, _, _, _, _, E2, S2, top2, rfl, by go_num, HLT.out, hfin.weak (by omega) (by omega) (by omega) (by omega)⟩
                case measure => have := HLT.out; simp [intOf]; omega
          · by_cases hk3 : k = 2
            · subst hk3
              rcases (show (i : Int).tmod 2 = 0 ∨ (i : Int).tmod 2 = 1 by have h : ((i % 2 : Nat) : Int) = (i : Int).tmod 2 := Int.ofNat_tmod i 2; omega) with par | par
              · as_aux_lemma =>
                  have HSO := hide (show Sl wg 3 1 (.slice (some ⟨ob, ooff, none⟩) nO oc) nO (zints O) from by have h := HS1.out.so; rwa [← HNO.out] at h)
                  go_wp2_with (first | (go_at_call 15; (with_reducible refine Calls.mono (HPK.out _) ?_); rintro r w' ⟨rfl, rfl⟩) | (at_builtin; refine wpList_append_sl rfl (.tmp 118) (.tmp 121) 24 rfl 3 i0 (.int .i64 0) 1 8 Tryd.underlying24 hi0 hz0 hz1 hz2 rfl _ nO (zints O) rfl (HSO.out.alloc _) _ rfl 1 [_] (rd_one _ _ _) ?one ?b1 ?b2 ?_))
                  case one => intro u hu; simp at hu; subst hu; rfl
                  case b1 => unfold maxLen; omega
                  case b2 => omega
                  intro ov2 wa hsl honly hv
                  obtain ⟨oA2, oc2, rfl, _⟩ := hsl.form
                  have HR1 := hide (Rs.turn (A := []) (B := [(.slice bA nB bc, B), (.slice eA nE ec, En), (.slice nA nN nc, Nn)]) (v := .slice (some ⟨ob, ooff, none⟩) nO oc) (xs := O) (xs' := O ++ [(sb1.size : Int)]) (HS1.out.rs.below (below_box' wg _)) (by rw [List.length_append, zints_snoc, ← HNO.out]; exact hsl) honly (hv.imp id fun e => ⟨_, e, by simp⟩))
                  clear hsl honly hv
                  go_wp2
                  have hi60 := HLT.out
                  obtain ⟨E2, S2, top2, hfin⟩ := HS1.out.brack (q := 40) (by decide) (by omega) (by omega) rfl HR1.out rfl
                  go_roundw
                  case rel => exact ⟨i + 1, _, _, _, _, _, _, _, E2, S2, top2, rfl, by go_num, HLT.out, hfin.weak (by omega) (by omega) (by omega) (by omega)⟩
                  case measure => have := HLT.out; simp [intOf]; omega
              · as_aux_lemma =>
                  have HSO := hide (show Sl wg 3 1 (.slice (some ⟨ob, ooff, none⟩) nO oc) nO (zints O) from by have h := HS1.out.so; rwa [← HNO.out] at h)
                  go_wp2_with (first | (go_at_call 15; (with_reducible refine Calls.mono (HPK.out _) ?_); rintro r w' ⟨rfl, rfl⟩) | (at_builtin; refine wpList_append_sl rfl (.tmp 118) (.tmp 121) 24 rfl 3 i0 (.int .i64 0) 1 8 Tryd.underlying24 hi0 hz0 hz1 hz2 rfl _ nO (zints O) rfl (HSO.out.alloc _) _ rfl 1 [_] (rd_one _ _ _) ?one ?b1 ?b2 ?_))
                  case one => intro u hu; simp at hu; subst hu; rfl
                  case b1 => unfold maxLen; omega
                  case b2 => omega
                  intro ov2 wa hsl honly hv
                  obtain ⟨oA2, oc2, rfl, _⟩ := hsl.form
                  have HR1 := hide (Rs.turn (A := []) (B := [(.slice bA nB bc, B), (.slice eA nE ec, En), (.slice nA nN nc, Nn)]) (v := .slice (some ⟨ob, ooff, none⟩) nO oc) (xs := O) (xs' := O ++ [(sb1.size : Int)]) (HS1.out.rs.below (below_box' wg _)) (by rw [List.length_append, zints_snoc, ← HNO.out]; exact hsl) honly (hv.imp id fun e => ⟨_, e, by simp⟩))
                  clear hsl honly hv
                  go_wp2
                  have hi60 := HLT.out
                  obtain ⟨E2, S2, top2, hfin⟩ := HS1.out.brack (q := 91) (by decide) (by omega) (by omega) rfl HR1.out rfl
                  go_roundw
                  case rel => exact ⟨i + 1, _, _, _, _, _, _, _, E2, S2, top2, rfl, by go_num, HLT.out, hfin.weak (by omega) (by omega) (by omega) (by omega)⟩
                  case measure => have := HLT.out; simp [intOf]; omega
            · obtain rfl : k = 3 := by omega
              rcases HYH.out with hyc | hyc
              · have HYC := hide (show (s ++ q).getD y.1.toNat 0 = 40 from by rw [getD_left (by have := HYL.out; omega)]; exact hyc)
                have hix : sb1.data[yo]? = some 40 := by
                  have e := HS1.out.txt
                  rw [e, strOf_at HS1.out.asc (by have := HYL.out; rw [List.length_append]; have := HYO.out; omega)]
                  have h := HYC.out
                  rw [HYO.out, Int.toNat_natCast] at h
                  rw [h]
                  rfl
                have hix2 : (yo : Int) < (sb1.size : Int) := by
                  rw [HS1.out.len, List.length_append]
                  have := HYL.out
                  have := HYO.out
                  omega
                have hix3 : yo < sb1.size := by omega
                have hix4 : (sb1[yo]'hix3).toNat = 40 := by
                  have h := (Array.getElem?_eq_some_iff.1 hix).2
                  show (sb1.data[yo]'hix3).toNat = 40
                  rw [h]
                  rfl
                clear hyc hix
                as_aux_lemma =>
                  have hcut : Sl wg 3 1 (.slice (some ⟨ob, ooff, none⟩) mO oc) O.dropLast.length (zints O.dropLast) := by
                    have h := HS1.out.so
                    have e4 : O.length - 1 = mO := by have := HNO.out; omega
                    have e : O.dropLast.length = mO := by rw [List.length_dropLast, e4]
                    rw [← HNO.out] at h
                    have h2 := h.cut (m := mO) (by omega)
                    rw [e]
                    have e3 : (zints O).take (mO * 1) = zints O.dropLast := by
                      rw [List.dropLast_eq_take, e4]
                      simp [zints]
                    rw [← e3]
                    exact h2
                  have HR0 := hide (show Rs w2 wg [(.slice (some ⟨ob, ooff, none⟩) mO oc, O.dropLast), (.slice bA nB bc, B), (.slice eA nE ec, En), (.slice nA nN nc, Nn)] from Rs.turn (A := []) (B := [(.slice bA nB bc, B), (.slice eA nE ec, En), (.slice nA nN nc, Nn)]) (v := .slice (some ⟨ob, ooff, none⟩) nO oc) (v' := .slice (some ⟨ob, ooff, none⟩) mO oc) (xs := O) (xs' := O.dropLast) HS1.out.rs hcut (Only.refl _ _) (.inl (by simp [Value.ownBlock])))
                  clear hcut
                  have HSB := hide (show Sl wg 3 1 (.slice bA nB bc) nB (zints B) from by have h := HS1.out.sb_; rwa [← HNB.out] at h)
                  go_wp2_with (first | (go_at_call 15; (with_reducible refine Calls.mono (HPK.out _) ?_); rintro r w' ⟨rfl, rfl⟩) | (at_builtin; refine wpList_append_sl rfl (.tmp 152) (.tmp 154) 24 rfl 3 i0 (.int .i64 0) 1 8 Tryd.underlying24 hi0 hz0 hz1 hz2 rfl _ nB (zints B) rfl (HSB.out.alloc _) _ rfl 1 [_] (rd_one _ _ _) ?one ?b1 ?b2 ?_))
                  case one => intro u hu; simp at hu; subst hu; rfl
                  case b1 => unfold maxLen; omega
                  case b2 => omega
                  intro bv2 wa hsl honly hv
                  obtain ⟨bA2, bc2, rfl, _⟩ := hsl.form
                  have HR1 := hide (Rs.turn (A := [(.slice (some ⟨ob, ooff, none⟩) mO oc, O.dropLast)]) (B := [(.slice eA nE ec, En), (.slice nA nN nc, Nn)]) (v := .slice bA nB bc) (xs := B) (xs' := B ++ [(yo : Int)]) (HR0.out.below (below_box' wg _)) (by rw [List.length_append, zints_snoc, ← HNB.out]; exact hsl) honly (hv.imp id fun e => ⟨_, e, by simp⟩))
                  clear hsl honly hv
                  have HSN := hide (show Sl wa 3 1 (.slice nA nN nc) nN (zints Nn) from by have h := (HR1.out.sl (.slice nA nN nc, Nn) (by simp)).1; rwa [← HNN.out] at h)
                  go_wp2_with (at_builtin; refine wpList_append_sl rfl (.tmp 156) (.tmp 158) 24 rfl 3 i0 (.int .i64 0) 1 8 Tryd.underlying24 hi0 hz0 hz1 hz2 rfl _ nN (zints Nn) rfl (HSN.out.alloc _) _ rfl 1 [_] (rd_one _ _ _) ?one ?b1 ?b2 ?_)
                  case one => intro u hu; simp at hu; subst hu; rfl
                  case b1 => unfold maxLen; omega
                  case b2 => omega
                  intro nv2 wb hsl honly hv
                  obtain ⟨nA2, nc2, rfl, _⟩ := hsl.form
                  have HR2 := hide (Rs.turn (A := [(.slice (some ⟨ob, ooff, none⟩) mO oc, O.dropLast), (.slice bA2 (nB + 1) bc2, B ++ [(yo : Int)]), (.slice eA nE ec, En)]) (B := []) (v := .slice nA nN nc) (xs := Nn) (xs' := Nn ++ [(-1)]) (HR1.out.below (below_box' wa _)) (by rw [List.length_append, zints_snoc, ← HNN.out]; exact hsl) honly (hv.imp id fun e => ⟨_, e, by simp⟩))
                  clear hsl honly hv
                  go_upto_region 34 with fail
                  obtain ⟨sb2, hsb2⟩ : ∃ x, x = sb1 ++ { data := #[41] } := ⟨_, rfl⟩
                  rw [← hsb2]
                  have z10 : (sb2.size : Int) ≤ 2000 := by
                    have e1 : sb2.size = sb1.size + 1 := by rw [hsb2, ByteArray.size_append]; rfl
                    omega
                  have HSB2 := hide hsb2
                  clear hsb2
                  have HSE := hide (show Sl wb 3 1 (.slice eA nE ec) nE (zints En) from by have h := (HR2.out.sl (.slice eA nE ec, En) (by simp)).1; rwa [← HNE.out] at h)
                  go_wp2_with (at_builtin; refine wpList_append_sl rfl (.tmp 168) (.tmp 171) 24 rfl 3 i0 (.int .i64 0) 1 8 Tryd.underlying24 hi0 hz0 hz1 hz2 rfl _ nE (zints En) rfl (HSE.out.alloc _) _ rfl 1 [_] (rd_one _ _ _) ?one ?b1 ?b2 ?_)
                  case one => intro u hu; simp at hu; subst hu; rfl
                  case b1 => unfold maxLen; omega
                  case b2 => omega
                  intro ev2 we hsl honly hv
                  obtain ⟨eA2, ec2, rfl, _⟩ := hsl.form
                  have HR4 := hide (Rs.turn (A := [(.slice (some ⟨ob, ooff, none⟩) mO oc, O.dropLast), (.slice bA2 (nB + 1) bc2, B ++ [(yo : Int)])]) (B := [(.slice nA2 (nN + 1) nc2, Nn ++ [(-1)])]) (v := .slice eA nE ec) (xs := En) (xs' := En ++ [(sb2.size : Int)]) (HR2.out.below (below_box' wb _)) (by rw [List.length_append, zints_snoc, ← HNE.out]; exact hsl) honly (hv.imp id fun e => ⟨_, e, by simp⟩))
                  clear hsl honly hv
                  go_wp2
                  have hi60 := HLT.out
                  obtain ⟨E2, S2, top2, hfin⟩ := HS1.out.shut (q := 41) (by rw [HYC.out]; decide) (by omega) (by omega) HSB2.out HR4.out rfl HYO.out.symm rfl (rfl)
                  go_roundw
                  case rel => exact ⟨i + 1, sb2, _, _, _, _, _, _, E2, S2, top2, rfl, by go_num, HLT.out, hfin.weak (by omega) (by omega) (by omega) (by omega)⟩
                  case measure => have := HLT.out; simp [intOf]; omega
              · have HYC := hide (show (s ++ q).getD y.1.toNat 0 = 91 from by rw [getD_left (by have := HYL.out; omega)]; exact hyc)
                have hix : sb1.data[yo]? = some 91 := by
                  have e := HS1.out.txt
                  rw [e, strOf_at HS1.out.asc (by have := HYL.out; rw [List.length_append]; have := HYO.out; omega)]
                  have h := HYC.out
                  rw [HYO.out, Int.toNat_natCast] at h
                  rw [h]
                  rfl
                have hix2 : (yo : Int) < (sb1.size : Int) := by
                  rw [HS1.out.len, List.length_append]
                  have := HYL.out
                  have := HYO.out
                  omega
                have hix3 : yo < sb1.size := by omega
                have hix4 : (sb1[yo]'hix3).toNat = 91 := by
                  have h := (Array.getElem?_eq_some_iff.1 hix).2
                  show (sb1.data[yo]'hix3).toNat = 91
                  rw [h]
                  rfl
                clear hyc hix
                as_aux_lemma =>
                  have hcut : Sl wg 3 1 (.slice (some ⟨ob, ooff, none⟩) mO oc) O.dropLast.length (zints O.dropLast) := by
                    have h := HS1.out.so
                    have e4 : O.length - 1 = mO := by have := HNO.out; omega
                    have e : O.dropLast.length = mO := by rw [List.length_dropLast, e4]
                    rw [← HNO.out] at h
                    have h2 := h.cut (m := mO) (by omega)
                    rw [e]
                    have e3 : (zints O).take (mO * 1) = zints O.dropLast := by
                      rw [List.dropLast_eq_take, e4]
                      simp [zints]
                    rw [← e3]
                    exact h2
                  have HR0 := hide (show Rs w2 wg [(.slice (some ⟨ob, ooff, none⟩) mO oc, O.dropLast), (.slice bA nB bc, B), (.slice eA nE ec, En), (.slice nA nN nc, Nn)] from Rs.turn (A := []) (B := [(.slice bA nB bc, B), (.slice eA nE ec, En), (.slice nA nN nc, Nn)]) (v := .slice (some ⟨ob, ooff, none⟩) nO oc) (v' := .slice (some ⟨ob, ooff, none⟩) mO oc) (xs := O) (xs' := O.dropLast) HS1.out.rs hcut (Only.refl _ _) (.inl (by simp [Value.ownBlock])))
                  clear hcut
                  have HSB := hide (show Sl wg 3 1 (.slice bA nB bc) nB (zints B) from by have h := HS1.out.sb_; rwa [← HNB.out] at h)
                  go_wp2_with (first | (go_at_call 15; (with_reducible refine Calls.mono (HPK.out _) ?_); rintro r w' ⟨rfl, rfl⟩) | (at_builtin; refine wpList_append_sl rfl (.tmp 152) (.tmp 154) 24 rfl 3 i0 (.int .i64 0) 1 8 Tryd.underlying24 hi0 hz0 hz1 hz2 rfl _ nB (zints B) rfl (HSB.out.alloc _) _ rfl 1 [_] (rd_one _ _ _) ?one ?b1 ?b2 ?_))
                  case one => intro u hu; simp at hu; subst hu; rfl
                  case b1 => unfold maxLen; omega
                  case b2 => omega
                  intro bv2 wa hsl honly hv
                  obtain ⟨bA2, bc2, rfl, _⟩ := hsl.form
                  have HR1 := hide (Rs.turn (A := [(.slice (some ⟨ob, ooff, none⟩) mO oc, O.dropLast)]) (B := [(.slice eA nE ec, En), (.slice nA nN nc, Nn)]) (v := .slice bA nB bc) (xs := B) (xs' := B ++ [(yo : Int)]) (HR0.out.below (below_box' wg _)) (by rw [List.length_append, zints_snoc, ← HNB.out]; exact hsl) honly (hv.imp id fun e => ⟨_, e, by simp⟩))
                  clear hsl honly hv
                  have HSN := hide (show Sl wa 3 1 (.slice nA nN nc) nN (zints Nn) from by have h := (HR1.out.sl (.slice nA nN nc, Nn) (by simp)).1; rwa [← HNN.out] at h)
                  go_wp2_with (at_builtin; refine wpList_append_sl rfl (.tmp 156) (.tmp 158) 24 rfl 3 i0 (.int .i64 0) 1 8 Tryd.underlying24 hi0 hz0 hz1 hz2 rfl _ nN (zints Nn) rfl (HSN.out.alloc _) _ rfl 1 [_] (rd_one _ _ _) ?one ?b1 ?b2 ?_)
                  case one => intro u hu; simp at hu; subst hu; rfl
                  case b1 => unfold maxLen; omega
                  case b2 => omega
                  intro nv2 wb hsl honly hv
                  obtain ⟨nA2, nc2, rfl, _⟩ := hsl.form
                  have HR2 := hide (Rs.turn (A := [(.slice (some ⟨ob, ooff, none⟩) mO oc, O.dropLast), (.slice bA2 (nB + 1) bc2, B ++ [(yo : Int)]), (.slice eA nE ec, En)]) (B := []) (v := .slice nA nN nc) (xs := Nn) (xs' := Nn ++ [(-1)]) (HR1.out.below (below_box' wa _)) (by rw [List.length_append, zints_snoc, ← HNN.out]; exact hsl) honly (hv.imp id fun e => ⟨_, e, by simp⟩))
                  clear hsl honly hv
                  go_upto_region 34 with fail
                  obtain ⟨sb2, hsb2⟩ : ∃ x, x = sb1 ++ { data := #[93] } := ⟨_, rfl⟩
                  rw [← hsb2]
                  have z10 : (sb2.size : Int) ≤ 2000 := by
                    have e1 : sb2.size = sb1.size + 1 := by rw [hsb2, ByteArray.size_append]; rfl
                    omega
                  have HSB2 := hide hsb2
                  clear hsb2
                  have HSE := hide (show Sl wb 3 1 (.slice eA nE ec) nE (zints En) from by have h := (HR2.out.sl (.slice eA nE ec, En) (by simp)).1; rwa [← HNE.out] at h)
                  go_wp2_with (at_builtin; refine wpList_append_sl rfl (.tmp 168) (.tmp 171) 24 rfl 3 i0 (.int .i64 0) 1 8 Tryd.underlying24 hi0 hz0 hz1 hz2 rfl _ nE (zints En) rfl (HSE.out.alloc _) _ rfl 1 [_] (rd_one _ _ _) ?one ?b1 ?b2 ?_)
                  case one => intro u hu; simp at hu; subst hu; rfl
                  case b1 => unfold maxLen; omega
                  case b2 => omega
                  intro ev2 we hsl honly hv
                  obtain ⟨eA2, ec2, rfl, _⟩ := hsl.form
                  have HR4 := hide (Rs.turn (A := [(.slice (some ⟨ob, ooff, none⟩) mO oc, O.dropLast), (.slice bA2 (nB + 1) bc2, B ++ [(yo : Int)])]) (B := [(.slice nA2 (nN + 1) nc2, Nn ++ [(-1)])]) (v := .slice eA nE ec) (xs := En) (xs' := En ++ [(sb2.size : Int)]) (HR2.out.below (below_box' wb _)) (by rw [List.length_append, zints_snoc, ← HNE.out]; exact hsl) honly (hv.imp id fun e => ⟨_, e, by simp⟩))
                  clear hsl honly hv
                  go_wp2
                  have hi60 := HLT.out
                  obtain ⟨E2, S2, top2, hfin⟩ := HS1.out.shut (q := 93) (by rw [HYC.out]; decide) (by omega) (by omega) HSB2.out HR4.out rfl HYO.out.symm rfl (rfl)
                  go_roundw
                  case rel => exact ⟨i + 1, sb2, _, _, _, _, _, _, E2, S2, top2, rfl, by go_num, HLT.out, hfin.weak (by omega) (by omega) (by omega) (by omega)⟩
                  case measure => have := HLT.out; simp [intOf]; omega
        · obtain ⟨zo, hzo⟩ : ∃ zo : Nat, z.1 = (zo : Int) := ⟨z.1.toNat, by have h := HST.out.good.lv.2.2.2.2.2.2.2; have := h.2.2.1; have := LvOk.hd_ge h.2.2.2.2.2.2.2; omega⟩
          have HZO := hide hzo
          clear hzo
          obtain ⟨m, hm⟩ : ∃ m, m = S.length := ⟨_, rfl⟩
          have hm1 : nO = m + 1 + 1 := by rw [HNO.out, HST.out.eO, hm]; simp [opnB]
          obtain ⟨mO, hmO⟩ : ∃ mO, mO = m + 1 := ⟨_, rfl⟩
          have HMO := hide (show nO = mO + 1 by omega)
          obtain ⟨ob, ooff, rfl, hoc0⟩ := rd_cells (show Rd wr (.slice oA nO oc) 1 nO (zints O) from by have h := HST.out.so.rd; rwa [← HNO.out] at h) (by omega)
          have HOC := hide (fun (W : World) (hW : Below wr.heap.size wr W) => hoc0 W hW mO (.int .i64 (yo : Int)) (zints_at (by rw [HST.out.eO, hmO, hm, ← HYO.out]; simp [opnB])))
          have HOD := hide (fun (W : World) (hW : Below wr.heap.size wr W) => hoc0 W hW m (.int .i64 (zo : Int)) (zints_at (by rw [HST.out.eO, hm, ← HZO.out]; simp [opnB])))
          clear hoc0 hm
          have n1 : decide ((0 : Int) < (nO : Int)) = true := by simp; omega
          have n2 : decide (0 < nO) = true := by simp; omega
          have n3 : (nO : Int) - 1 = (mO : Int) := by omega
          have n4 : (mO : Int) < (nO : Int) := by omega
          have n5 : decide ((mO : Int) < (nO : Int)) = true := by simp; omega
          have n6 : decide (mO < nO) = true := by simp; omega
          have n7 : (mO : Int) ≤ (oc : Int) := by omega
          have n8 : (mO : Int) ≤ 60 := by omega
          have m1 : decide ((0 : Int) < (mO : Int)) = true := by simp; omega
          have m2 : decide (0 < mO) = true := by simp; omega
          have m3 : (mO : Int) - 1 = (m : Int) := by omega
          have m4 : (m : Int) < (mO : Int) := by omega
          have m5 : decide ((m : Int) < (mO : Int)) = true := by simp; omega
          have m6 : decide (m < mO) = true := by simp; omega
          have HMM := hide hmO
          clear hm1 hmO
          have co := HOC.out wg HBG.out
          have co2 := HOD.out wg HBG.out
          go_upto_region 17 with fail
          by_cases hk2 : k < 2
          · have x1 : decide (k < 2) = true := by simpa using hk2
            by_cases pz0 : np = 0
            · have pz1 : decide ((0 : Int) < (np : Int)) = false := by simp; omega
              have pz2 : decide (0 < np) = false := by simp; omega
              clear pz0
              rcases (show k = 0 ∨ k = 1 by omega) with rfl | rfl
              · as_aux_lemma =>
                  go_wp2_with (go_at_call 15; (with_reducible refine Calls.mono (HPK.out _) ?_); rintro r w' ⟨rfl, rfl⟩)
                  have hi60 := HLT.out
                  go_roundw
                  case rel => exact ⟨i + 1, sb1, _, _, _, _, _, _, _, _, _, rfl, by go_num, HLT.out, HS1.out.weak (by omega) (by omega) (by omega) (by omega)⟩
                  case measure => have := HLT.out; simp [intOf]; omega
              · as_aux_lemma =>
                  go_wp2_with (go_at_call 15; (with_reducible refine Calls.mono (HPK.out _) ?_); rintro r w' ⟨rfl, rfl⟩)
                  have hi60 := HLT.out
                  go_roundw
                  case rel => exact ⟨i + 1, sb1, _, _, _, _, _, _, _, _, _, rfl, by go_num, HLT.out, HS1.out.weak (by omega) (by omega) (by omega) (by omega)⟩
                  case measure => have := HLT.out; simp [intOf]; omega
            · obtain ⟨pb, poff, rfl, hpc⟩ := rd_cells HPR.out (by omega)
              obtain ⟨pr, hpr, hpr2⟩ : ∃ r : Nat, (i : Int).tmod (np : Int) = (r : Int) ∧ r < np := ⟨i % np, (Int.ofNat_tmod i np).symm, Nat.mod_lt _ (by omega)⟩
              obtain ⟨pz, hpz⟩ : ∃ x, ps[pr]? = some x := ⟨_, List.getElem?_eq_getElem (by rw [← HNP.out]; exact hpr2)⟩
              have HPC := hide (fun (W : World) (hW : Below w.heap.size w W) => hpc W hW pr _ (zints_at hpz))
              have p1 : decide ((0 : Int) < (np : Int)) = true := by simp; omega
              have p6 : decide (0 < np) = true := by simp; omega
              have p2 : ((np : Int) == 0) = false := by simp; omega
              have p3 : ¬ ((np : Int) = 0) := by omega
              have p4 : decide ((pr : Int) < (np : Int)) = true := by simp; omega
              have p5 : (pr : Int) < (np : Int) := by omega
              clear hpc hpr2 hpz
              clear pz0
              as_aux_lemma =>
                have HSB := hide (show Sl wg 3 1 (.slice bA nB bc) nB (zints B) from by have h := HS1.out.sb_; rwa [← HNB.out] at h)
                go_wp2_with (first | (go_at_call 15; (with_reducible refine Calls.mono (HPK.out _) ?_); rintro r w' ⟨rfl, rfl⟩) | (at_builtin; refine wpList_append_sl rfl (.tmp 91) (.tmp 94) 24 rfl 3 i0 (.int .i64 0) 1 8 Tryd.underlying24 hi0 hz0 hz1 hz2 rfl _ nB (zints B) rfl (HSB.out.alloc _) _ rfl 1 [_] (rd_one _ _ _) ?one ?b1 ?b2 ?_))
                case one => intro u hu; simp at hu; subst hu; rfl
                case b1 => unfold maxLen; omega
                case b2 => omega
                intro bv2 wa hsl honly hv
                obtain ⟨bA2, bc2, rfl, _⟩ := hsl.form
                have HR1 := hide (Rs.turn (A := [(.slice (some ⟨ob, ooff, none⟩) nO oc, O)]) (B := [(.slice eA nE ec, En), (.slice nA nN nc, Nn)]) (v := .slice bA nB bc) (xs := B) (xs' := B ++ [(sb1.size : Int)]) (HS1.out.rs.below (below_box' wg _)) (by rw [List.length_append, zints_snoc, ← HNB.out]; exact hsl) honly (hv.imp id fun e => ⟨_, e, by simp⟩))
                clear hsl honly hv
                have HSN := hide (show Sl wa 3 1 (.slice nA nN nc) nN (zints Nn) from by have h := (HR1.out.sl (.slice nA nN nc, Nn) (by simp)).1; rwa [← HNN.out] at h)
                go_wp2_with (at_builtin; refine wpList_append_sl rfl (.tmp 96) (.tmp 98) 24 rfl 3 i0 (.int .i64 0) 1 8 Tryd.underlying24 hi0 hz0 hz1 hz2 rfl _ nN (zints Nn) rfl (HSN.out.alloc _) _ rfl 1 [_] (rd_one _ _ _) ?one ?b1 ?b2 ?_)
                case one => intro u hu; simp at hu; subst hu; rfl
                case b1 => unfold maxLen; omega
                case b2 => omega
                intro nv2 wb hsl honly hv
                obtain ⟨nA2, nc2, rfl, _⟩ := hsl.form
                have HR2 := hide (Rs.turn (A := [(.slice (some ⟨ob, ooff, none⟩) nO oc, O), (.slice bA2 (nB + 1) bc2, B ++ [(sb1.size : Int)]), (.slice eA nE ec, En)]) (B := []) (v := .slice nA nN nc) (xs := Nn) (xs' := Nn ++ [(yo : Int)]) (HR1.out.below (below_box' wa _)) (by rw [List.length_append, zints_snoc, ← HNN.out]; exact hsl) honly (hv.imp id fun e => ⟨_, e, by simp⟩))
                clear hsl honly hv
                have cp := HPC.out wb (HB2.out.trans (HR2.out.bel.mono HB2.out.size))
                go_upto_region 21 with (go_at_call 24; (with_reducible refine Calls.mono (pieceT_any _ _) ?_); rintro r wp ⟨pq, hpq, rfl, hbp⟩; have HPQ := hide hpq; have zpq : ((strOf pq).size : Int) ≤ 8 := (by have h1 := strA_size (asc_pieces pq hpq); have h2 := len_pieces pq hpq; omega); have HR3 := hide (HR2.out.below hbp); clear hpq hbp)
                go_upto_region 21 with fail
                obtain ⟨sb2, hsb2⟩ : ∃ x, x = sb1 ++ strOf pq := ⟨_, rfl⟩
                rw [← hsb2]
                have z10 : (sb2.size : Int) ≤ 2000 := by
                  have e1 : sb2.size = sb1.size + (strOf pq).size := by rw [hsb2, ByteArray.size_append]
                  have e2 := strA_size (asc_pieces pq HPQ.out)
                  have e3 := len_pieces pq HPQ.out
                  omega
                have HSB2 := hide hsb2
                clear hsb2
                have HSE := hide (show Sl wp 3 1 (.slice eA nE ec) nE (zints En) from by have h := (HR3.out.sl (.slice eA nE ec, En) (by simp)).1; rwa [← HNE.out] at h)
                go_wp2_with (at_builtin; refine wpList_append_sl rfl (.tmp 110) (.tmp 113) 24 rfl 3 i0 (.int .i64 0) 1 8 Tryd.underlying24 hi0 hz0 hz1 hz2 rfl _ nE (zints En) rfl (HSE.out.alloc _) _ rfl 1 [_] (rd_one _ _ _) ?one ?b1 ?b2 ?_)
                case one => intro u hu; simp at hu; subst hu; rfl
                case b1 => unfold maxLen; omega
                case b2 => omega
                intro ev2 we hsl honly hv
                obtain ⟨eA2, ec2, rfl, _⟩ := hsl.form
                have HR4 := hide (Rs.turn (A := [(.slice (some ⟨ob, ooff, none⟩) nO oc, O), (.slice bA2 (nB + 1) bc2, B ++ [(sb1.size : Int)])]) (B := [(.slice nA2 (nN + 1) nc2, Nn ++ [(yo : Int)])]) (v := .slice eA nE ec) (xs := En) (xs' := En ++ [(sb2.size : Int)]) (HR3.out.below (below_box' wp _)) (by rw [List.length_append, zints_snoc, ← HNE.out]; exact hsl) honly (hv.imp id fun e => ⟨_, e, by simp⟩))
                clear hsl honly hv
                go_wp2
                have hi60 := HLT.out
                obtain ⟨E2, S2, top2, hfin⟩ := HS1.out.piece HPQ.out (by omega) (by omega) HSB2.out HR4.out rfl rfl (HYO.out.symm)
                go_roundw
                case rel => exact ⟨i + 1, sb2, _, _, _, _, _, _, E2, S2, top2, rfl, by go_num, HLT.out, hfin.weak (by omega) (by omega) (by omega) (by omega)⟩
                case measure => have := HLT.out; simp [intOf]; omega
          · by_cases hk3 : k = 2
            · subst hk3
              rcases (show (i : Int).tmod 2 = 0 ∨ (i : Int).tmod 2 = 1 by have h : ((i % 2 : Nat) : Int) = (i : Int).tmod 2 := Int.ofNat_tmod i 2; omega) with par | par
              · as_aux_lemma =>
                  have HSO := hide (show Sl wg 3 1 (.slice (some ⟨ob, ooff, none⟩) nO oc) nO (zints O) from by have h := HS1.out.so; rwa [← HNO.out] at h)
                  go_wp2_with (first | (go_at_call 15; (with_reducible refine Calls.mono (HPK.out _) ?_); rintro r w' ⟨rfl, rfl⟩) | (at_builtin; refine wpList_append_sl rfl (.tmp 118) (.tmp 121) 24 rfl 3 i0 (.int .i64 0) 1 8 Tryd.underlying24 hi0 hz0 hz1 hz2 rfl _ nO (zints O) rfl (HSO.out.alloc _) _ rfl 1 [_] (rd_one _ _ _) ?one ?b1 ?b2 ?_))
                  case one => intro u hu; simp at hu; subst hu; rfl
                  case b1 => unfold maxLen; omega
                  case b2 => omega
                  intro ov2 wa hsl honly hv
                  obtain ⟨oA2, oc2, rfl, _⟩ := hsl.form
                  have HR1 := hide (Rs.turn (A := []) (B := [(.slice bA nB bc, B), (.slice eA nE ec, En), (.slice nA nN nc, Nn)]) (v := .slice (some ⟨ob, ooff, none⟩) nO oc) (xs := O) (xs' := O ++ [(sb1.size : Int)]) (HS1.out.rs.below (below_box' wg _)) (by rw [List.length_append, zints_snoc, ← HNO.out]; exact hsl) honly (hv.imp id fun e => ⟨_, e, by simp⟩))
                  clear hsl honly hv
                  go_wp2
                  have hi60 := HLT.out
                  obtain ⟨E2, S2, top2, hfin⟩ := HS1.out.brack (q := 40) (by decide) (by omega) (by omega) rfl HR1.out rfl
                  go_roundw
                  case rel => exact ⟨i + 1, _, _, _, _, _, _, _, E2, S2, top2, rfl, by go_num, HLT.out, hfin.weak (by omega) (by omega) (by omega) (by omega)⟩
                  case measure => have := HLT.out; simp [intOf]; omega
              · as_aux_lemma =>
                  have HSO := hide (show Sl wg 3 1 (.slice (some ⟨ob, ooff, none⟩) nO oc) nO (zints O) from by have h := HS1.out.so; rwa [← HNO.out] at h)
                  go_wp2_with (first | (go_at_call 15; (with_reducible refine Calls.mono (HPK.out _) ?_); rintro r w' ⟨rfl, rfl⟩) | (at_builtin; refine wpList_append_sl rfl (.tmp 118) (.tmp 121) 24 rfl 3 i0 (.int .i64 0) 1 8 Tryd.underlying24 hi0 hz0 hz1 hz2 rfl _ nO (zints O) rfl (HSO.out.alloc _) _ rfl 1 [_] (rd_one _ _ _) ?one ?b1 ?b2 ?_))
                  case one => intro u hu; simp at hu; subst hu; rfl
                  case b1 => unfold maxLen; omega
                  case b2 => omega
                  intro ov2 wa hsl honly hv
                  obtain ⟨oA2, oc2, rfl, _⟩ := hsl.form
                  have HR1 := hide (Rs.turn (A := []) (B := [(.slice bA nB bc, B), (.slice eA nE ec, En), (.slice nA nN nc, Nn)]) (v := .slice (some ⟨ob, ooff, none⟩) nO oc) (xs := O) (xs' := O ++ [(sb1.size : Int)]) (HS1.out.rs.below (below_box' wg _)) (by rw [List.length_append, zints_snoc, ← HNO.out]; exact hsl) honly (hv.imp id fun e => ⟨_, e, by simp⟩))
                  clear hsl honly hv
                  go_wp2
                  have hi60 := HLT.out
                  obtain ⟨E2, S2, top2, hfin⟩ := HS1.out.brack (q := 91) (by decide) (by omega) (by omega) rfl HR1.out rfl
                  go_roundw
                  case rel => exact ⟨i + 1, _, _, _, _, _, _, _, E2, S2, top2, rfl, by go_num, HLT.out, hfin.weak (by omega) (by omega) (by omega) (by omega)⟩
                  case measure => have := HLT.out; simp [intOf]; omega
            · obtain rfl : k = 3 := by omega
              rcases HYH.out with hyc | hyc
              · have HYC := hide (show (s ++ q).getD y.1.toNat 0 = 40 from by rw [getD_left (by have := HYL.out; omega)]; exact hyc)
                have hix : sb1.data[yo]? = some 40 := by
                  have e := HS1.out.txt
                  rw [e, strOf_at HS1.out.asc (by have := HYL.out; rw [List.length_append]; have := HYO.out; omega)]
                  have h := HYC.out
                  rw [HYO.out, Int.toNat_natCast] at h
                  rw [h]
                  rfl
                have hix2 : (yo : Int) < (sb1.size : Int) := by
                  rw [HS1.out.len, List.length_append]
                  have := HYL.out
                  have := HYO.out
                  omega
                have hix3 : yo < sb1.size := by omega
                have hix4 : (sb1[yo]'hix3).toNat = 40 := by
                  have h := (Array.getElem?_eq_some_iff.1 hix).2
                  show (sb1.data[yo]'hix3).toNat = 40
                  rw [h]
                  rfl
                clear hyc hix
                as_aux_lemma =>
                  have hcut : Sl wg 3 1 (.slice (some ⟨ob, ooff, none⟩) mO oc) O.dropLast.length (zints O.dropLast) := by
                    have h := HS1.out.so
                    have e4 : O.length - 1 = mO := by have := HNO.out; omega
                    have e : O.dropLast.length = mO := by rw [List.length_dropLast, e4]
                    rw [← HNO.out] at h
                    have h2 := h.cut (m := mO) (by omega)
                    rw [e]
                    have e3 : (zints O).take (mO * 1) = zints O.dropLast := by
                      rw [List.dropLast_eq_take, e4]
                      simp [zints]
                    rw [← e3]
                    exact h2
                  have HR0 := hide (show Rs w2 wg [(.slice (some ⟨ob, ooff, none⟩) mO oc, O.dropLast), (.slice bA nB bc, B), (.slice eA nE ec, En), (.slice nA nN nc, Nn)] from Rs.turn (A := []) (B := [(.slice bA nB bc, B), (.slice eA nE ec, En), (.slice nA nN nc, Nn)]) (v := .slice (some ⟨ob, ooff, none⟩) nO oc) (v' := .slice (some ⟨ob, ooff, none⟩) mO oc) (xs := O) (xs' := O.dropLast) HS1.out.rs hcut (Only.refl _ _) (.inl (by simp [Value.ownBlock])))
                  clear hcut
                  have HSB := hide (show Sl wg 3 1 (.slice bA nB bc) nB (zints B) from by have h := HS1.out.sb_; rwa [← HNB.out] at h)
                  go_wp2_with (first | (go_at_call 15; (with_reducible refine Calls.mono (HPK.out _) ?_); rintro r w' ⟨rfl, rfl⟩) | (at_builtin; refine wpList_append_sl rfl (.tmp 152) (.tmp 154) 24 rfl 3 i0 (.int .i64 0) 1 8 Tryd.underlying24 hi0 hz0 hz1 hz2 rfl _ nB (zints B) rfl (HSB.out.alloc _) _ rfl 1 [_] (rd_one _ _ _) ?one ?b1 ?b2 ?_))
                  case one => intro u hu; simp at hu; subst hu; rfl
                  case b1 => unfold maxLen; omega
                  case b2 => omega
                  intro bv2 wa hsl honly hv
                  obtain ⟨bA2, bc2, rfl, _⟩ := hsl.form
                  have HR1 := hide (Rs.turn (A := [(.slice (some ⟨ob, ooff, none⟩) mO oc, O.dropLast)]) (B := [(.slice eA nE ec, En), (.slice nA nN nc, Nn)]) (v := .slice bA nB bc) (xs := B) (xs' := B ++ [(yo : Int)]) (HR0.out.below (below_box' wg _)) (by rw [List.length_append, zints_snoc, ← HNB.out]; exact hsl) honly (hv.imp id fun e => ⟨_, e, by simp⟩))
                  clear hsl honly hv
                  have HSN := hide (show Sl wa 3 1 (.slice nA nN nc) nN (zints Nn) from by have h := (HR1.out.sl (.slice nA nN nc, Nn) (by simp)).1; rwa [← HNN.out] at h)
                  go_wp2_with (at_builtin; refine wpList_append_sl rfl (.tmp 156) (.tmp 158) 24 rfl 3 i0 (.int .i64 0) 1 8 Tryd.underlying24 hi0 hz0 hz1 hz2 rfl _ nN (zints Nn) rfl (HSN.out.alloc _) _ rfl 1 [_] (rd_one _ _ _) ?one ?b1 ?b2 ?_)
                  case one => intro u hu; simp at hu; subst hu; rfl
                  case b1 => unfold maxLen; omega
                  case b2 => omega
                  intro nv2 wb hsl honly hv
                  obtain ⟨nA2, nc2, rfl, _⟩ := hsl.form
                  have HR2 := hide (Rs.turn (A := [(.slice (some ⟨ob, ooff, none⟩) mO oc, O.dropLast), (.slice bA2 (nB + 1) bc2, B ++ [(yo : Int)]), (.slice eA nE ec, En)]) (B := []) (v := .slice nA nN nc) (xs := Nn) (xs' := Nn ++ [(zo : Int)]) (HR1.out.below (below_box' wa _)) (by rw [List.length_append, zints_snoc, ← HNN.out]; exact hsl) honly (hv.imp id fun e => ⟨_, e, by simp⟩))
                  clear hsl honly hv
                  go_upto_region 34 with fail
                  obtain ⟨sb2, hsb2⟩ : ∃ x, x = sb1 ++ { data := #[41] } := ⟨_, rfl⟩
                  rw [← hsb2]
                  have z10 : (sb2.size : Int) ≤ 2000 := by
                    have e1 : sb2.size = sb1.size + 1 := by rw [hsb2, ByteArray.size_append]; rfl
                    omega
                  have HSB2 := hide hsb2
                  clear hsb2
                  have HSE := hide (show Sl wb 3 1 (.slice eA nE ec) nE (zints En) from by have h := (HR2.out.sl (.slice eA nE ec, En) (by simp)).1; rwa [← HNE.out] at h)
                  go_wp2_with (at_builtin; refine wpList_append_sl rfl (.tmp 168) (.tmp 171) 24 rfl 3 i0 (.int .i64 0) 1 8 Tryd.underlying24 hi0 hz0 hz1 hz2 rfl _ nE (zints En) rfl (HSE.out.alloc _) _ rfl 1 [_] (rd_one _ _ _) ?one ?b1 ?b2 ?_)
                  case one => intro u hu; simp at hu; subst hu; rfl
                  case b1 => unfold maxLen; omega
                  case b2 => omega
                  intro ev2 we hsl honly hv
                  obtain ⟨eA2, ec2, rfl, _⟩ := hsl.form
                  have HR4 := hide (Rs.turn (A := [(.slice (some ⟨ob, ooff, none⟩) mO oc, O.dropLast), (.slice bA2 (nB + 1) bc2, B ++ [(yo : Int)])]) (B := [(.slice nA2 (nN + 1) nc2, Nn ++ [(zo : Int)])]) (v := .slice eA nE ec) (xs := En) (xs' := En ++ [(sb2.size : Int)]) (HR2.out.below (below_box' wb _)) (by rw [List.length_append, zints_snoc, ← HNE.out]; exact hsl) honly (hv.imp id fun e => ⟨_, e, by simp⟩))
                  clear hsl honly hv
                  go_wp2
                  have hi60 := HLT.out
                  obtain ⟨E2, S2, top2, hfin⟩ := HS1.out.shut (q := 41) (by rw [HYC.out]; decide) (by omega) (by omega) HSB2.out HR4.out rfl HYO.out.symm rfl (HZO.out.symm)
                  go_roundw
                  case rel => exact ⟨i + 1, sb2, _, _, _, _, _, _, E2, S2, top2, rfl, by go_num, HLT.out, hfin.weak (by omega) (by omega) (by omega) (by omega)⟩
                  case measure => have := HLT.out; simp [intOf]; omega
              · have HYC := hide (show (s ++ q).getD y.1.toNat 0 = 91 from by rw [getD_left (by have := HYL.out; omega)]; exact hyc)
                have hix : sb1.data[yo]? = some 91 := by
                  have e := HS1.out.txt
                  rw [e, strOf_at HS1.out.asc (by have := HYL.out; rw [List.length_append]; have := HYO.out; omega)]
                  have h := HYC.out
                  rw [HYO.out, Int.toNat_natCast] at h
                  rw [h]
                  rfl
                have hix2 : (yo : Int) < (sb1.size : Int) := by
                  rw [HS1.out.len, List.length_append]
                  have := HYL.out
                  have := HYO.out
                  omega
                have hix3 : yo < sb1.size := by omega
                have hix4 : (sb1[yo]'hix3).toNat = 91 := by
                  have h := (Array.getElem?_eq_some_iff.1 hix).2
                  show (sb1.data[yo]'hix3).toNat = 91
                  rw [h]
                  rfl
                clear hyc hix
                as_aux_lemma =>
                  have hcut : Sl wg 3 1 (.slice (some ⟨ob, ooff, none⟩) mO oc) O.dropLast.length (zints O.dropLast) := by
                    have h := HS1.out.so
                    have e4 : O.length - 1 = mO := by have := HNO.out; omega
                    have e : O.dropLast.length = mO := by rw [List.length_dropLast, e4]
                    rw [← HNO.out] at h
                    have h2 := h.cut (m := mO) (by omega)
                    rw [e]
                    have e3 : (zints O).take (mO * 1) = zints O.dropLast := by
                      rw [List.dropLast_eq_take, e4]
                      simp [zints]
                    rw [← e3]
                    exact h2
                  have HR0 := hide (show Rs w2 wg [(.slice (some ⟨ob, ooff, none⟩) mO oc, O.dropLast), (.slice bA nB bc, B), (.slice eA nE ec, En), (.slice nA nN nc, Nn)] from Rs.turn (A := []) (B := [(.slice bA nB bc, B), (.slice eA nE ec, En), (.slice nA nN nc, Nn)]) (v := .slice (some ⟨ob, ooff, none⟩) nO oc) (v' := .slice (some ⟨ob, ooff, none⟩) mO oc) (xs := O) (xs' := O.dropLast) HS1.out.rs hcut (Only.refl _ _) (.inl (by simp [Value.ownBlock])))
                  clear hcut
                  have HSB := hide (show Sl wg 3 1 (.slice bA nB bc) nB (zints B) from by have h := HS1.out.sb_; rwa [← HNB.out] at h)
                  go_wp2_with (first | (go_at_call 15; (with_reducible refine Calls.mono (HPK.out _) ?_); rintro r w' ⟨rfl, rfl⟩) | (at_builtin; refine wpList_append_sl rfl (.tmp 152) (.tmp 154) 24 rfl 3 i0 (.int .i64 0) 1 8 Tryd.underlying24 hi0 hz0 hz1 hz2 rfl _ nB (zints B) rfl (HSB.out.alloc _) _ rfl 1 [_] (rd_one _ _ _) ?one ?b1 ?b2 ?_))
                  case one => intro u hu; simp at hu; subst hu; rfl
                  case b1 => unfold maxLen; omega
                  case b2 => omega
                  intro bv2 wa hsl honly hv
                  obtain ⟨bA2, bc2, rfl, _⟩ := hsl.form
                  have HR1 := hide (Rs.turn (A := [(.slice (some ⟨ob, ooff, none⟩) mO oc, O.dropLast)]) (B := [(.slice eA nE ec, En), (.slice nA nN nc, Nn)]) (v := .slice bA nB bc) (xs := B) (xs' := B ++ [(yo : Int)]) (HR0.out.below (below_box' wg _)) (by rw [List.length_append, zints_snoc, ← HNB.out]; exact hsl) honly (hv.imp id fun e => ⟨_, e, by simp⟩))
                  clear hsl honly hv
                  have HSN := hide (show Sl wa 3 1 (.slice nA nN nc) nN (zints Nn) from by have h := (HR1.out.sl (.slice nA nN nc, Nn) (by simp)).1; rwa [← HNN.out] at h)
                  go_wp2_with (at_builtin; refine wpList_append_sl rfl (.tmp 156) (.tmp 158) 24 rfl 3 i0 (.int .i64 0) 1 8 Tryd.underlying24 hi0 hz0 hz1 hz2 rfl _ nN (zints Nn) rfl (HSN.out.alloc _) _ rfl 1 [_] (rd_one _ _ _) ?one ?b1 ?b2 ?_)
                  case one => intro u hu; simp at hu; subst hu; rfl
                  case b1 => unfold maxLen; omega
                  case b2 => omega
                  intro nv2 wb hsl honly hv
                  obtain ⟨nA2, nc2, rfl, _⟩ := hsl.form
                  have HR2 := hide (Rs.turn (A := [(.slice (some ⟨ob, ooff, none⟩) mO oc, O.dropLast), (.slice bA2 (nB + 1) bc2, B ++ [(yo : Int)]), (.slice eA nE ec, En)]) (B := []) (v := .slice nA nN nc) (xs := Nn) (xs' := Nn ++ [(zo : Int)]) (HR1.out.below (below_box' wa _)) (by rw [List.length_append, zints_snoc, ← HNN.out]; exact hsl) honly (hv.imp id fun e => ⟨_, e, by simp⟩))
                  clear hsl honly hv
                  go_upto_region 34 with fail
                  obtain ⟨sb2, hsb2⟩ : ∃ x, x = sb1 ++ { data := #[93] } := ⟨_, rfl⟩
                  rw [← hsb2]
                  have z10 : (sb2.size : Int) ≤ 2000 := by
                    have e1 : sb2.size = sb1.size + 1 := by rw [hsb2, ByteArray.size_append]; rfl
                    omega
                  have HSB2 := hide hsb2
                  clear hsb2
                  have HSE := hide (show Sl wb 3 1 (.slice eA nE ec) nE (zints En) from by have h := (HR2.out.sl (.slice eA nE ec, En) (by simp)).1; rwa [← HNE.out] at h)
                  go_wp2_with (at_builtin; refine wpList_append_sl rfl (.tmp 168) (.tmp 171) 24 rfl 3 i0 (.int .i64 0) 1 8 Tryd.underlying24 hi0 hz0 hz1 hz2 rfl _ nE (zints En) rfl (HSE.out.alloc _) _ rfl 1 [_] (rd_one _ _ _) ?one ?b1 ?b2 ?_)
                  case one => intro u hu; simp at hu; subst hu; rfl
                  case b1 => unfold maxLen; omega
                  case b2 => omega
                  intro ev2 we hsl honly hv
                  obtain ⟨eA2, ec2, rfl, _⟩ := hsl.form
                  have HR4 := hide (Rs.turn (A := [(.slice (some ⟨ob, ooff, none⟩) mO oc, O.dropLast), (.slice bA2 (nB + 1) bc2, B ++ [(yo : Int)])]) (B := [(.slice nA2 (nN + 1) nc2, Nn ++ [(zo : Int)])]) (v := .slice eA nE ec) (xs := En) (xs' := En ++ [(sb2.size : Int)]) (HR2.out.below (below_box' wb _)) (by rw [List.length_append, zints_snoc, ← HNE.out]; exact hsl) honly (hv.imp id fun e => ⟨_, e, by simp⟩))
                  clear hsl honly hv
                  go_wp2
                  have hi60 := HLT.out
                  obtain ⟨E2, S2, top2, hfin⟩ := HS1.out.shut (q := 93) (by rw [HYC.out]; decide) (by omega) (by omega) HSB2.out HR4.out rfl HYO.out.symm rfl (HZO.out.symm)
                  go_roundw
                  case rel => exact ⟨i + 1, sb2, _, _, _, _, _, _, E2, S2, top2, rfl, by go_num, HLT.out, hfin.weak (by omega) (by omega) (by omega) (by omega)⟩
                  case measure => have := HLT.out; simp [intOf]; omega
    · have z0 : decide ((i : Int) < (nl : Int)) = false := by simp; omega
      obtain rfl : i = nl := by omega
      clear hlt
      as_aux_lemma =>
        obtain ⟨w3, rfl⟩ : ∃ x : World, x = wr := ⟨wr, rfl⟩
        obtain ⟨oA, oc, rfl, hoc⟩ := hst.form_o
        obtain ⟨bA, bc, rfl⟩ := hst.form_b
        obtain ⟨eA, ec, rfl⟩ := hst.form_e
        obtain ⟨nA, nc, rfl⟩ := hst.form_n
        have qO := hst.lenO
        have qE := hst.Elen
        have qi := hst.ilen
        have bS : (sb.size : Int) ≤ 2000 := by have := hst.size; omega
        have eB : B.length = E.length := by rw [hst.eB]; simp [begB]
        have eE : En.length = E.length := by rw [hst.eE]; simp [endB]
        have eN : Nn.length = E.length := by rw [hst.eN]; simp [innB]
        rw [eB, eE, eN] at hst ⊢
        obtain ⟨nO, hnO⟩ : ∃ n, n = O.length := ⟨_, rfl⟩
        obtain ⟨nE, hnE⟩ : ∃ n, n = E.length := ⟨_, rfl⟩
        rw [← hnO] at hst ⊢
        rw [← hnE] at hst ⊢
        rw [← hnE] at eB eE eN
        have HNO := hide hnO
        have HNE := hide hnE
        have HST := hide hst
        have HBB := hide eB
        have HEE := hide eE
        have HNN := hide eN
        have bO : (nO : Int) ≤ 60 := by omega
        have bE : (nE : Int) ≤ 60 := by omega
        have hoc2 : (nO : Int) ≤ (oc : Int) := by omega
        have HWR := hide (HB2.out.trans (hst.rs.bel.mono HB2.out.size))
        have HXX := hide (fun (W : World) (hW : Below w3.heap.size w3 W) => And.intro (HT.out.below (HWR.out.trans (hW.mono HWR.out.size))) ((HT2.out.below hst.rs.bel).below hW))
        have HSE := hide (fun (W : World) (hW : Below w3.heap.size w3 W) (a : Nat) (n : Int) (ha : a ≤ s.length) (h1 : -1000000 ≤ n) (h2 : n ≤ 1000000) => sexps_in (HXX.out W hW).2 (HXX.out W hW).1 hst.txt hst.asc (by have := hst.size; omega) ha h1 h2)
        have eqf := eq_flt
        clear hst hnO hnE eB eE eN qO qE qi hoc z0
        go_wp2
        go_loopw [17] (fun iv wr4 => ∃ j : Nat, iv = .int .i64 (j : Int) ∧ j ≤ nE ∧ Below w3.heap.size w3 wr4) (fun iv _ => 61 - (intOf iv).toNat)
        case atStart => exact ⟨0, rfl, Nat.zero_le _, Below.refl _ _⟩
        case round =>
          obtain ⟨wr4, rfl⟩ : ∃ x : World, x = wr := ⟨wr, rfl⟩
          obtain ⟨j, rfl, hj, hb4⟩ := hrel
          have HB4 := hide hb4
          by_cases hlt : j < nE
          · have z0 : decide ((j : Int) < (nE : Int)) = true := by simp; omega
            have z1 : (j : Int) < (nE : Int) := by omega
            have HLT := hide hlt
            obtain ⟨⟨b, en, ni⟩, he⟩ : ∃ e, E[j]? = some e := ⟨_, List.getElem?_eq_getElem (by rw [← HNE.out]; exact hlt)⟩
            have hfe := HST.out.good.fe_at he
            obtain ⟨f1, f2, f3, f4, f5, f6⟩ := hfe
            simp only at f1 f2 f3 f4 f5 f6
            have f4 := f4 s ⟨[], by simp, .inr (.inl rfl)⟩
            obtain ⟨bi, hbi⟩ : ∃ x : Int, x = (b : Int) := ⟨_, rfl⟩
            obtain ⟨ei, hei⟩ : ∃ x : Int, x = (en : Int) := ⟨_, rfl⟩
            have HS1 := hide (fun (W : World) (hW : Below w3.heap.size w3 W) => (show Calls Tryd.prog 19 #[.pointer (some ⟨p.t, 0, none⟩), .string sb, .int .i64 bi, .int .i64 1] W (fun r w' => r = .returned (.tuple #[.int .i64 ei, .agg #[.int .i64 0, .int .i64 0]]) ∧ Below W.heap.size W w') from by
              have h := HSE.out W hW b 1 (by omega) (by omega) (by omega)
              rw [sexps_one (.inl rfl), if_pos rfl, f4, if_pos rfl] at h
              rw [hbi, hei]
              exact h))
            have HS2 := hide (fun (W : World) (hW : Below w3.heap.size w3 W) => (show Calls Tryd.prog 19 #[.pointer (some ⟨p.t, 0, none⟩), .string sb, .int .i64 ei, .int .i64 (-1)] W (fun r w' => r = .returned (.tuple #[.int .i64 bi, .agg #[.int .i64 0, .int .i64 0]]) ∧ Below W.heap.size W w') from by
              have h := HSE.out W hW en (-1) (by omega) (by omega) (by omega)
              rw [sexps_one (.inr rfl), if_neg (by omega), f5, if_pos rfl] at h
              rw [hbi, hei]
              exact h))
            have HS3 := hide (fun (W : World) (hW : Below w3.heap.size w3 W) (bf : Int) (hbf : bf = beforeOf (E.take j) ni b) => (show Calls Tryd.prog 19 #[.pointer (some ⟨p.t, 0, none⟩), .string sb, .int .i64 bi, .int .i64 (-1)] W (fun r w' => r = .returned (.tuple #[.int .i64 ((wantOf bf ni).1 : Int), .agg #[.int .i64 (wantOf bf ni).2.1, .int .i64 (wantOf bf ni).2.2]]) ∧ Below W.heap.size W w') from by
              have h := HSE.out W hW b (-1) (by omega) (by omega) (by omega)
              rw [sexps_one (.inr rfl), if_neg (by omega), f6, ← hbf, wantOf_sexp] at h
              rw [hbi]
              exact h))
            obtain ⟨bb, boff, rfl, hcb⟩ := rd_cells (show Rd w3 (.slice bA nE bc) 1 nE (zints B) from by have h := HST.out.sb_.rd; rwa [HBB.out] at h) (by omega)
            obtain ⟨eb, eoff, rfl, hce⟩ := rd_cells (show Rd w3 (.slice eA nE ec) 1 nE (zints En) from by have h := HST.out.se.rd; rwa [HEE.out] at h) (by omega)
            obtain ⟨nb, noff, rfl, hcn⟩ := rd_cells (show Rd w3 (.slice nA nE nc) 1 nE (zints Nn) from by have h := HST.out.sn.rd; rwa [HNN.out] at h) (by omega)
            have HCC := hide (fun (W : World) (hW : Below w3.heap.size w3 W) (k : Nat) (e : Exr) (hk : E[k]? = some e) => And.intro (hcb W hW k (.int .i64 (e.1 : Int)) (zints_at (by rw [HST.out.eB]; simp [begB, hk]))) (And.intro (hce W hW k (.int .i64 (e.2.1 : Int)) (zints_at (by rw [HST.out.eE]; simp [endB, hk]))) (hcn W hW k (.int .i64 e.2.2) (zints_at (by rw [HST.out.eN]; simp [innB, hk])))))
            have HCJ := hide (fun (W : World) (hW : Below w3.heap.size w3 W) => (show W.cell? ⟨bb, boff + j, none⟩ = some (.int .i64 bi) ∧ W.cell? ⟨eb, eoff + j, none⟩ = some (.int .i64 ei) ∧ W.cell? ⟨nb, noff + j, none⟩ = some (.int .i64 ni) from by
              rw [hbi, hei]
              exact HCC.out W hW j _ he))
            have HFB := hide (And.intro hbi hei)
            have HNI := hide f3
            have HE := hide he
            clear he f1 f2 f3 f4 f5 f6 hcb hce hcn hbi hei hlt hb4 hj
            obtain ⟨c1, c2, c3⟩ := HCJ.out wr4 HB4.out
            go_wp2_with (first | (go_at_call 19; (with_reducible refine Calls.mono (HS1.out _ HB4.out) ?_); rintro r w5 ⟨rfl, hb⟩; have HA5 := hide (HB4.out.trans (hb.mono HB4.out.size)); have HB5 := hide (HA5.out.alloc HA5.out.size (.cells #[.int .i64 0, .int .i64 0] 40)); obtain ⟨p51, p52, p53⟩ := HCJ.out w5 HA5.out; obtain ⟨q51, q52, q53⟩ := HCJ.out _ HB5.out; have HF5 := hide (Blk.new w5 40 #[.int .i64 0, .int .i64 0]); clear hb) | (go_at_call 19; (with_reducible refine Calls.mono (HS2.out _ HB5.out) ?_); rintro r w6 ⟨rfl, hb⟩; have HA6 := hide (HB5.out.trans (hb.mono HB5.out.size)); have HB6 := hide (HA6.out.alloc HA6.out.size (.cells #[.int .i64 0, .int .i64 0] 40)); obtain ⟨p61, p62, p63⟩ := HCJ.out w6 HA6.out; obtain ⟨q61, q62, q63⟩ := HCJ.out _ HB6.out; have HF6 := hide ((HF5.out.below hb HF5.out.lt).alloc (.cells #[.int .i64 0, .int .i64 0] 40)); have HG6 := hide (Blk.new w6 40 #[.int .i64 0, .int .i64 0]); have g60 := HF6.out.cell 0; have g61 := HG6.out.cell 0; clear hb))
            obtain ⟨X, hX⟩ : ∃ X, X = (w6.alloc (.cells #[.int .i64 0, .int .i64 0] 40)) := ⟨_, rfl⟩
            rw [← hX] at HB6 q61 q62 q63 ⊢
            clear g60 g61
            go_loopw [22, 23] (fun bv kv wr7 => ∃ (k : Nat) (bf : Int), kv = .int .i64 (k : Int) ∧ bv = .int .i64 bf ∧ k ≤ j ∧ bf = beforeOf (E.take k) ni b ∧ Below w3.heap.size w3 wr7) (fun _ kv _ => 61 - (intOf kv).toNat)
            case atStart => exact ⟨0, -1, rfl, rfl, Nat.zero_le _, rfl, HB6.out⟩
            case round =>
              obtain ⟨wr7, rfl⟩ : ∃ x : World, x = wr := ⟨wr, rfl⟩
              obtain ⟨k, bf, rfl, rfl, hk, hbf, hb7⟩ := hrel
              have HB7 := hide hb7
              have HBF := hide hbf
              obtain ⟨r1, r2, r3⟩ := HCJ.out wr7 HB7.out
              by_cases hkj : k < j
              · have z2 : decide ((k : Int) < (j : Int)) = true := by simp; omega
                have z3 : (k : Int) < (nE : Int) := by omega
                obtain ⟨⟨b', e', nk⟩, hek⟩ : ∃ e, E[k]? = some e := ⟨_, List.getElem?_eq_getElem (by rw [← HNE.out]; omega)⟩
                obtain ⟨bk, hbk⟩ : ∃ x : Int, x = (b' : Int) := ⟨_, rfl⟩
                obtain ⟨ek, hek2⟩ : ∃ x : Int, x = (e' : Int) := ⟨_, rfl⟩
                have hc := HCC.out wr7 HB7.out k _ hek
                simp only at hc
                rw [← hbk, ← hek2] at hc
                obtain ⟨s1, s2, s3⟩ := hc
                have hstep : beforeOf (E.take (k + 1)) ni b = if nk = ni ∧ ek ≤ bi then max bf bk else bf := by
                  rw [before_step hek, ← hbf, hbk, hek2, HFB.out.1]
                  simp only [Int.ofNat_le]
                have HKJ := hide hkj
                have HSTEP := hide hstep
                clear hbf hb7 hk hkj hek hbk hek2 hstep
                by_cases u1 : nk = ni
                · subst u1
                  by_cases u2 : ek ≤ bi
                  · have v1 : decide (ek ≤ bi) = true := by simpa using u2
                    have HV := hide (show (beforeOf (E.take (k + 1)) nk b) = max bf bk from by rw [HSTEP.out, if_pos ⟨rfl, u2⟩])
                    clear HSTEP u2
                    go_wp2
                    go_region
                    go_wp2
                    exact ⟨⟨k + 1, max bf bk, by simp, rfl, HKJ.out, HV.out.symm, HB7.out.trans ((Below.refl _ _).drew.mono HB7.out.size)⟩, by have := HKJ.out; simp [intOf]; omega⟩
                  · have v1 : decide (ek ≤ bi) = false := by simpa using u2
                    have HV := hide (show (beforeOf (E.take (k + 1)) nk b) = bf from by rw [HSTEP.out, if_neg (fun h => u2 h.2)])
                    clear HSTEP u2
                    go_wp2
                    go_region
                    go_wp2
                    exact ⟨⟨k + 1, bf, by simp, rfl, HKJ.out, HV.out.symm, HB7.out.trans ((Below.refl _ _).drew.mono HB7.out.size)⟩, by have := HKJ.out; simp [intOf]; omega⟩
                · have v1 : (nk == ni) = false := by simpa using u1
                  have HV := hide (show (beforeOf (E.take (k + 1)) ni b) = bf from by rw [HSTEP.out, if_neg (fun h => u1 h.1)])
                  clear HSTEP u1
                  go_wp2
                  go_region
                  go_wp2
                  exact ⟨⟨k + 1, bf, by simp, rfl, HKJ.out, HV.out.symm, HB7.out.trans ((Below.refl _ _).drew.mono HB7.out.size)⟩, by have := HKJ.out; simp [intOf]; omega⟩
              · have z2 : decide ((k : Int) < (j : Int)) = false := by simp; omega
                obtain rfl : k = j := by omega
                have HS4 := hide (fun (W : World) (hW : Below w3.heap.size w3 W) => HS3.out W hW bf HBF.out)
                clear hbf hb7 hk hkj
                by_cases x0 : 0 ≤ bf
                · obtain ⟨x, rfl⟩ : ∃ x : Nat, bf = (x : Int) := ⟨bf.toNat, by omega⟩
                  have HS5 := hide (fun (W : World) (hW : Below w3.heap.size w3 W) => (show Calls Tryd.prog 19 #[.pointer (some ⟨p.t, 0, none⟩), .string sb, .int .i64 bi, .int .i64 (-1)] W (fun r w' => r = .returned (.tuple #[.int .i64 (x : Int), .agg #[.int .i64 0, .int .i64 0]]) ∧ Below W.heap.size W w') from by
                    have h := HS4.out W hW
                    unfold wantOf at h
                    rw [if_pos x0] at h
                    exact h))
                  clear x0
                  go_wp2_with (go_at_call 19; (with_reducible refine Calls.mono (HS5.out _ HB7.out) ?_); rintro r w8 ⟨rfl, hb⟩; have HA8 := hide (HB7.out.trans (hb.mono HB7.out.size)); have HB8 := hide ((HA8.out.alloc HA8.out.size (.cells #[.int .i64 0, .int .i64 0] 40)).alloc (by rw [World.size_alloc]; have := HA8.out.size; omega) (.cells #[.int .i64 0, .int .i64 0] 40)); have HB9 := hide ((HA8.out.alloc HA8.out.size (.cells #[.int .i64 0, .int .i64 0] 40)).alloc (by rw [World.size_alloc]; have := HA8.out.size; omega) (.cells #[.int .i64 0, .int .i64 0] 40)); have HG9 := hide (show Blk ((w8.alloc (.cells #[.int .i64 0, .int .i64 0] 40)).alloc (.cells #[.int .i64 0, .int .i64 0] 40)) (w8.heap.size + 1) 40 #[.int .i64 0, .int .i64 0] from by have h := Blk.new (w8.alloc (.cells #[.int .i64 0, .int .i64 0] 40)) 40 #[.int .i64 0, .int .i64 0]; rwa [World.size_alloc] at h); have HF9 := hide ((Blk.new w8 40 #[.int .i64 0, .int .i64 0]).alloc (.cells #[.int .i64 0, .int .i64 0] 40)); have b0 := HF9.out.cell 0; have b1 := HF9.out.cell 1; have b2 := HG9.out.cell 0; have b3 := HG9.out.cell 1; obtain ⟨v1, v2, v3⟩ := HCJ.out _ HB9.out; obtain ⟨t1, t2, t3⟩ := HCJ.out w8 HA8.out; obtain ⟨t4, t5, t6⟩ := HCJ.out _ (HA8.out.alloc HA8.out.size (.cells #[.int .i64 0, .int .i64 0] 40)); obtain ⟨t7, t8, t9⟩ := HCJ.out _ HB8.out; have HF8 := hide ((Blk.new w8 40 #[.int .i64 0, .int .i64 0]).alloc (.cells #[.int .i64 0, .int .i64 0] 40)); have HG8 := hide (show Blk ((w8.alloc (.cells #[.int .i64 0, .int .i64 0] 40)).alloc (.cells #[.int .i64 0, .int .i64 0] 40)) (w8.heap.size + 1) 40 #[.int .i64 0, .int .i64 0] from by have h := Blk.new (w8.alloc (.cells #[.int .i64 0, .int .i64 0] 40)) 40 #[.int .i64 0, .int .i64 0]; rwa [World.size_alloc] at h); have a0 := HF8.out.cell 0; have a1 := HF8.out.cell 1; have a2 := HG8.out.cell 0; have a3 := HG8.out.cell 1; have a4 := HG8.out.frozen 0; have a5 := HG8.out.frozen 1; clear hb)
                  exact ⟨⟨k + 1, by simp, by have := HLT.out; omega, HB8.out⟩, by have := HLT.out; simp [intOf]; omega⟩
                · have x1 : decide (0 ≤ bf) = false := by simpa using x0
                  by_cases x2 : 0 ≤ ni
                  · have x3 : decide (0 ≤ ni) = true := by simpa using x2
                    have HS5 := hide (fun (W : World) (hW : Below w3.heap.size w3 W) => (show Calls Tryd.prog 19 #[.pointer (some ⟨p.t, 0, none⟩), .string sb, .int .i64 bi, .int .i64 (-1)] W (fun r w' => r = .returned (.tuple #[.int .i64 0, .agg #[.int .i64 5, .int .i64 ni]]) ∧ Below W.heap.size W w') from by
                      have h := HS4.out W hW
                      unfold wantOf at h
                      rw [if_neg x0, if_pos x2] at h
                      exact h))
                    clear x0 x2
                    go_wp2_with (go_at_call 19; (with_reducible refine Calls.mono (HS5.out _ HB7.out) ?_); rintro r w8 ⟨rfl, hb⟩; have HA8 := hide (HB7.out.trans (hb.mono HB7.out.size)); have HB8 := hide ((HA8.out.alloc HA8.out.size (.cells #[.int .i64 5, .int .i64 ni] 40)).alloc (by rw [World.size_alloc]; have := HA8.out.size; omega) (.cells #[.int .i64 0, .int .i64 0] 40)); have HB9 := hide ((HA8.out.alloc HA8.out.size (.cells #[.int .i64 5, .int .i64 ni] 40)).alloc (by rw [World.size_alloc]; have := HA8.out.size; omega) (.cells #[.int .i64 5, .int .i64 ni] 40)); have HG9 := hide (show Blk ((w8.alloc (.cells #[.int .i64 5, .int .i64 ni] 40)).alloc (.cells #[.int .i64 5, .int .i64 ni] 40)) (w8.heap.size + 1) 40 #[.int .i64 5, .int .i64 ni] from by have h := Blk.new (w8.alloc (.cells #[.int .i64 5, .int .i64 ni] 40)) 40 #[.int .i64 5, .int .i64 ni]; rwa [World.size_alloc] at h); have HF9 := hide ((Blk.new w8 40 #[.int .i64 5, .int .i64 ni]).alloc (.cells #[.int .i64 5, .int .i64 ni] 40)); have b0 := HF9.out.cell 0; have b1 := HF9.out.cell 1; have b2 := HG9.out.cell 0; have b3 := HG9.out.cell 1; obtain ⟨v1, v2, v3⟩ := HCJ.out _ HB9.out; obtain ⟨t1, t2, t3⟩ := HCJ.out w8 HA8.out; obtain ⟨t4, t5, t6⟩ := HCJ.out _ (HA8.out.alloc HA8.out.size (.cells #[.int .i64 5, .int .i64 ni] 40)); obtain ⟨t7, t8, t9⟩ := HCJ.out _ HB8.out; have HF8 := hide ((Blk.new w8 40 #[.int .i64 5, .int .i64 ni]).alloc (.cells #[.int .i64 0, .int .i64 0] 40)); have HG8 := hide (show Blk ((w8.alloc (.cells #[.int .i64 5, .int .i64 ni] 40)).alloc (.cells #[.int .i64 0, .int .i64 0] 40)) (w8.heap.size + 1) 40 #[.int .i64 0, .int .i64 0] from by have h := Blk.new (w8.alloc (.cells #[.int .i64 5, .int .i64 ni] 40)) 40 #[.int .i64 0, .int .i64 0]; rwa [World.size_alloc] at h); have a0 := HF8.out.cell 0; have a1 := HF8.out.cell 1; have a2 := HG8.out.cell 0; have a3 := HG8.out.cell 1; have a4 := HG8.out.frozen 0; have a5 := HG8.out.frozen 1; clear hb)
                    exact ⟨⟨k + 1, by simp, by have := HLT.out; omega, HB9.out⟩, by have := HLT.out; simp [intOf]; omega⟩
                  · have x3 : decide (0 ≤ ni) = false := by simpa using x2
                    have HS5 := hide (fun (W : World) (hW : Below w3.heap.size w3 W) => (show Calls Tryd.prog 19 #[.pointer (some ⟨p.t, 0, none⟩), .string sb, .int .i64 bi, .int .i64 (-1)] W (fun r w' => r = .returned (.tuple #[.int .i64 0, .agg #[.int .i64 13, .int .i64 0]]) ∧ Below W.heap.size W w') from by
                      have h := HS4.out W hW
                      unfold wantOf at h
                      rw [if_neg x0, if_neg x2] at h
                      exact h))
                    clear x0 x2
                    go_wp2_with (go_at_call 19; (with_reducible refine Calls.mono (HS5.out _ HB7.out) ?_); rintro r w8 ⟨rfl, hb⟩; have HA8 := hide (HB7.out.trans (hb.mono HB7.out.size)); have HB8 := hide ((HA8.out.alloc HA8.out.size (.cells #[.int .i64 13, .int .i64 0] 40)).alloc (by rw [World.size_alloc]; have := HA8.out.size; omega) (.cells #[.int .i64 0, .int .i64 0] 40)); have HB9 := hide ((HA8.out.alloc HA8.out.size (.cells #[.int .i64 13, .int .i64 0] 40)).alloc (by rw [World.size_alloc]; have := HA8.out.size; omega) (.cells #[.int .i64 13, .int .i64 0] 40)); have HG9 := hide (show Blk ((w8.alloc (.cells #[.int .i64 13, .int .i64 0] 40)).alloc (.cells #[.int .i64 13, .int .i64 0] 40)) (w8.heap.size + 1) 40 #[.int .i64 13, .int .i64 0] from by have h := Blk.new (w8.alloc (.cells #[.int .i64 13, .int .i64 0] 40)) 40 #[.int .i64 13, .int .i64 0]; rwa [World.size_alloc] at h); have HF9 := hide ((Blk.new w8 40 #[.int .i64 13, .int .i64 0]).alloc (.cells #[.int .i64 13, .int .i64 0] 40)); have b0 := HF9.out.cell 0; have b1 := HF9.out.cell 1; have b2 := HG9.out.cell 0; have b3 := HG9.out.cell 1; obtain ⟨v1, v2, v3⟩ := HCJ.out _ HB9.out; obtain ⟨t1, t2, t3⟩ := HCJ.out w8 HA8.out; obtain ⟨t4, t5, t6⟩ := HCJ.out _ (HA8.out.alloc HA8.out.size (.cells #[.int .i64 13, .int .i64 0] 40)); obtain ⟨t7, t8, t9⟩ := HCJ.out _ HB8.out; have HF8 := hide ((Blk.new w8 40 #[.int .i64 13, .int .i64 0]).alloc (.cells #[.int .i64 0, .int .i64 0] 40)); have HG8 := hide (show Blk ((w8.alloc (.cells #[.int .i64 13, .int .i64 0] 40)).alloc (.cells #[.int .i64 0, .int .i64 0] 40)) (w8.heap.size + 1) 40 #[.int .i64 0, .int .i64 0] from by have h := Blk.new (w8.alloc (.cells #[.int .i64 13, .int .i64 0] 40)) 40 #[.int .i64 0, .int .i64 0]; rwa [World.size_alloc] at h); have a0 := HF8.out.cell 0; have a1 := HF8.out.cell 1; have a2 := HG8.out.cell 0; have a3 := HG8.out.cell 1; have a4 := HG8.out.frozen 0; have a5 := HG8.out.frozen 1; clear hb)
                    exact ⟨⟨k + 1, by simp, by have := HLT.out; omega, HB9.out⟩, by have := HLT.out; simp [intOf]; omega⟩
          · have z0 : decide ((j : Int) < (nE : Int)) = false := by simp; omega
            obtain rfl : j = nE := by omega
            clear hlt hb4 hj
            go_wp2
            go_loopw [27] (fun iv wr9 => ∃ i : Nat, iv = .int .i64 (i : Int) ∧ i ≤ nO ∧ Below w3.heap.size w3 wr9) (fun iv _ => 61 - (intOf iv).toNat)
            case atStart => exact ⟨0, rfl, Nat.zero_le _, HB4.out⟩
            case round =>
              obtain ⟨wr9, rfl⟩ : ∃ x : World, x = wr := ⟨wr, rfl⟩
              obtain ⟨i, rfl, hi, hb9⟩ := hrel
              have HB9 := hide hb9
              by_cases hlt : i < nO
              · obtain ⟨m, rfl⟩ : ∃ m, nO = m + 1 := ⟨nO - 1, by omega⟩
                have z2 : decide ((i : Int) < ((m + 1 : Nat) : Int)) = true := by simp; omega
                have z3 : (i : Int) < ((m + 1 : Nat) : Int) := by omega
                have z4 : (i : Int) < (m : Int) + 1 := by omega
                obtain ⟨oi, hoi⟩ : ∃ x, O[i]? = some x := ⟨_, List.getElem?_eq_getElem (by rw [← HNO.out]; exact hlt)⟩
                obtain ⟨ol, hol⟩ : ∃ x, O[m]? = some x := ⟨_, List.getElem?_eq_getElem (by rw [← HNO.out]; omega)⟩
                obtain ⟨ob, ooff, rfl, hco⟩ := rd_cells (show Rd w3 (.slice oA (m + 1) oc) 1 (m + 1) (zints O) from by have h := HST.out.so.rd; rwa [← HNO.out] at h) (by omega)
                have HCO := hide (fun (W : World) (hW : Below w3.heap.size w3 W) => And.intro (hco W hW i (.int .i64 oi) (zints_at hoi)) (hco W hW m (.int .i64 ol) (zints_at hol)))
                have HS6 := hide (fun (W : World) (hW : Below w3.heap.size w3 W) => (show Calls Tryd.prog 19 #[.pointer (some ⟨p.t, 0, none⟩), .string sb, .int .i64 oi, .int .i64 1] W (fun r w' => r = .returned (.tuple #[.int .i64 0, .agg #[.int .i64 13, .int .i64 ol]]) ∧ Below W.heap.size W w') from by
                  obtain ⟨a, c', ha1, ha2, ha3, ha4⟩ := HST.out.opened hoi hol HNO.out
                  have h := HSE.out W hW a 1 (by omega) (by omega) (by omega)
                  rw [sexps_one (.inl rfl), if_pos rfl, ha3, if_neg (by simp only []; omega)] at h
                  rw [ha1, ha4]
                  exact h))
                have HLT := hide hlt
                obtain ⟨c1, c2⟩ := HCO.out wr9 HB9.out
                clear hlt hb9 hi hoi hol hco
                go_wp2_with (go_at_call 19; (with_reducible refine Calls.mono (HS6.out _ HB9.out) ?_); rintro r w10 ⟨rfl, hb⟩; have HA10 := hide (HB9.out.trans (hb.mono HB9.out.size)); have HB10 := hide (HA10.out.alloc HA10.out.size (.cells #[.int .i64 13, .int .i64 ol] 40)); have HF10 := hide (Blk.new w10 40 #[.int .i64 13, .int .i64 ol]); have a0 := HF10.out.cell 0; have a1 := HF10.out.cell 1; obtain ⟨d1, d2⟩ := HCO.out _ HB10.out; clear hb)
                go_region
                go_wp2
                exact ⟨⟨i + 1, by simp, HLT.out, HB10.out.drew⟩, by have := HLT.out; simp [intOf]; omega⟩
              · have z2 : decide ((i : Int) < (nO : Int)) = false := by simp; omega
                obtain rfl : i = nO := by omega
                clear hlt hb9 hi
                have HRO := hide (fun (W : World) (hW : Below w3.heap.size w3 W) => (show Rd W (.slice oA i oc) 1 i (zints O) from by have h := (HST.out.so.rd).belowN hW; rwa [← HNO.out] at h))
                have HOV := hide (fun (W : World) (hW : Below w3.heap.size w3 W) => HST.out.over (HXX.out W hW).2 (HXX.out W hW).1)
                go_wp2_with (first | (go_at_call 25; (with_reducible refine Calls.mono (HOV.out _ HB9.out) ?_); rintro r w10 ⟨A, c, rfl, hr, hb⟩; have HA10 := hide (HB9.out.trans (hb.mono HB9.out.size)); have HB10 := hide (HA10.out.alloc HA10.out.size (.cells #[.slice A O.length c, .int .i64 0, .int .i64 0, .bool false, .int .i64 0, .bool false] 50)); have HF10 := hide (Blk.new w10 50 #[.slice A O.length c, .int .i64 0, .int .i64 0, .bool false, .int .i64 0, .bool false]); have a0 := HF10.out.cell 0; have a1 := HF10.out.cell 1; have a2 := HF10.out.cell 2; have a3 := HF10.out.cell 3; have HRD := hide (hr.belowN (below_box' w10 (.cells #[.slice A O.length c, .int .i64 0, .int .i64 0, .bool false, .int .i64 0, .bool false] 50))); clear hb hr) | (go_at_call 26; (with_reducible refine Calls.mono (same_ints _ O O.length i _ _ _ _ rfl HNO.out HRD.out (HRO.out _ HB10.out) (by have := HNO.out; omega)) ?_); rintro r w11 ⟨rfl, hb⟩; have HB11 := hide (HB10.out.trans (hb.mono HB10.out.size)); have b1 := (HF10.out.below hb HF10.out.lt).cell 1; have b2 := (HF10.out.below hb HF10.out.lt).cell 2; have b3 := (HF10.out.below hb HF10.out.lt).cell 3; clear hb))
                go_ret
                exact ⟨rfl, HWR.out.trans (HB11.out.mono HWR.out.size)⟩
end Go.Proofs.YtdojcgefiekleaaDoor
