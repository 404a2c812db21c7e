/- Paste. No condition but those written. -/
import Derived.Test.YtgiogmbopiblmaaPqc
namespace Go.Proofs.Ytgiogmbopiblmaa
open Go.RowKit

/-- What Paste works on. -/
structure OutP (W w : World) (v : Value) (L : List (Pc × Value)) : Prop where
  bel : Below W.heap.size W w
  inn : PcsAt w v L
  own : ∀ g, v.ownBlock = some g → W.heap.size ≤ g
theorem OutP.below {W w w' : World} {v : Value} {L : List (Pc × Value)} (h : OutP W w v L) (hb : Below w.heap.size w w') : OutP W w' v L := ⟨h.bel.trans (hb.mono h.bel.size), h.inn.below hb, h.own⟩
section
variable {w : World} {b : Nat} {sv : Value} {L : List (Pc × Value)} {N D : Nat}
set_option maxRecDepth 100000 in
set_option maxHeartbeats 16000000 in
theorem paste_any (h : PropsAt w b sv L) (hg : Good (pcs L) N) (vS : Value) (S : List (Sn × Value)) (hs : SnRd w vS S) (a0 : Int) (hcov : ∀ x, cov a0 (sns S) x ≤ D) (hND : N + D ≤ 1000) (hSl : S.length ≤ 1000000) (hSp : ∀ s ∈ S, s.1.pr.length ≤ 1000000) :
    Calls Try.prog 17 #[.pointer (some ⟨b, 0, none⟩), .int .i64 a0, vS] w fun e w' => e = .returned (.int .i64 (pasteE (pcs L) a0 (sns S))) ∧ MRes w b sv (pasteQ (pcs L) a0 (sns S)) w' := by
  have HSAME := hide (fun w' (hb : Below w.heap.size w w') => MRes.same h hb)
  obtain ⟨A, c, rfl, _⟩ := h.inn.row.form
  obtain ⟨AS, cS, rfl, _⟩ := id hs.row
  have HNO := hide (none_at h)
  have c0 : w.cell? ⟨b, 0, none⟩ = some (.slice A L.length c) := h.box.cell 0
  have hLs := hg.size
  rw [pcs_len] at hLs
  have HCL := hide (clone_pcs (.slice A L.length c) L.length (rows pcC L) w h.inn.row.rd h.inn.one (by omega))
  have HIN := hide (fun (w2 : World) (v2 : Value) (hb : Below w.heap.size w w2) (hs : Sl w2 73 3 v2 L.length (rows pcC L)) => (⟨hs, fun p hp => (h.inn.inn p hp).below hb⟩ : PcsAt w2 v2 L))
  have HP := hide h
  have HRD := hide hs
  have HG0 := hide hg.goodF
  have HCV := hide hcov
  have HND := hide hND
  have HSP := hide hSp
  obtain ⟨nn, hnn⟩ : ∃ nn, nn = S.length := ⟨_, rfl⟩
  rw [← hnn] at HRD ⊢
  have hl2 : (nn : Int) ≤ 1000000 := by omega
  have HNN := hide hnn
  by_cases ha : a0 < 1 ∨ 65537 < a0
  · obtain ⟨e1, e2⟩ := pasteR_far (P := pcs L) (S := sns S) ha
    rw [e1, e2]
    clear h hg hs hcov hND hSp hLs hnn e1 e2 hSl
    rcases ha with ha | ha
    · have z1 : decide (a0 < 1) = true := by simpa using ha
      clear ha
      go_enter Try.func17, Try.ntmps17
      go_wp2_with (go_at_call 52; (with_reducible refine Calls.mono HNO.out ?_); rintro r w2 ⟨rfl, rfl⟩)
      go_ret
      exact ⟨rfl, HSAME.out _ (Below.refl _ _)⟩
    · have z1 : decide (a0 < 1) = false := by simp; omega
      have z2 : decide (65537 < a0) = true := by simpa using ha
      have z3 : ¬ a0 < 1 := by omega
      clear ha
      go_enter Try.func17, Try.ntmps17
      go_wp2_with (go_at_call 52; (with_reducible refine Calls.mono HNO.out ?_); rintro r w2 ⟨rfl, rfl⟩)
      go_ret
      exact ⟨rfl, HSAME.out _ (Below.refl _ _)⟩
  have z1 : decide (a0 < 1) = false := by simp; omega
  have z2 : decide (65537 < a0) = false := by simp; omega
  have z3 : ¬ a0 < 1 := by omega
  have z4 : ¬ 65537 < a0 := by omega
  have hab : 1 ≤ a0 ∧ a0 ≤ 65537 := by omega
  have HAB := hide hab
  have HA := hide ha
  clear h hg hs hcov hND hSp hLs hnn hSl ha hab
  go_enter Try.func17, Try.ntmps17
  go_wp2_with (first | (go_at_call 52; (with_reducible refine Calls.mono HNO.out ?_); rintro r w2 ⟨rfl, rfl⟩) | (go_at_call 45; (with_reducible refine Calls.mono HCL.out ?_); rintro r w2 ⟨v2, rfl, s2, o2, b2⟩; have HO2 := hide (show OutP w w2 v2 L from ⟨b2, HIN.out _ _ b2 s2, o2⟩); obtain ⟨A2, c2, rfl, _, _⟩ := s2.form; clear s2 o2 b2))
  go_loopw [7, 29] (fun ov iv wr => ∃ (k : Nat) (L' : List (Pc × Value)), k ≤ nn ∧ iv = .int .i64 (k : Int) ∧ OutP w wr ov L' ∧ Left2 a0 (sns S) (pcs L) k (pcs L') ∧ GoodF (pcs L') (fun x => N + cov a0 ((sns S).take k) x)) (fun _ iv _ => nn - (intOf iv).toNat)
  case atStart => exact ⟨0, L, Nat.zero_le _, rfl, HO2.out, rfl, HG0.out.mono fun x => Nat.le_add_right _ _⟩
  case round =>
    obtain ⟨k, L1, hk, rfl, hst, hlf, hgf⟩ := hrel
    obtain ⟨A1, d1, rfl, _⟩ := hst.inn.row.form
    have HLF := hide hlf
    have HGF := hide hgf
    have HST := hide hst
    by_cases hlt : k < nn
    · have y1 : decide (k < nn) = true := by simpa using hlt
      have y2 : decide ((k : Int) < (nn : Int)) = true := by simp; omega
      have y3 : (k : Int) < (nn : Int) := by omega
      obtain ⟨⟨⟨lo, hi, q⟩, pv⟩, hp⟩ : ∃ p, S[k]? = some p := ⟨_, List.getElem?_eq_getElem (by rw [← HNN.out]; exact hlt)⟩
      have hpp : (sns S)[k]? = some ⟨lo, hi, q⟩ := by unfold sns; rw [List.getElem?_map, hp]; rfl
      have hrd := HRD.out.below hst.bel
      have hqr : Rd w pv 3 q.length (rows prC q) := HRD.out.inn (⟨lo, hi, q⟩, pv) (List.mem_of_getElem? hp)
      have hql : q.length ≤ 1000000 := HSP.out _ (List.mem_of_getElem? hp)
      obtain ⟨g, off, e1, p0, p1, p2⟩ := hrd.at_ HNN.out hp
      subst e1
      obtain ⟨Ap, cp, rfl, _⟩ := id hqr
      have HQR := hide hqr
      have HPP := hide hpp
      have HLT := hide hlt
      have HBX := hide (below_box wr (.cells #[.int .i64 lo, .int .i64 hi, .slice Ap q.length cp] 38))
      have HBK := hide (Blk.new wr 38 #[.int .i64 lo, .int .i64 hi, .slice Ap q.length cp])
      have HST2 := hide (hst.below HBX.out)
      have b0 := HBK.out.cell 0
      have b1 := HBK.out.cell 1
      have b2 := HBK.out.cell 2
      have hlt1 : wr.heap.size = wr.heap.size := rfl
      clear hst hlf hgf hrd hqr hp hpp hlt hk hlt1
      have HM1 := hide (fun (w2 : World) => may_any lo hi w2)
      by_cases m1 : mayP lo hi
      · have hm1 : decide (1 ≤ lo ∧ lo ≤ hi ∧ hi ≤ 65537) = true := decide_eq_true m1
        rw [hm1] at HM1
        have hm1' : 1 ≤ lo ∧ lo ≤ hi ∧ hi ≤ 65537 := m1
        obtain ⟨n1, n2, n3⟩ := hm1'
        obtain ⟨h1, h2⟩ := HAB.out
        have w1 : IntKind.i64.wrap (a0 + lo) = a0 + lo := IntWalk.i64_in _ (by omega)
        have w2' : IntKind.i64.wrap (a0 + lo - 1) = a0 + lo - 1 := IntWalk.i64_in _ (by omega)
        have w3' : IntKind.i64.wrap (a0 + hi) = a0 + hi := IntWalk.i64_in _ (by omega)
        have w4' : IntKind.i64.wrap (a0 + hi - 1) = a0 + hi - 1 := IntWalk.i64_in _ (by omega)
        have HM2 := hide (fun (w2 : World) => may_any (a0 + lo - 1) (a0 + hi - 1) w2)
        by_cases m2 : mayP (a0 + lo - 1) (a0 + hi - 1)
        · have hm2 : decide (1 ≤ a0 + lo - 1 ∧ a0 + lo - 1 ≤ a0 + hi - 1 ∧ a0 + hi - 1 ≤ 65537) = true := decide_eq_true m2
          rw [hm2] at HM2
          have HMM := hide (And.intro m1 m2)
          have hm2' : 1 ≤ a0 + lo - 1 ∧ a0 + lo - 1 ≤ a0 + hi - 1 ∧ a0 + hi - 1 ≤ 65537 := m2
          obtain ⟨a, hae⟩ : ∃ a : Nat, (a : Int) = a0 + lo - 1 := ⟨(a0 + lo - 1).toNat, by omega⟩
          obtain ⟨d, hde⟩ : ∃ a : Nat, (a : Int) = a0 + hi - 1 := ⟨(a0 + hi - 1).toNat, by omega⟩
          have w5' : IntKind.i64.wrap (a0 + lo - 1) = (a : Int) := by rw [hae]; exact w2'
          have w6' : IntKind.i64.wrap (a0 + hi - 1) = (d : Int) := by rw [hde]; exact w4'
          rw [← hae, ← hde] at HM2
          clear w2' w4'
          have HADB := hide (show 1 ≤ a ∧ a ≤ d ∧ d ≤ 65537 by omega)
          have HAE := hide hae
          have HDE := hide hde
          clear m1 m2 hm1 hm2 hm2' hae hde
          go_wp2_with (first | (go_at_call 53; (with_reducible refine Calls.mono (HM1.out _) ?_); rintro r w5 ⟨rfl, rfl⟩) | (go_at_call 53; (with_reducible refine Calls.mono (HM2.out _) ?_); rintro r w5 ⟨rfl, rfl⟩))
          obtain ⟨sb, hsb⟩ : ∃ s, s = wr.heap.size := ⟨_, rfl⟩
          rw [← hsb] at HBK b0 b1 b2 ⊢
          clear hsb
          obtain ⟨w3, rfl⟩ : ∃ x : World, x = wr := ⟨_, rfl⟩
          have hq2 : (q.length : Int) ≤ 1000000 := by omega
          obtain ⟨ql, hqe⟩ : ∃ m, m = q.length := ⟨_, rfl⟩
          rw [← hqe] at HBK HQR HST2 b0 b1 b2 hql hq2 ⊢
          have HQE := hide hqe
          clear hqe
          have HBD := hide (show ∀ (j : Nat), j ≤ ql → ∀ x, N + cov a0 ((sns S).take k) x + (if a ≤ x ∧ x < d then j else 0) ≤ N + D from fun j hj x => by
            have h1 := HCV.out x
            have h2 := cov_take a0 (sns S) (k + 1) x
            rw [cov_step HPP.out] at h2
            have h3 := HAE.out
            have h4 := HDE.out
            have h5 := HQE.out
            by_cases hx : a ≤ x ∧ x < d
            · rw [if_pos (show a0 + lo - 1 ≤ (x : Int) ∧ (x : Int) < a0 + hi - 1 by omega)] at h2
              rw [if_pos hx]
              have h6 : (⟨lo, hi, q⟩ : Sn).pr.length = q.length := rfl
              omega
            · rw [if_neg hx]
              omega)
          go_loopw [7, 56] (fun ov jv wq => ∃ (j : Nat) (L2 : List (Pc × Value)), j ≤ ql ∧ jv = .int .i64 (j : Int) ∧ OutP w wq ov L2 ∧ Blk wq sb 38 #[.int .i64 lo, .int .i64 hi, .slice Ap ql cp] ∧ Left1 a d q (pcs L1) j (pcs L2) ∧ GoodF (pcs L2) (fun x => N + cov a0 ((sns S).take k) x + (if a ≤ x ∧ x < d then j else 0))) (fun _ jv _ => ql - (intOf jv).toNat)
          case atStart => exact ⟨0, L1, Nat.zero_le _, rfl, HST2.out, HBK.out, rfl, HGF.out.mono fun x => Nat.le_add_right _ _⟩
          case round =>
            obtain ⟨j, L2, hj, rfl, hq, hbk, hl1, hg2⟩ := hrel
            obtain ⟨A3, d3, rfl, _⟩ := hq.inn.row.form
            have HL1 := hide hl1
            have HG2 := hide hg2
            have HQ := hide hq
            by_cases hjl : j < ql
            · have u1 : decide (j < ql) = true := by simpa using hjl
              have u2 : decide ((j : Int) < (ql : Int)) = true := by simp; omega
              have u3 : (j : Int) < (ql : Int) := by omega
              obtain ⟨x, hx⟩ : ∃ x, q[j]? = some x := ⟨_, List.getElem?_eq_getElem (by rw [← HQE.out]; exact hjl)⟩
              have hqr2 : Rd wr (.slice Ap ql cp) 3 ql (rows prC q) := by
                have := HQR.out
                exact this.belowN hq.bel
              obtain ⟨g2, o2, e2, r0, r1, r2⟩ := PrS.at_ hqr2 HQE.out hx
              subst e2
              have HX := hide hx
              have HJL := hide hjl
              have HBX2 := hide (below_box wr (.cells #[.int .i64 x.1, .int .i64 x.2.1, .int .i64 x.2.2] 36))
              have HXK := hide (Blk.new wr 36 #[.int .i64 x.1, .int .i64 x.2.1, .int .i64 x.2.2])
              have HQ3 := hide (hq.below HBX2.out)
              have HB3 := hide (hbk.below HBX2.out hbk.lt)
              have c0' := HXK.out.cell 0
              have s0 := HB3.out.cell 0
              have s1 := HB3.out.cell 1
              clear hq hbk hl1 hg2 hj hjl hx hqr2
              by_cases hneg : x.1 < 0
              · have v1 : decide (x.1 < 0) = true := by simpa using hneg
                obtain ⟨e1, e2⟩ := pasteR_bad (P := pcs L) HA.out (HLF.out.bad1 HPP.out HMM.out (e := 17) (by
                  have := HL1.out.bad HX.out hneg
                  rw [← HAE.out, ← HDE.out, Int.toNat_natCast, Int.toNat_natCast]
                  exact this))
                have HE1 := hide e1
                have HE2 := hide e2
                clear hneg e1 e2
                go_wp2
                go_ret
                rw [HE1.out, HE2.out]
                exact ⟨rfl, HSAME.out _ HQ3.out.bel⟩
              · have v1 : decide (x.1 < 0) = false := by simpa using hneg
                have HNEG := hide hneg
                have hgd : Good (pcs L2) (N + D) := HG2.out.good (HBD.out j (by have := HJL.out; omega))
                have hsz := hgd.size
                rw [pcs_len] at hsz
                have HCH := hide (change_any (fn_paste (x := x) HXK.out (N := N + D) (by have := HND.out; omega)) HQ3.out.inn hgd.nf a d HADB.out.2.1 (by omega) (by have := HND.out; omega) hgd.fits (by omega) (by have := HADB.out; omega) (by have := HADB.out; omega))
                clear hneg hgd hsz
                go_wp2_with (go_at_call 44; (with_reducible refine Calls.mono HCH.out ?_); rintro r w6 ⟨v6, L6, rfl, p6, e6, o6, g6⟩; have HR6 := hide (show OutP w w6 v6 L6 from ⟨HQ3.out.bel.trans (o6.below HQ3.out.bel.size fun g hg => HQ3.out.own g hg), p6, fun g hg => g6.elim (fun e => HQ3.out.own g (e ▸ hg)) fun ⟨g', e, h2⟩ => by rw [e] at hg; cases hg; exact Nat.le_trans HQ3.out.bel.size h2⟩); have HB6 := hide (HB3.out.only o6 fun e => Sl.ne_blk HQ3.out.inn.row HB3.out (by decide) e); have E6 := hide e6; obtain ⟨A6, d6, rfl, _⟩ := p6.row.form; clear p6 e6 o6 g6)
                go_roundw
                case rel =>
                  refine ⟨j + 1, L6, HJL.out, by go_num, HR6.out, HB6.out, ?_, ?_⟩
                  · rw [E6.out]
                    exact HL1.out.step HX.out (by have := HNEG.out; omega)
                  · rw [E6.out]
                    refine (HG2.out.put HADB.out.1 HADB.out.2.1 HADB.out.2.2 (by have := HNEG.out; omega)).mono fun y => ?_
                    show N + cov a0 ((sns S).take k) y + (if a ≤ y ∧ y < d then j else 0) + (if a ≤ y ∧ y < d then 1 else 0) ≤ _
                    split <;> omega
                case measure => have := HJL.out; simp [intOf]; omega
            · obtain rfl : j = ql := by omega
              have u1 : decide (j < j) = false := by simp
              have u2 : decide ((j : Int) < (j : Int)) = false := by simp
              clear hq hbk hl1 hg2 hj hjl
              go_wp2
              go_roundw
              case rel =>
                refine ⟨k + 1, L2, HLT.out, by go_num, HQ.out, ?_, ?_⟩
                · refine HLF.out.step HPP.out HMM.out ?_
                  have e := HL1.out
                  rw [HQE.out] at e
                  rw [← HAE.out, ← HDE.out, Int.toNat_natCast, Int.toNat_natCast]
                  exact e.done
                · refine HG2.out.mono fun y => ?_
                  rw [cov_step HPP.out]
                  have h3 := HAE.out
                  have h4 := HDE.out
                  have h5 := HQE.out
                  have h6 : (⟨lo, hi, q⟩ : Sn).pr.length = q.length := rfl
                  by_cases hx : a ≤ y ∧ y < d
                  · rw [if_pos hx, if_pos (show a0 + (⟨lo, hi, q⟩ : Sn).lo - 1 ≤ (y : Int) ∧ (y : Int) < a0 + (⟨lo, hi, q⟩ : Sn).hi - 1 by simp only []; omega)]
                    omega
                  · rw [if_neg hx]
                    omega
              case measure => have := HLT.out; simp [intOf]; omega
        · have hm2 : decide (1 ≤ a0 + lo - 1 ∧ a0 + lo - 1 ≤ a0 + hi - 1 ∧ a0 + hi - 1 ≤ 65537) = false := decide_eq_false m2
          rw [hm2] at HM2
          obtain ⟨e1, e2⟩ := pasteR_bad (P := pcs L) HA.out (HLF.out.bad HPP.out (fun hh => m2 hh.2))
          have HE1 := hide e1
          have HE2 := hide e2
          clear m1 m2 hm1 hm2 e1 e2
          go_wp2_with (first | (go_at_call 53; (with_reducible refine Calls.mono (HM1.out _) ?_); rintro r w5 ⟨rfl, rfl⟩) | (go_at_call 53; (with_reducible refine Calls.mono (HM2.out _) ?_); rintro r w5 ⟨rfl, rfl⟩))
          go_ret
          rw [HE1.out, HE2.out]
          exact ⟨rfl, HSAME.out _ HST2.out.bel⟩
      · have hm1 : decide (1 ≤ lo ∧ lo ≤ hi ∧ hi ≤ 65537) = false := decide_eq_false m1
        rw [hm1] at HM1
        obtain ⟨e1, e2⟩ := pasteR_bad (P := pcs L) HA.out (HLF.out.bad HPP.out (fun hh => m1 hh.1))
        have HE1 := hide e1
        have HE2 := hide e2
        clear m1 hm1 e1 e2
        go_wp2_with (go_at_call 53; (with_reducible refine Calls.mono (HM1.out _) ?_); rintro r w5 ⟨rfl, rfl⟩)
        go_ret
        rw [HE1.out, HE2.out]
        exact ⟨rfl, HSAME.out _ HST2.out.bel⟩
    · obtain rfl : k = nn := by omega
      have y1 : decide (k < k) = false := by simp
      have y2 : decide ((k : Int) < (k : Int)) = false := by simp
      have hdone : pasteS a0 (sns S) (pcs L) = .inr (pcs L1) := by
        have e := HLF.out
        rw [HNN.out, ← sns_len] at e
        exact e.done
      have hgd : Good (pcs L1) (N + D) := HGF.out.good (fun x => Nat.le_trans (Nat.add_le_add_left (cov_take a0 (sns S) k x) N) (Nat.add_le_add_left (HCV.out x) N))
      have hsz := hgd.size
      rw [pcs_len] at hsz
      have HFU := hide (full_any hst.inn (by omega) (fun p hp => by have := hgd.fits _ (List.mem_map_of_mem (f := Prod.fst) hp); have := HND.out; omega))
      have HNF := hide hgd.nf
      clear hst hlf hgf hlt hk hgd hsz
      cases hfu : fullP (pcs L1) with
      | true =>
        obtain ⟨e1, e2⟩ := pasteR_full HA.out hdone hfu
        have HE1 := hide e1
        have HE2 := hide e2
        rw [hfu] at HFU
        clear hdone hfu e1 e2
        go_wp2_with (go_at_call 48; (with_reducible refine Calls.mono HFU.out ?_); rintro r w4 ⟨rfl, b4⟩; have HB4 := hide (HST.out.bel.trans (b4.mono HST.out.bel.size)); clear b4)
        go_ret
        rw [HE1.out, HE2.out]
        exact ⟨rfl, HSAME.out _ HB4.out⟩
      | false =>
        obtain ⟨e1, e2⟩ := pasteR_ok HA.out hdone hfu
        have HE1 := hide e1
        have HE2 := hide e2
        rw [hfu] at HFU
        clear hdone hfu e1 e2
        go_wp2_with (go_at_call 48; (with_reducible refine Calls.mono HFU.out ?_); rintro r w4 ⟨rfl, b4⟩; have HB4 := hide (HST.out.below b4); have KP := HP.out.below HB4.out.bel; have k0 := KP.box.cell 0; have kf := KP.box.frozen 0; clear b4 KP)
        go_ret
        rw [HE1.out, HE2.out]
        exact ⟨rfl, HP.out.store (F := fun _ => False) (Only.of_below HB4.out.bel) (fun g h => h.elim) HB4.out.inn HNF.out (fun g hg => .inr (HB4.out.own g hg)) rfl⟩
end
end Go.Proofs.Ytgiogmbopiblmaa
