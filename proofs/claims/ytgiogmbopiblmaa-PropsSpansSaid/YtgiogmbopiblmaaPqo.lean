/- PropsSpans: the walk. No condition but those written. -/
import Derived.Test.YtgiogmbopiblmaaPqn
import Derived.Deep.QuietTactic
import Derived.BigQuiet
namespace Go.Proofs.Ytgiogmbopiblmaa
open Go.RowKit

theorem below_drewN {B : Nat} {a w : World} (h : Below B a w) (n : Nat) : Below B a (w.drewN n) := ⟨h.os, h.tape, h.output, h.size, h.block⟩
set_option maxRecDepth 100000 in
set_option maxHeartbeats 32000000 in
theorem spans_walk (l : List Ac) (v : Value) (x1 x2 : Int) (w : World) (h : ActsRd w v l) (hm : l.length ≤ maxLen) : Calls Try.prog 6 #[v, .int .i64 x1, .int .i64 x2] w fun e w' => e = .returned (.bool true) ∧ Below w.heap.size w w' := by
  obtain ⟨A, c, rfl, _⟩ := id h.row
  have HLA := hide (fun (w1 : World) (hb : Below w.heap.size w w1) => light_any l _ w1 (h.sub hb) hm)
  obtain ⟨nn, hnn⟩ : ∃ nn, nn = l.length := ⟨_, rfl⟩
  have hl2 : (nn : Int) ≤ 9223372036854775807 := by unfold maxLen at hm; omega
  have HAR := hide h
  have HA0 := hide (fun (hl : lightL l = true) => acts_ok h hl)
  rw [← hnn] at HAR HLA ⊢
  have HNN := hide hnn
  obtain ⟨p1, hp1⟩ : ∃ p, p = pickZ x1 600 := ⟨_, rfl⟩
  obtain ⟨p2, hp2⟩ : ∃ p, p = pickZ x2 600 := ⟨_, rfl⟩
  have ra := pickZ_range x1 (k := 600) (by omega)
  have rb := pickZ_range x2 (k := 600) (by omega)
  rw [← hp1] at ra
  rw [← hp2] at rb
  obtain ⟨f, hf⟩ : ∃ f : Nat, (f : Int) = 1 + p1 := ⟨(1 + p1).toNat, by omega⟩
  obtain ⟨t, ht⟩ : ∃ t : Nat, (t : Int) = (f : Int) + p2 := ⟨((f : Int) + p2).toNat, by omega⟩
  have wf : IntKind.i64.wrap (1 + p1) = (f : Int) := by rw [hf]; exact IntWalk.i64_in _ (by omega)
  have wt : IntKind.i64.wrap ((f : Int) + p2) = (t : Int) := by rw [ht]; exact IntWalk.i64_in _ (by omega)
  have hf1 : 1 ≤ f := by omega
  have hft : f ≤ t := by omega
  have ht2 : t ≤ 1200 := by omega
  have HP1 := hide hp1
  have HP2 := hide hp2
  clear hp1 hp2 ra rb hf ht
  clear h hm hnn
  go_enter Try.func6, Try.ntmps6
  go_wp2_with fail
  refine (Calls.mono (lives_any w)) ?_
  rintro r w1 ⟨rfl, b1⟩
  have B1 := hide b1
  clear b1
  cases hL : lightL l with
  | false =>
    have HL1 := hide (show Calls Try.prog 27 #[.slice A nn c] w1 (fun e w' => e = .returned (.bool false) ∧ w1 = w') from by have := HLA.out w1 B1.out; rw [hL] at this; exact this)
    clear hL
    go_wp2_with (go_at_call 27; (with_reducible refine Calls.mono HL1.out ?_); rintro r w2 ⟨rfl, rfl⟩)
    go_ret
    exact ⟨rfl, B1.out⟩
  | true =>
    have HL1 := hide (show Calls Try.prog 27 #[.slice A nn c] w1 (fun e w' => e = .returned (.bool true) ∧ w1 = w') from by have := HLA.out w1 B1.out; rw [hL] at this; exact this)
    have HAO := hide (HA0.out hL)
    clear hL
    go_wp2_with (go_at_call 27; (with_reducible refine Calls.mono HL1.out ?_); rintro r w2 ⟨rfl, rfl⟩)
    refine (Calls.mono (obj_new B1.out)) ?_
    rintro r w2 ⟨b, rfl, h2, b2⟩
    have H2 := hide h2
    clear h2 b2 HL1 HA0 HLA
    go_wp2
    go_loopw [8] (fun iv wr => ∃ k : Nat, iv = .int .i64 (k : Int) ∧ k ≤ nn ∧ Obj w wr b (doAll (l.take k))) (fun iv _ => nn - (intOf iv).toNat)
    case atStart => exact ⟨0, rfl, Nat.zero_le _, H2.out⟩
    case round =>
      obtain ⟨k, rfl, hk, hob⟩ := hrel
      have HO := hide hob
      by_cases hlt : k < nn
      · have u1 : decide (k < nn) = true := by simpa using hlt
        have u2 : decide ((k : Int) < (nn : Int)) = true := by simp; omega
        have u3 : (k : Int) < (nn : Int) := by omega
        obtain ⟨a, hx⟩ : ∃ a, l[k]? = some a := ⟨_, List.getElem?_eq_getElem (by rw [← HNN.out]; exact hlt)⟩
        have har := HAR.out.sub hob.bel
        have hao := (HAO.out a (List.mem_of_getElem? hx)).below hob.bel
        obtain ⟨g, off, rfl, c0, c1, c2, c3, c4, c5, c6, c7⟩ := har.at_ HNN.out hx
        obtain ⟨AS, cS, hsv, _⟩ := id hao.rd.row
        have HD := hide (obj_do hob (doAll_good _) a hao)
        rw [hsv] at c7 HD
        have HX := hide hx
        have HLT := hide hlt
        clear hob hlt hx har hao hk
        clear hsv
        go_wp2_with (go_at_call 28; (with_reducible refine Calls.mono HD.out ?_); rintro r w3 ⟨rfl, h3, _⟩; rw [doAll_step HX.out] at h3; have H3 := hide h3; clear h3)
        go_roundw
        case rel => exact ⟨k + 1, by go_num, HLT.out, H3.out⟩
        case measure => have := HLT.out; simp [intOf]; omega
      · have u1 : decide (k < nn) = false := by simpa using hlt
        have u2 : decide ((k : Int) < (nn : Int)) = false := by simp; omega
        have u3 : ¬ (k : Int) < (nn : Int) := by omega
        have HO2 := hide (show Obj w wr b (doAll l) by
          have e : k = l.length := by have := HNN.out; omega
          rw [e, List.take_length] at hob
          exact hob)
        clear hob hlt hk HO H2
        go_wp2_with fail
        refine (Calls.mono (pick_any x1 600 _ (by omega) (by omega))) ?_
        rintro r w2 ⟨rfl, rfl⟩
        rw [← HP1.out]
        go_wp2_with fail
        refine (Calls.mono (pick_any x2 600 _ (by omega) (by omega))) ?_
        rintro r w2 ⟨rfl, rfl⟩
        rw [← HP2.out]
        go_wp2_with fail
        refine (Calls.mono (obj_spans HO2.out (doAll_good l) (by omega) (f : Int) (t : Int))) ?_
        rintro r w5 ⟨vS, S, rfl, hO, hS⟩
        rw [spP_eq (doAll l) hf1 hft (by omega)] at hS
        have HO5 := hide (HO2.out.below hO.bel)
        obtain ⟨C, hC⟩ : ∃ C, C = cutP f t (doAll l) := ⟨_, rfl⟩
        have HC := hide hC
        rw [← hC] at hS
        have hCl : C.length ≤ 65537 := by
          have := cut_len (doAll_good l) (f : Int) (t : Int) 0
          rw [spP_eq (doAll l) hf1 hft (by omega), ← hC] at this
          simpa using this
        have HNF := hide (show Nf 0 [] C by rw [hC]; exact cut_nf (doAll_good l).nf)
        have HDC := hide (show ∀ x, f ≤ x → x < t → den C x = den (doAll l) x from fun x g1 g2 => by rw [hC, cut_den (doAll_good l).nf, if_pos ⟨g1, g2⟩])
        have HIN := hide (show ∀ p ∈ C, f ≤ p.fr ∧ p.fr < p.to ∧ p.to ≤ t from fun p hp => cut_in (doAll_good l).nf (by rw [← hC]; exact hp))
        have HPL := hide (show ∀ p ∈ C, p.pr.length ≤ 1000000 from fun p hp => by
          rw [hC] at hp
          have h1 := (cut_nf (f := f) (t := t) (doAll_good l).nf).den_mem p hp
          have h2 := h1.2.2.2 p.fr (Nat.le_refl _) h1.2.1
          have h3 := (cut_in (doAll_good l).nf hp)
          rw [cut_den (doAll_good l).nf, if_pos ⟨h3.1, by omega⟩] at h2
          have := (doAll_good l).len p.fr
          rw [h2] at this
          omega)
        obtain ⟨SA, cs, rfl, _⟩ := hO.inn.row.form
        obtain ⟨ns, hns⟩ : ∃ n, n = S.length := ⟨_, rfl⟩
        have hnc : ns = C.length := by rw [hns]; exact sns_count hS
        have hns2 : (ns : Int) ≤ 65537 := by omega
        have HSI := hide hO.inn
        rw [← hns] at HSI ⊢
        have HNS := hide hns
        have HNC := hide hnc
        have HSN := hide hS
        have B5 := hide (HO5.out.bel)
        clear hO hS hC hCl hns hnc HO2
        go_wp2
        go_loopw [10, 11] (fun kv xv wr => ∃ k x : Nat, kv = .int .i64 (k : Int) ∧ xv = .int .i64 (x : Int) ∧ k ≤ ns ∧ f ≤ x ∧ x ≤ t ∧ Past C k x ∧ Below w5.heap.size w5 wr) (fun _ xv _ => t - (intOf xv).toNat)
        case atStart => exact ⟨0, f, rfl, rfl, Nat.zero_le _, Nat.le_refl _, hft, Past.zero _ _, Below.refl _ _⟩
        case round =>
          obtain ⟨k, x, rfl, rfl, hk, hx1, hx2, hpa, hbr⟩ := hrel
          by_cases hxt : x < t
          · have u1 : decide (x < t) = true := by simpa using hxt
            have u2 : decide ((x : Int) < (t : Int)) = true := by simp; omega
            have u3 : (x : Int) < (t : Int) := by omega
            have HX1 := hide hx1
            have HX2 := hide hxt
            have HBR := hide hbr
            have HKS0 := hide hk
            have HPA0 := hide hpa
            have hx9 : (x : Int) ≤ 1200 := by omega
            clear hx1 hxt hx2 hpa hbr hk
            go_wp2
            obtain ⟨w3, hw3⟩ : ∃ y : World, y = wr := ⟨_, rfl⟩
            rw [← hw3]
            have HB3 := hide (show Below w5.heap.size w5 w3 by rw [hw3]; exact HBR.out)
            clear hw3 HBR
            go_loopw [10] (fun kv wq => ∃ k : Nat, kv = .int .i64 (k : Int) ∧ k ≤ ns ∧ Past C k x ∧ w3 = wq) (fun kv _ => ns - (intOf kv).toNat)
            case atStart => exact ⟨k, rfl, HKS0.out, HPA0.out, rfl⟩
            case round =>
              clear HKS0 HPA0
              obtain ⟨k, rfl, hk, hpa, rfl⟩ := hrel
              have HPA := hide hpa
              have HKS := hide hk
              by_cases hlt : k < ns
              · obtain ⟨p, hp⟩ : ∃ p, C[k]? = some p := ⟨_, List.getElem?_eq_getElem (by have := HNC.out; omega)⟩
                obtain ⟨pv, hpv⟩ := sns_at HSN.out hp
                have hsi := (HSI.out.below HB3.out)
                obtain ⟨g, off, rfl, c0, c1, c2⟩ := hsi.rd.at_ HNS.out hpv
                have hps := hsi.inn _ (List.mem_of_getElem? hpv)
                have HPS := hide hps
                obtain ⟨Ap, cp, hpv0, _⟩ := Sl.form hps
                have hpv2 : pv = .slice Ap p.pr.length cp := hpv0
                subst hpv2
                have HPP := hide hp
                rw [show (spanOf p).lo = (p.fr : Int) by simp [spanOf]] at c0
                rw [show (spanOf p).hi = (p.to : Int) by simp [spanOf]] at c1
                have u4 : decide (k < ns) = true := by simpa using hlt
                have u5 : decide ((k : Int) < (ns : Int)) = true := by simp; omega
                have u6 : (k : Int) < (ns : Int) := by omega
                have HLT := hide hlt
                obtain ⟨pf, hpf⟩ : ∃ n, n = p.fr := ⟨_, rfl⟩
                obtain ⟨pt, hpt⟩ : ∃ n, n = p.to := ⟨_, rfl⟩
                rw [← hpf] at c0
                rw [← hpt] at c1
                clear hps hsi hlt hk hpa
                by_cases hpx : pt ≤ x
                · have v1 : decide (pt ≤ x) = true := by simpa using hpx
                  have v2 : decide ((pt : Int) ≤ (x : Int)) = true := by simp; omega
                  have v3 : (pt : Int) ≤ (x : Int) := by omega
                  have HPX := hide (show p.to ≤ x by rw [← hpt]; exact hpx)
                  clear hpx hpf hpt hp hpv
                  as_aux_lemma =>
                    go_wp2
                    go_roundw
                    case rel => exact ⟨k + 1, by go_num, HLT.out, HPA.out.step HPP.out HPX.out, by trivial⟩
                    case measure => have := HLT.out; simp [intOf]; omega
                · have v1 : decide (pt ≤ x) = false := by simpa using hpx
                  have v2 : decide ((pt : Int) ≤ (x : Int)) = false := by simp; omega
                  have v3 : ¬ (pt : Int) ≤ (x : Int) := by omega
                  by_cases hfx : pf ≤ x
                  · have z1 : decide (pf ≤ x) = true := by simpa using hfx
                    have z2 : decide ((pf : Int) ≤ (x : Int)) = true := by simp; omega
                    have z3 : (pf : Int) ≤ (x : Int) := by omega
                    have hde : den (doAll l) x = p.pr := by rw [← HDC.out x HX1.out HX2.out]; exact past_in HNF.out hp (by omega) (by omega)
                    have HLI := hide (show Calls Try.prog 16 #[.pointer (some ⟨b, 0, none⟩), .int .i64 (x : Int)] w3 (fun e w' => ∃ v, e = .returned v ∧ PrS w' v p.pr ∧ (∀ g, v.ownBlock = some g → w3.heap.size ≤ g) ∧ Below w3.heap.size w3 w') from by
                      have := obj_list (HO5.out.below HB3.out) (doAll_good l) (by omega) (x : Int)
                      rw [denI_nat, hde] at this
                      exact this)
                    have HASC := hide (show Asc17 p.pr by rw [← hde]; exact (doAll_good l).asc x)
                    obtain ⟨q, hq⟩ : ∃ q, q = p.pr := ⟨_, rfl⟩
                    obtain ⟨qn, hqn⟩ : ∃ n, n = q.length := ⟨_, rfl⟩
                    have hq1 : 1 ≤ qn := by
                      have h1 := (HNF.out.den_mem p (List.mem_of_getElem? hp)).2.2.1
                      rw [← hq] at h1
                      cases q with
                      | nil => exact absurd rfl h1
                      | cons _ _ => rw [hqn]; simp
                    have hq2 : qn ≤ 1000000 := by have := HPL.out p (List.mem_of_getElem? hp); rw [← hq, ← hqn] at this; exact this
                    have HPS2 := hide (show PrS w3 (.slice Ap q.length cp) q by rw [hq]; exact HPS.out)
                    rw [← hq] at HLI HASC
                    rw [← hq, ← hqn] at c2
                    have y1 : decide (0 < qn) = true := by simp; omega
                    have y2 : decide ((0 : Int) < (qn : Int)) = true := by simp; omega
                    have y3 : (0 : Int) < (qn : Int) := by omega
                    have y4 : (qn : Int) ≤ 1000000 := by omega
                    have HQN := hide hqn
                    have HQ1 := hide hq1
                    have HQ2 := hide hq2
                    clear hde hfx hpx hpf hpt hp hpv HPS hq hqn hq1 hq2
                    as_aux_lemma =>
                      have HSM := hide (fun (w6 : World) (A6 : Option Addr) (c6 : Nat) (hb : Below w3.heap.size w3 w6) (h6 : PrS w6 (.slice A6 qn c6) q) => (show Calls Try.prog 29 #[.slice Ap qn cp, .slice A6 qn c6] w6 (fun e w' => e = .returned (.bool true) ∧ ∃ n, w' = w6.drewN n) from by
                        have h1 := HPS2.out.below hb
                        rw [← HQN.out] at h1
                        have := same_props q q _ _ w6 (Sl.rd h1) (Sl.rd h6) (by rw [← HQN.out]; exact HQ2.out) (by rw [← HQN.out]; exact HQ2.out)
                        rw [decide_eq_true rfl] at this
                        exact this))
                      go_wp2_with (first | (go_at_call 16; (with_reducible refine Calls.mono HLI.out ?_); rintro r w6 ⟨v6, rfl, h6, _, b6⟩; obtain ⟨A6, c6, rfl, _⟩ := Sl.form h6; rw [← HQN.out] at h6 ⊢; have H6 := hide h6; have B6 := hide b6; have e0 := cell_keep c0 b6; have e1 := cell_keep c1 b6; have e2 := cell_keep c2 b6; clear h6 b6) | (go_at_call 29; (with_reducible refine Calls.mono (HSM.out _ _ _ B6.out H6.out) ?_); rintro r w7 ⟨rfl, nd, hw7⟩; have B7 := hide (show Below w6.heap.size w6 w7 by rw [hw7]; exact ((Only.refl (fun _ => False) w6).drewN nd).below_none); clear hw7))
                      clear HSM c0 c1 c2 e0 e1 e2 HLI
                      go_loopw [14] (fun iv wq => ∃ i : Nat, iv = .int .i64 (i : Int) ∧ 1 ≤ i ∧ i ≤ qn ∧ Below w7.heap.size w7 wq) (fun iv _ => qn - (intOf iv).toNat)
                      case atStart => exact ⟨1, rfl, Nat.le_refl _, HQ1.out, Below.refl _ _⟩
                      case round =>
                        obtain ⟨i, rfl, hi1, hi2, hbq⟩ := hrel
                        have HBQ := hide hbq
                        by_cases hiq : i < qn
                        · have t1 : decide (i < qn) = true := by simpa using hiq
                          have t2 : decide ((i : Int) < (qn : Int)) = true := by simp; omega
                          have t3 : (i : Int) < (qn : Int) := by omega
                          obtain ⟨j, hj⟩ : ∃ j, i = j + 1 := ⟨i - 1, by omega⟩
                          have hq5 := HQN.out
                          obtain ⟨r1, hr1⟩ : ∃ y, q[j]? = some y := ⟨_, List.getElem?_eq_getElem (by omega)⟩
                          obtain ⟨r2, hr2⟩ : ∃ y, q[i]? = some y := ⟨_, List.getElem?_eq_getElem (by omega)⟩
                          have hr12 : r1.1 < r2.1 := by
                            have := List.pairwise_iff_getElem.1 HASC.out j i (by omega) (by omega) (by omega)
                            rwa [(List.getElem?_eq_some_iff.1 hr1).2, (List.getElem?_eq_some_iff.1 hr2).2] at this
                          have hrd : Rd wr (.slice A6 qn c6) 3 qn (rows prC q) := by
                            have := Sl.rd (H6.out.below (B7.out.trans (hbq.mono B7.out.size)))
                            rw [← HQN.out] at this
                            exact this
                          obtain ⟨g6, o6, rfl, d0, _, _⟩ := PrS.at_ hrd HQN.out hr1
                          obtain ⟨g7, o7, he, f0, _, _⟩ := PrS.at_ hrd HQN.out hr2
                          cases he
                          have wj : IntKind.i64.wrap ((i : Int) - 1) = (j : Int) := by rw [show (i : Int) - 1 = (j : Int) by omega]; exact IntWalk.i64_in _ (by omega)
                          obtain ⟨m1, hm1⟩ : ∃ y, y = r1.1 := ⟨_, rfl⟩
                          obtain ⟨m2, hm2⟩ : ∃ y, y = r2.1 := ⟨_, rfl⟩
                          rw [← hm1] at d0
                          rw [← hm2] at f0
                          have v4 : decide (m2 ≤ m1) = false := by simp; omega
                          have v5 : ¬ m2 ≤ m1 := by omega
                          have t4 : decide (j < qn) = true := by simp; omega
                          have t5 : decide ((j : Int) < (qn : Int)) = true := by simp; omega
                          have t6 : (j : Int) < (qn : Int) := by omega
                          have HIQ := hide hiq
                          have HI1 := hide hi1
                          clear hi1 hi2 hbq hiq hr12 hr1 hr2 hrd hm1 hm2 hj hq5
                          go_upto_region 26 with fail
                          go_region
                          go_wp2
                          go_roundw
                          case rel => exact ⟨i + 1, by go_num, by have := HI1.out; omega, HIQ.out, HBQ.out.drew⟩
                          case measure => have := HIQ.out; simp [intOf]; omega
                        · have t1 : decide (i < qn) = false := by simpa using hiq
                          have t2 : decide ((i : Int) < (qn : Int)) = false := by simp; omega
                          have t3 : ¬ (i : Int) < (qn : Int) := by omega
                          clear hi1 hi2 hbq hiq
                          go_wp2
                          go_roundw
                          case rel =>
                            have hb36 := HB3.out.trans (B6.out.mono HB3.out.size)
                            have hb37 := hb36.trans (B7.out.mono hb36.size)
                            exact ⟨k, x + 1, rfl, by go_num, HKS.out, by have := HX1.out; omega, by have := HX2.out; omega, HPA.out.next, hb37.trans (HBQ.out.mono hb37.size)⟩
                          case measure => have := HX2.out; simp [intOf]; omega
                  · have z1 : decide (pf ≤ x) = false := by simpa using hfx
                    have z2 : decide ((pf : Int) ≤ (x : Int)) = false := by simp; omega
                    have z3 : ¬ (pf : Int) ≤ (x : Int) := by omega
                    have hde : den (doAll l) x = [] := by rw [← HDC.out x HX1.out HX2.out]; exact past_out HNF.out HPA.out hp (by omega)
                    clear hfx hpx hpf hpt hp hpv
                    as_aux_lemma =>
                      have HDE := hide hde
                      have HLI := hide (show Calls Try.prog 16 #[.pointer (some ⟨b, 0, none⟩), .int .i64 (x : Int)] w3 (fun e w' => ∃ v, e = .returned v ∧ PrS w' v [] ∧ (∀ g, v.ownBlock = some g → w3.heap.size ≤ g) ∧ Below w3.heap.size w3 w') from by
                        have := obj_list (HO5.out.below HB3.out) (doAll_good l) (by omega) (x : Int)
                        rw [denI_nat, HDE.out] at this
                        exact this)
                      clear hde
                      go_wp2_with (go_at_call 16; (with_reducible refine Calls.mono HLI.out ?_); rintro r w6 ⟨v6, rfl, h6, _, b6⟩; obtain ⟨A6, c6, rfl, _⟩ := Sl.form h6; simp only [List.length_nil]; have H6 := hide h6; have B6 := hide b6; have e0 := cell_keep c0 b6; have e1 := cell_keep c1 b6; have e2 := cell_keep c2 b6; clear h6 b6)
                      go_loopw [14] (fun iv wq => iv = .int .i64 1 ∧ w6 = wq) (fun _ _ => 0)
                      case atStart => exact ⟨rfl, rfl⟩
                      case round =>
                        obtain ⟨rfl, rfl⟩ := hrel
                        go_wp2
                        go_roundw
                        case rel => exact ⟨k, x + 1, rfl, by go_num, HKS.out, by have := HX1.out; omega, by have := HX2.out; omega, HPA.out.next, HB3.out.trans (B6.out.mono HB3.out.size)⟩
                        case measure => have := HX2.out; simp [intOf]; omega
              · have u4 : decide (k < ns) = false := by simpa using hlt
                have u5 : decide ((k : Int) < (ns : Int)) = false := by simp; omega
                have u6 : ¬ (k : Int) < (ns : Int) := by omega
                have hde : den (doAll l) x = [] := by
                  rw [← HDC.out x HX1.out HX2.out]
                  refine past_end ?_
                  have e : k = C.length := by have := HNC.out; omega
                  rw [← e]
                  exact HPA.out
                clear hlt hk hpa
                as_aux_lemma =>
                  have HDE := hide hde
                  have HLI := hide (show Calls Try.prog 16 #[.pointer (some ⟨b, 0, none⟩), .int .i64 (x : Int)] w3 (fun e w' => ∃ v, e = .returned v ∧ PrS w' v [] ∧ (∀ g, v.ownBlock = some g → w3.heap.size ≤ g) ∧ Below w3.heap.size w3 w') from by
                    have := obj_list (HO5.out.below HB3.out) (doAll_good l) (by omega) (x : Int)
                    rw [denI_nat, HDE.out] at this
                    exact this)
                  clear hde
                  go_wp2_with (go_at_call 16; (with_reducible refine Calls.mono HLI.out ?_); rintro r w6 ⟨v6, rfl, h6, _, b6⟩; obtain ⟨A6, c6, rfl, _⟩ := Sl.form h6; simp only [List.length_nil]; have H6 := hide h6; have B6 := hide b6; clear h6 b6)
                  go_loopw [14] (fun iv wq => iv = .int .i64 1 ∧ w6 = wq) (fun _ _ => 0)
                  case atStart => exact ⟨rfl, rfl⟩
                  case round =>
                    obtain ⟨rfl, rfl⟩ := hrel
                    go_wp2
                    go_roundw
                    case rel => exact ⟨k, x + 1, rfl, by go_num, HKS.out, by have := HX1.out; omega, by have := HX2.out; omega, HPA.out.next, HB3.out.trans (B6.out.mono HB3.out.size)⟩
                    case measure => have := HX2.out; simp [intOf]; omega
          · have u1 : decide (x < t) = false := by simpa using hxt
            have u2 : decide ((x : Int) < (t : Int)) = false := by simp; omega
            have u3 : ¬ (x : Int) < (t : Int) := by omega
            have HBR := hide hbr
            clear hxt hx1 hx2 hpa hk hbr
            as_aux_lemma =>
              go_wp2
              go_loopw [15] (fun iv wq => ∃ i : Nat, iv = .int .i64 (i : Int) ∧ i ≤ ns ∧ Below w5.heap.size w5 wq) (fun iv _ => ns - (intOf iv).toNat)
              case atStart => exact ⟨0, rfl, Nat.zero_le _, HBR.out⟩
              case round =>
                clear HBR
                obtain ⟨i, rfl, hi, hbq⟩ := hrel
                have HBQ := hide hbq
                by_cases hin : i < ns
                · have t1 : decide (i < ns) = true := by simpa using hin
                  have t2 : decide ((i : Int) < (ns : Int)) = true := by simp; omega
                  have t3 : (i : Int) < (ns : Int) := by omega
                  have HIN2 := hide hin
                  have hnc := HNC.out
                  obtain ⟨p, hp⟩ : ∃ p, C[i]? = some p := ⟨_, List.getElem?_eq_getElem (by omega)⟩
                  obtain ⟨pv, hpv⟩ := sns_at HSN.out hp
                  have hsi := HSI.out.below hbq
                  obtain ⟨g, off, rfl, c0, c1, c2⟩ := hsi.rd.at_ HNS.out hpv
                  have hps := hsi.inn _ (List.mem_of_getElem? hpv)
                  obtain ⟨Ap, cp, hpv0, _⟩ := Sl.form hps
                  have hpv2 : pv = .slice Ap p.pr.length cp := hpv0
                  subst hpv2
                  rw [show (spanOf p).lo = (p.fr : Int) by simp [spanOf]] at c0
                  rw [show (spanOf p).hi = (p.to : Int) by simp [spanOf]] at c1
                  obtain ⟨i1, i2, i3⟩ := HIN.out p (List.mem_of_getElem? hp)
                  obtain ⟨pf, hpf⟩ : ∃ n, n = p.fr := ⟨_, rfl⟩
                  obtain ⟨pt, hpt⟩ : ∃ n, n = p.to := ⟨_, rfl⟩
                  rw [← hpf] at c0
                  rw [← hpt] at c1
                  have a1 : decide (pf < f) = false := by simp; omega
                  have a2 : decide ((pf : Int) < (f : Int)) = false := by simp; omega
                  have a3 : ¬ (pf : Int) < (f : Int) := by omega
                  have b1 : decide (pt ≤ pf) = false := by simp; omega
                  have b2 : decide ((pt : Int) ≤ (pf : Int)) = false := by simp; omega
                  have b3 : ¬ (pt : Int) ≤ (pf : Int) := by omega
                  have d1 : decide (t < pt) = false := by simp; omega
                  have d2 : decide ((t : Int) < (pt : Int)) = false := by simp; omega
                  have d3 : ¬ (t : Int) < (pt : Int) := by omega
                  by_cases hi0 : i = 0
                  · have e1 : decide (0 < i) = false := by simp; omega
                    have e2 : decide ((0 : Int) < (i : Int)) = false := by simp; omega
                    have e3 : ¬ (0 : Int) < (i : Int) := by omega
                    clear hps hsi hpv hp hpv0 i1 i2 i3 hpf hpt hi0 hi hin hbq hnc
                    as_aux_lemma =>
                      go_upto_region 31 with fail
                      go_quiet (fail)
                      go_wp2
                      go_roundw
                      case rel => exact ⟨i + 1, by go_num, HIN2.out, below_drewN HBQ.out _⟩
                      case measure => have := HIN2.out; simp [intOf]; omega
                  · have e1 : decide (0 < i) = true := by simp; omega
                    have e2 : decide ((0 : Int) < (i : Int)) = true := by simp; omega
                    have e3 : (0 : Int) < (i : Int) := by omega
                    obtain ⟨j, hj⟩ : ∃ j, i = j + 1 := ⟨i - 1, by omega⟩
                    obtain ⟨r, hr⟩ : ∃ p, C[j]? = some p := ⟨_, List.getElem?_eq_getElem (by omega)⟩
                    obtain ⟨rv, hrv⟩ := sns_at HSN.out hr
                    obtain ⟨g2, off2, he, f0, f1, f2⟩ := hsi.rd.at_ HNS.out hrv
                    cases he
                    have hrs := hsi.inn _ (List.mem_of_getElem? hrv)
                    obtain ⟨Ar, cr, hrv0, _⟩ := Sl.form hrs
                    have hrv2 : rv = .slice Ar r.pr.length cr := hrv0
                    subst hrv2
                    rw [show (spanOf r).lo = (r.fr : Int) by simp [spanOf]] at f0
                    rw [show (spanOf r).hi = (r.to : Int) by simp [spanOf]] at f1
                    obtain ⟨j1, j2⟩ := HNF.out.adj hr (by rw [← hj]; exact hp)
                    obtain ⟨rt, hrt⟩ : ∃ n, n = r.to := ⟨_, rfl⟩
                    rw [← hrt] at f1
                    have k1 : decide (pf < rt) = false := by simp; omega
                    have k2 : decide ((pf : Int) < (rt : Int)) = false := by simp; omega
                    have k3 : ¬ (pf : Int) < (rt : Int) := by omega
                    have t4 : decide (j < ns) = true := by simp; omega
                    have t5 : decide ((j : Int) < (ns : Int)) = true := by simp; omega
                    have t6 : (j : Int) < (ns : Int) := by omega
                    have wj : IntKind.i64.wrap ((i : Int) - 1) = (j : Int) := by rw [show (i : Int) - 1 = (j : Int) by omega]; exact IntWalk.i64_in _ (by omega)
                    have HSM := hide (fun (hq : r.pr ≠ p.pr) (d : Nat) => (show Calls Try.prog 29 #[.slice Ar r.pr.length cr, .slice Ap p.pr.length cp] (wr.drewN d) (fun e w' => e = .returned (.bool false) ∧ ∃ n, w' = (wr.drewN d).drewN n) from by
                      have := same_props r.pr p.pr (.slice Ar r.pr.length cr) (.slice Ap p.pr.length cp) (wr.drewN d) (Sl.rd (PrS.below hrs (below_drewN (Below.refl _ _) d))) (Sl.rd (PrS.below hps (below_drewN (Below.refl _ _) d))) (HPL.out r (List.mem_of_getElem? hr)) (HPL.out p (List.mem_of_getElem? hp))
                      rw [decide_eq_false hq] at this
                      exact this))
                    by_cases heq : rt = pf
                    · have HSM2 := hide (HSM.out (j2 (by rw [← hrt, ← hpf]; exact heq)))
                      have z1 : decide (rt = pf) = true := by simpa using heq
                      have z2 : decide ((rt : Int) = (pf : Int)) = true := by simp; omega
                      clear hps hsi hpv hp hpv0 i1 i2 i3 hpf hpt hi0 hi hin hbq hnc hj hr hrv hrs hrv0 j1 j2 hrt HSM
                      subst heq
                      as_aux_lemma =>
                        go_upto_region 31 with fail
                        go_quiet ((go_at_call 29; refine Calls.quiet_of (HSM2.out _)))
                        go_wp2
                        go_roundw
                        case rel => exact ⟨i + 1, by go_num, HIN2.out, below_drewN HBQ.out _⟩
                        case measure => have := HIN2.out; simp [intOf]; omega
                    · have z1 : decide (rt = pf) = false := by simpa using heq
                      have z2 : decide ((rt : Int) = (pf : Int)) = false := by simp; omega
                      have z3 : ¬ (rt : Int) = (pf : Int) := by omega
                      clear hps hsi hpv hp hpv0 i1 i2 i3 hpf hpt hi0 hi hin hbq hnc hj hr hrv hrs hrv0 j1 j2 hrt HSM heq
                      as_aux_lemma =>
                        go_upto_region 31 with fail
                        go_quiet (fail)
                        go_wp2
                        go_roundw
                        case rel => exact ⟨i + 1, by go_num, HIN2.out, below_drewN HBQ.out _⟩
                        case measure => have := HIN2.out; simp [intOf]; omega
                · have t1 : decide (i < ns) = false := by simpa using hin
                  have t2 : decide ((i : Int) < (ns : Int)) = false := by simp; omega
                  have t3 : ¬ (i : Int) < (ns : Int) := by omega
                  clear hin hi hbq
                  as_aux_lemma =>
                    go_wp2
                    go_ret
                    exact ⟨rfl, B5.out.trans (HBQ.out.mono B5.out.size)⟩
end Go.Proofs.Ytgiogmbopiblmaa
