/- PropsNext: the walk. No condition but those written. -/
import Derived.Test.YtgiogmbopiblmaaPqn
namespace Go.Proofs.Ytgiogmbopiblmaa
open Go.RowKit

/-- What the law asks of the two. -/
structure NextOk (P : List Pc) (n : Int) (f t : Nat) (N M : Int) : Prop where
  low : t ≤ f → N = (t : Int) ∧ M = (t : Int)
  rng : f < t → (f : Int) < N ∧ N ≤ (t : Int) ∧ N ≤ M ∧ M ≤ (t : Int)
  alike : ∀ i : Nat, f < i → i < t → (i : Int) < N → den P i = den P f
  val : ∀ i : Nat, f < i → i < t → (i : Int) < M → getP (den P i) n = getP (den P f) n
  diff : f < t → N = (t : Int) ∨ denI P N ≠ den P f
  other : f < t → M = (t : Int) ∨ getP (den P f) n ≠ getP (denI P M) n
theorem next_facts {P : List Pc} {K : Nat} (hg : Good P K) (n : Int) (f t : Nat) {N M : Int} (hN : N = nextP sameL P (f : Int) (t : Int)) (hM : M = nextP (sameV n) P (f : Int) (t : Int)) : NextOk P n f t N M := by
  have h1 : ∀ p ∈ P, 1 ≤ p.fr := fun p hp => (hg.mem hp).1
  obtain ⟨a1, a2⟩ := next_law (same := sameL) (fun l => by simp [sameL]) hg.nf h1 (f : Int) (t : Int)
  obtain ⟨b1, b2⟩ := next_law (same := sameV n) (fun l => by simp [sameV]) hg.nf h1 (f : Int) (t : Int)
  rw [← hN] at a1 a2
  rw [← hM] at b1 b2
  rw [denI_nat] at a1 a2 b1 b2
  refine ⟨fun h => ⟨?_, ?_⟩, fun h => ⟨?_, ?_, ?_, ?_⟩, fun i g1 g2 g3 => ?_, fun i g1 g2 g3 => ?_, fun h => ?_, fun h => ?_⟩
  · rcases a1 with e | e
    · exact e
    · omega
  · rcases b1 with e | e
    · exact e
    · omega
  · rcases a1 with e | e <;> omega
  · rcases a1 with e | e <;> omega
  · rcases b1 with e | ⟨e1, e2, e3, _, e5⟩
    · rcases a1 with e' | e' <;> omega
    · by_cases c : N ≤ M
      · exact c
      · exfalso
        have := a2 M.toNat (by omega) (by omega) (by omega)
        unfold sameL at this
        simp only [decide_eq_true_eq] at this
        have e6 : denI P M = den P M.toNat := by unfold denI; rw [if_neg (by omega)]
        rw [e6, ← this] at e5
        unfold sameV at e5
        simp at e5
  · rcases b1 with e | e <;> omega
  · have := a2 i (by omega) (by omega) g3
    unfold sameL at this
    simp only [decide_eq_true_eq] at this
    exact this.symm
  · have := b2 i (by omega) (by omega) g3
    unfold sameV at this
    simp only [decide_eq_true_eq] at this
    exact this.symm
  · rcases a1 with e | ⟨_, _, _, _, e⟩
    · exact .inl e
    · right
      unfold sameL at e
      simp only [decide_eq_false_iff_not] at e
      exact fun k => e k.symm
  · rcases b1 with e | ⟨_, _, _, _, e⟩
    · exact .inl e
    · right
      unfold sameV at e
      simp only [decide_eq_false_iff_not] at e
      exact e
set_option maxRecDepth 100000 in
set_option maxHeartbeats 32000000 in
theorem next_walk (l : List Ac) (v : Value) (x1 x2 x3 : Int) (w : World) (h : ActsRd w v l) (hm : l.length ≤ maxLen) : Calls Try.prog 7 #[v, .int .i64 x1, .int .i64 x2, .int .i64 x3] w fun e w' => e = .returned (.bool true) ∧ Below w.heap.size w w' := by
  obtain ⟨A, c, rfl, _⟩ := id h.row
  have HLA := hide (fun (w1 : World) (hb : Below w.heap.size w w1) => light_any l _ w1 (h.sub hb) hm)
  obtain ⟨nn, hnn⟩ : ∃ nn, nn = l.length := ⟨_, rfl⟩
  have hl2 : (nn : Int) ≤ 9223372036854775807 := by unfold maxLen at hm; omega
  have HAR := hide h
  have HA0 := hide (fun (hl : lightL l = true) => acts_ok h hl)
  rw [← hnn] at HAR HLA ⊢
  have HNN := hide hnn
  obtain ⟨f, hf⟩ : ∃ f : Nat, (f : Int) = pickZ x1 600 := ⟨(pickZ x1 600).toNat, by have := pickZ_range x1 (k := 600) (by omega); omega⟩
  obtain ⟨t, ht⟩ : ∃ t : Nat, (t : Int) = pickZ x3 600 := ⟨(pickZ x3 600).toNat, by have := pickZ_range x3 (k := 600) (by omega); omega⟩
  have hf2 : (f : Int) ≤ 600 := by have := pickZ_range x1 (k := 600) (by omega); omega
  have ht2 : (t : Int) ≤ 600 := by have := pickZ_range x3 (k := 600) (by omega); omega
  obtain ⟨N, hN⟩ : ∃ N, N = nextP sameL (doAll l) (f : Int) (t : Int) := ⟨_, rfl⟩
  obtain ⟨M, hM⟩ : ∃ M, M = nextP (sameV x2) (doAll l) (f : Int) (t : Int) := ⟨_, rfl⟩
  have HL := hide (next_facts (doAll_good l) x2 f t hN hM)
  have HP1 := hide hf
  have HP3 := hide ht
  have HN := hide hN
  have HM := hide hM
  clear hf ht hN hM
  clear h hm hnn
  go_enter Try.func7, Try.ntmps7
  go_wp2_with fail
  refine (Calls.mono (lives_any w)) ?_
  rintro r w1 ⟨rfl, b1⟩
  have B1 := hide b1
  clear b1
  cases hL : lightL l with
  | false =>
    have HL1 := hide (show Calls Try.prog 27 #[.slice A nn c] w1 (fun e w' => e = .returned (.bool false) ∧ w1 = w') from by have := HLA.out w1 B1.out; rw [hL] at this; exact this)
    clear hL
    go_wp2_with (go_at_call 27; (with_reducible refine Calls.mono HL1.out ?_); rintro r w2 ⟨rfl, rfl⟩)
    go_ret
    exact ⟨rfl, B1.out⟩
  | true =>
    have HL1 := hide (show Calls Try.prog 27 #[.slice A nn c] w1 (fun e w' => e = .returned (.bool true) ∧ w1 = w') from by have := HLA.out w1 B1.out; rw [hL] at this; exact this)
    have HAO := hide (HA0.out hL)
    clear hL
    go_wp2_with (go_at_call 27; (with_reducible refine Calls.mono HL1.out ?_); rintro r w2 ⟨rfl, rfl⟩)
    refine (Calls.mono (obj_new B1.out)) ?_
    rintro r w2 ⟨b, rfl, h2, b2⟩
    have H2 := hide h2
    clear h2 b2 HL1 HA0 HLA
    go_wp2
    go_loopw [10] (fun iv wr => ∃ k : Nat, iv = .int .i64 (k : Int) ∧ k ≤ nn ∧ Obj w wr b (doAll (l.take k))) (fun iv _ => nn - (intOf iv).toNat)
    case atStart => exact ⟨0, rfl, Nat.zero_le _, H2.out⟩
    case round =>
      obtain ⟨k, rfl, hk, hob⟩ := hrel
      have HO := hide hob
      by_cases hlt : k < nn
      · have u1 : decide (k < nn) = true := by simpa using hlt
        have u2 : decide ((k : Int) < (nn : Int)) = true := by simp; omega
        have u3 : (k : Int) < (nn : Int) := by omega
        obtain ⟨a, hx⟩ : ∃ a, l[k]? = some a := ⟨_, List.getElem?_eq_getElem (by rw [← HNN.out]; exact hlt)⟩
        have har := HAR.out.sub hob.bel
        have hao := (HAO.out a (List.mem_of_getElem? hx)).below hob.bel
        obtain ⟨g, off, rfl, c0, c1, c2, c3, c4, c5, c6, c7⟩ := har.at_ HNN.out hx
        obtain ⟨AS, cS, hsv, _⟩ := id hao.rd.row
        have HD := hide (obj_do hob (doAll_good _) a hao)
        rw [hsv] at c7 HD
        have HX := hide hx
        have HLT := hide hlt
        clear hob hlt hx har hao hk
        clear hsv
        go_wp2_with (go_at_call 28; (with_reducible refine Calls.mono HD.out ?_); rintro r w3 ⟨rfl, h3, _⟩; rw [doAll_step HX.out] at h3; have H3 := hide h3; clear h3)
        go_roundw
        case rel => exact ⟨k + 1, by go_num, HLT.out, H3.out⟩
        case measure => have := HLT.out; simp [intOf]; omega
      · have u1 : decide (k < nn) = false := by simpa using hlt
        have u2 : decide ((k : Int) < (nn : Int)) = false := by simp; omega
        have u3 : ¬ (k : Int) < (nn : Int) := by omega
        have HO2 := hide (show Obj w wr b (doAll l) by
          have e : k = l.length := by have := HNN.out; omega
          rw [e, List.take_length] at hob
          exact hob)
        clear hob hlt hk HO H2
        by_cases htf : t ≤ f
        · obtain ⟨e1, e2⟩ := HL.out.low htf
          have HNX := hide (show Calls Try.prog 22 #[.pointer (some ⟨b, 0, none⟩), .int .i64 (f : Int), .int .i64 (t : Int)] wr (fun e w' => e = .returned (.int .i64 (t : Int)) ∧ Below wr.heap.size wr w') from by
            have := obj_next HO2.out (doAll_good l) (by omega) (f : Int) (t : Int)
            rw [← HN.out, e1] at this
            exact this)
          have HNY := hide (fun (w4 : World) (h4 : Obj w w4 b (doAll l)) => (show Calls Try.prog 30 #[.pointer (some ⟨b, 0, none⟩), .int .i64 (f : Int), .int .i64 x2, .int .i64 (t : Int)] w4 (fun e w' => e = .returned (.int .i64 (t : Int)) ∧ Below w4.heap.size w4 w') from by
            have := obj_nextof h4 (doAll_good l) (by omega) (f : Int) x2 (t : Int)
            rw [← HM.out, e2] at this
            exact this))
          have v1 : decide (t ≤ f) = true := by simpa using htf
          have v2 : decide ((t : Int) ≤ (f : Int)) = true := by simp; omega
          have v3 : (t : Int) ≤ (f : Int) := by omega
          clear e1 e2 htf
          as_aux_lemma =>
            go_wp2_with (first | (go_at_call 11; (with_reducible refine Calls.mono (pick_any x1 600 _ (by omega) (by omega)) ?_); rintro r w2 ⟨rfl, rfl⟩; rw [← HP1.out]) | (go_at_call 11; (with_reducible refine Calls.mono (pick_any x3 600 _ (by omega) (by omega)) ?_); rintro r w2 ⟨rfl, rfl⟩; rw [← HP3.out]) | (go_at_call 22; (with_reducible refine Calls.mono HNX.out ?_); rintro r w4 ⟨rfl, b4⟩; have HO4 := hide (HO2.out.below b4); clear b4) | (go_at_call 30; (with_reducible refine Calls.mono (HNY.out _ HO4.out) ?_); rintro r w5 ⟨rfl, b5⟩; have HO5 := hide (HO4.out.below b5); clear b5))
            all_goals (go_ret; exact ⟨rfl, HO5.out.bel⟩)
        · obtain ⟨e1, e2, e3, e4⟩ := HL.out.rng (by omega)
          have HNX := hide (show Calls Try.prog 22 #[.pointer (some ⟨b, 0, none⟩), .int .i64 (f : Int), .int .i64 (t : Int)] wr (fun e w' => e = .returned (.int .i64 N) ∧ Below wr.heap.size wr w') from by
            have := obj_next HO2.out (doAll_good l) (by omega) (f : Int) (t : Int)
            rw [← HN.out] at this
            exact this)
          have HNY := hide (fun (w4 : World) (h4 : Obj w w4 b (doAll l)) => (show Calls Try.prog 30 #[.pointer (some ⟨b, 0, none⟩), .int .i64 (f : Int), .int .i64 x2, .int .i64 (t : Int)] w4 (fun e w' => e = .returned (.int .i64 M) ∧ Below w4.heap.size w4 w') from by
            have := obj_nextof h4 (doAll_good l) (by omega) (f : Int) x2 (t : Int)
            rw [← HM.out] at this
            exact this))
          obtain ⟨k0, hk0⟩ : ∃ k, k = (getV (den (doAll l) f) x2).1 := ⟨_, rfl⟩
          obtain ⟨v0, hv0⟩ : ∃ k, k = (getV (den (doAll l) f) x2).2 := ⟨_, rfl⟩
          obtain ⟨s0, hs0⟩ : ∃ k, k = (getP (den (doAll l) f) x2).isSome := ⟨_, rfl⟩
          have HK0 := hide hk0
          have HV0 := hide hv0
          have HS0 := hide hs0
          have HG := hide (fun (w4 : World) (h4 : Obj w w4 b (doAll l)) => (show Calls Try.prog 21 #[.pointer (some ⟨b, 0, none⟩), .int .i64 (f : Int), .int .i64 x2] w4 (fun e w' => e = .returned (.tuple #[.agg #[.int .i64 k0, .int .i64 v0], .bool s0]) ∧ Below w4.heap.size w4 w') from by
            have := obj_get h4 (doAll_good l) (by omega) (f : Int) x2
            rw [denI_nat, ← hk0, ← hv0, ← hs0] at this
            exact this))
          have v1 : decide (t ≤ f) = false := by simpa using htf
          have v2 : decide ((t : Int) ≤ (f : Int)) = false := by simp; omega
          have v3 : ¬ (t : Int) ≤ (f : Int) := by omega
          have HFT := hide (show f < t by omega)
          have n1 : decide (N ≤ (f : Int)) = false := by simp; omega
          have n2 : ¬ N ≤ (f : Int) := by omega
          have n3 : decide ((t : Int) < N) = false := by simp; omega
          have n4 : ¬ (t : Int) < N := by omega
          have n5 : decide (M < N) = false := by simp; omega
          have n6 : ¬ M < N := by omega
          have n7 : decide ((t : Int) < M) = false := by simp; omega
          have n8 : ¬ (t : Int) < M := by omega
          have wf1 : IntKind.i64.wrap ((f : Int) + 1) = ((f + 1 : Nat) : Int) := by rw [IntWalk.i64_in _ (by omega)]; omega
          have HNM := hide e3
          have HFN := hide e1
          clear e1 e2 e3 e4 htf hk0 hv0 hs0
          as_aux_lemma =>
            go_upto_region 17 with (first | (first | (go_at_call 11; (with_reducible refine Calls.mono (pick_any x1 600 _ (by omega) (by omega)) ?_); rintro r w2 ⟨rfl, rfl⟩; rw [← HP1.out]) | (go_at_call 11; (with_reducible refine Calls.mono (pick_any x3 600 _ (by omega) (by omega)) ?_); rintro r w2 ⟨rfl, rfl⟩; rw [← HP3.out]) | (go_at_call 22; (with_reducible refine Calls.mono HNX.out ?_); rintro r w4 ⟨rfl, b4⟩; have HO4 := hide (HO2.out.below b4); clear b4) | (go_at_call 30; (with_reducible refine Calls.mono (HNY.out _ HO4.out) ?_); rintro r w5 ⟨rfl, b5⟩; have HO5 := hide (HO4.out.below b5); clear b5)) | (go_at_call 21; (with_reducible refine Calls.mono (HG.out _ HO5.out) ?_); rintro r w6 ⟨rfl, b6⟩; have HO6 := hide (HO5.out.below b6); clear b6))
            obtain ⟨vb, hvb⟩ : ∃ n, n = w6.heap.size := ⟨_, rfl⟩
            have HX6 := hide (below_box w6 (.cells #[.int .i64 k0, .int .i64 v0] 29))
            have HBX := hide (Blk.new w6 29 #[.int .i64 k0, .int .i64 v0])
            have HOB := hide (HO6.out.below HX6.out)
            rw [← hvb] at HBX ⊢
            obtain ⟨W6, hW6⟩ : ∃ x : World, x = w6.alloc (.cells #[.int .i64 k0, .int .i64 v0] 29) := ⟨_, rfl⟩
            rw [← hW6] at HBX HOB ⊢
            clear hvb hW6 HX6
            go_wp2
            go_loopw [15] (fun iv wr => ∃ i : Nat, iv = .int .i64 (i : Int) ∧ f < i ∧ i ≤ t ∧ Below W6.heap.size W6 wr) (fun iv _ => t - (intOf iv).toNat)
            case atStart => exact ⟨f + 1, by go_num, by omega, by have := HFT.out; omega, Below.refl _ _⟩
            case round =>
              obtain ⟨i, rfl, hi1, hi2, hbr⟩ := hrel
              have HBR := hide hbr
              have HOR := hide (HOB.out.below hbr)
              have HVR := hide (HBX.out.below hbr HBX.out.lt)
              by_cases hit : i < t
              · have u1 : decide (i < t) = true := by simpa using hit
                have u2 : decide ((i : Int) < (t : Int)) = true := by simp; omega
                have u3 : (i : Int) < (t : Int) := by omega
                have HI1 := hide hi1
                have HIT := hide hit
                have hi9 : (i : Int) ≤ 600 := by omega
                by_cases him : (i : Int) < M
                · have hval := HL.out.val i hi1 hit him
                  have HGI := hide (show Calls Try.prog 21 #[.pointer (some ⟨b, 0, none⟩), .int .i64 (i : Int), .int .i64 x2] wr (fun e w' => e = .returned (.tuple #[.agg #[.int .i64 k0, .int .i64 v0], .bool s0]) ∧ Below wr.heap.size wr w') from by
                    have := obj_get HOR.out (doAll_good l) (by omega) (i : Int) x2
                    unfold getV at this
                    rw [denI_nat, hval] at this
                    have e1 := HK0.out
                    have e2 := HV0.out
                    have e3 := HS0.out
                    unfold getV at e1 e2
                    rw [← e1, ← e2, ← e3] at this
                    exact this)
                  have m1 : decide ((i : Int) < M) = true := by simpa using him
                  have m2 : (i : Int) < M := him
                  by_cases hin : (i : Int) < N
                  · have hal := HL.out.alike i hi1 hit hin
                    have m3 : decide ((i : Int) < N) = true := by simpa using hin
                    obtain ⟨q, hq⟩ : ∃ q, q = den (doAll l) f := ⟨_, rfl⟩
                    obtain ⟨qn, hqn⟩ : ∃ n, n = q.length := ⟨_, rfl⟩
                    have HQ2 := hide (show q.length ≤ 1000000 by rw [hq]; have := (doAll_good l).len f; omega)
                    have HLI := hide (fun (x : World) (hb : Below wr.heap.size wr x) => (show Calls Try.prog 16 #[.pointer (some ⟨b, 0, none⟩), .int .i64 (i : Int)] x (fun e w' => ∃ v, e = .returned v ∧ PrS w' v q ∧ (∀ g, v.ownBlock = some g → x.heap.size ≤ g) ∧ Below x.heap.size x w') from by
                      have := obj_list (HOR.out.below hb) (doAll_good l) (by omega) (i : Int)
                      rw [denI_nat, hal, ← hq] at this
                      exact this))
                    have HLF := hide (fun (x : World) (hb : Below wr.heap.size wr x) => (show Calls Try.prog 16 #[.pointer (some ⟨b, 0, none⟩), .int .i64 (f : Int)] x (fun e w' => ∃ v, e = .returned v ∧ PrS w' v q ∧ (∀ g, v.ownBlock = some g → x.heap.size ≤ g) ∧ Below x.heap.size x w') from by
                      have := obj_list (HOR.out.below hb) (doAll_good l) (by omega) (f : Int)
                      rw [denI_nat, ← hq] at this
                      exact this))
                    have HQN := hide hqn
                    have HSM := hide (fun (x : World) (A1 A2 : Option Addr) (c1 c2 : Nat) (h1 : PrS x (.slice A1 qn c1) q) (h2 : PrS x (.slice A2 qn c2) q) => (show Calls Try.prog 29 #[.slice A1 qn c1, .slice A2 qn c2] x (fun e w' => e = .returned (.bool true) ∧ ∃ n, w' = x.drewN n) from by
                      have := same_props q q _ _ x (Sl.rd h1) (Sl.rd h2) HQ2.out HQ2.out
                      rw [decide_eq_true rfl] at this
                      exact this))
                    clear hi1 hi2 hbr hit him hin hval hal hq hqn
                    as_aux_lemma =>
                      go_upto_region 21 with (go_at_call 21; (with_reducible refine Calls.mono HGI.out ?_); rintro r w7 ⟨rfl, b7⟩; have B7 := hide b7; clear b7)
                      have HB7 := hide (B7.out.trans ((below_box w7 (.cells #[.int .i64 k0, .int .i64 v0] 29)).mono B7.out.size))
                      have HWB := hide (Blk.new w7 29 #[.int .i64 k0, .int .i64 v0])
                      obtain ⟨W7, hW7⟩ : ∃ x : World, x = w7.alloc (.cells #[.int .i64 k0, .int .i64 v0] 29) := ⟨_, rfl⟩
                      obtain ⟨wb, hwb⟩ : ∃ n, n = w7.heap.size := ⟨_, rfl⟩
                      rw [← hW7] at HB7 HWB ⊢
                      rw [← hwb] at HWB ⊢
                      clear hW7 hwb
                      have c0 := (HVR.out.below HB7.out HVR.out.lt).cell 0
                      have c1 := (HVR.out.below HB7.out HVR.out.lt).cell 1
                      have d0 := HWB.out.cell 0
                      have d1 := HWB.out.cell 1
                      go_wp2_with (first | (go_at_call 16; (with_reducible refine Calls.mono (HLI.out _ HB7.out) ?_); rintro r w8 ⟨v8, rfl, h8, _, b8⟩; obtain ⟨A8, c8, rfl, _⟩ := Sl.form h8; rw [← HQN.out] at h8 ⊢; have H8 := hide h8; have B8 := hide b8; have HB8 := hide (HB7.out.trans (b8.mono HB7.out.size)); clear h8 b8) | (go_at_call 16; (with_reducible refine Calls.mono (HLF.out _ HB8.out) ?_); rintro r w9 ⟨v9, rfl, h9, _, b9⟩; obtain ⟨A9, c9, rfl, _⟩ := Sl.form h9; rw [← HQN.out] at h9 ⊢; have H9 := hide h9; have H89 := hide (PrS.below H8.out b9); have B9 := hide (B8.out.trans (b9.mono B8.out.size)); clear h9 b9) | (go_at_call 29; (with_reducible refine Calls.mono (HSM.out _ _ _ _ _ H89.out H9.out) ?_); rintro r w10 ⟨rfl, nd, hw10⟩; have B10 := hide (B9.out.trans (Below.mono (show Below w9.heap.size w9 w10 by rw [hw10]; exact ((Only.refl (fun _ => False) w9).drewN nd).below_none) B9.out.size)); have p0 := cell_keep c0 B10.out; have p1 := cell_keep c1 B10.out; have p2 := cell_keep d0 B10.out; have p3 := cell_keep d1 B10.out; clear hw10))
                      go_roundw
                      case rel => exact ⟨i + 1, by go_num, by have := HI1.out; omega, HIT.out, (HBR.out.trans (HB7.out.mono HBR.out.size)).trans (B10.out.mono (HBR.out.trans (HB7.out.mono HBR.out.size)).size)⟩
                      case measure => have := HIT.out; simp [intOf]; omega
                  · have m3 : decide ((i : Int) < N) = false := by simpa using hin
                    have m4 : ¬ (i : Int) < N := hin
                    clear hi1 hi2 hbr hit him hin hval
                    as_aux_lemma =>
                      go_upto_region 21 with (go_at_call 21; (with_reducible refine Calls.mono HGI.out ?_); rintro r w7 ⟨rfl, b7⟩; have B7 := hide b7; clear b7)
                      have HB7 := hide (B7.out.trans ((below_box w7 (.cells #[.int .i64 k0, .int .i64 v0] 29)).mono B7.out.size))
                      have HWB := hide (Blk.new w7 29 #[.int .i64 k0, .int .i64 v0])
                      obtain ⟨W7, hW7⟩ : ∃ x : World, x = w7.alloc (.cells #[.int .i64 k0, .int .i64 v0] 29) := ⟨_, rfl⟩
                      obtain ⟨wb, hwb⟩ : ∃ n, n = w7.heap.size := ⟨_, rfl⟩
                      rw [← hW7] at HB7 HWB ⊢
                      rw [← hwb] at HWB ⊢
                      clear hW7 hwb
                      have c0 := (HVR.out.below HB7.out HVR.out.lt).cell 0
                      have c1 := (HVR.out.below HB7.out HVR.out.lt).cell 1
                      have d0 := HWB.out.cell 0
                      have d1 := HWB.out.cell 1
                      go_wp2
                      go_roundw
                      case rel => exact ⟨i + 1, by go_num, by have := HI1.out; omega, HIT.out, HBR.out.trans (HB7.out.mono HBR.out.size)⟩
                      case measure => have := HIT.out; simp [intOf]; omega
                · obtain ⟨k1, hk1⟩ : ∃ k, k = (getV (den (doAll l) i) x2).1 := ⟨_, rfl⟩
                  obtain ⟨v1', hv1⟩ : ∃ k, k = (getV (den (doAll l) i) x2).2 := ⟨_, rfl⟩
                  obtain ⟨s1, hs1⟩ : ∃ k, k = (getP (den (doAll l) i) x2).isSome := ⟨_, rfl⟩
                  have HGI := hide (show Calls Try.prog 21 #[.pointer (some ⟨b, 0, none⟩), .int .i64 (i : Int), .int .i64 x2] wr (fun e w' => e = .returned (.tuple #[.agg #[.int .i64 k1, .int .i64 v1'], .bool s1]) ∧ Below wr.heap.size wr w') from by
                    have := obj_get HOR.out (doAll_good l) (by omega) (i : Int) x2
                    rw [denI_nat, ← hk1, ← hv1, ← hs1] at this
                    exact this)
                  have m1 : decide ((i : Int) < M) = false := by simpa using him
                  have m2 : ¬ (i : Int) < M := him
                  have hnm := HNM.out
                  have m3 : decide ((i : Int) < N) = false := by simp; omega
                  have m4 : ¬ (i : Int) < N := by omega
                  clear hi1 hi2 hbr hit him hk1 hv1 hs1 hnm
                  as_aux_lemma =>
                    go_upto_region 21 with (go_at_call 21; (with_reducible refine Calls.mono HGI.out ?_); rintro r w7 ⟨rfl, b7⟩; have B7 := hide b7; clear b7)
                    have HB7 := hide (B7.out.trans ((below_box w7 (.cells #[.int .i64 k1, .int .i64 v1'] 29)).mono B7.out.size))
                    have HWB := hide (Blk.new w7 29 #[.int .i64 k1, .int .i64 v1'])
                    obtain ⟨W7, hW7⟩ : ∃ x : World, x = w7.alloc (.cells #[.int .i64 k1, .int .i64 v1'] 29) := ⟨_, rfl⟩
                    obtain ⟨wb, hwb⟩ : ∃ n, n = w7.heap.size := ⟨_, rfl⟩
                    rw [← hW7] at HB7 HWB ⊢
                    rw [← hwb] at HWB ⊢
                    clear hW7 hwb
                    have c0 := (HVR.out.below HB7.out HVR.out.lt).cell 0
                    have c1 := (HVR.out.below HB7.out HVR.out.lt).cell 1
                    have d0 := HWB.out.cell 0
                    have d1 := HWB.out.cell 1
                    go_wp2
                    go_roundw
                    case rel => exact ⟨i + 1, by go_num, by have := HI1.out; omega, HIT.out, HBR.out.trans (HB7.out.mono HBR.out.size)⟩
                    case measure => have := HIT.out; simp [intOf]; omega
              · have u1 : decide (i < t) = false := by simpa using hit
                have u2 : decide ((i : Int) < (t : Int)) = false := by simp; omega
                have u3 : ¬ (i : Int) < (t : Int) := by omega
                clear hi1 hi2 hbr hit
                obtain ⟨k2, hk2⟩ : ∃ k, k = (getV (denI (doAll l) M) x2).1 := ⟨_, rfl⟩
                obtain ⟨v2, hv2⟩ : ∃ k, k = (getV (denI (doAll l) M) x2).2 := ⟨_, rfl⟩
                obtain ⟨s2, hs2⟩ : ∃ k, k = (getP (denI (doAll l) M) x2).isSome := ⟨_, rfl⟩
                have HGI := hide (show Calls Try.prog 21 #[.pointer (some ⟨b, 0, none⟩), .int .i64 M, .int .i64 x2] wr (fun e w' => e = .returned (.tuple #[.agg #[.int .i64 k2, .int .i64 v2], .bool s2]) ∧ Below wr.heap.size wr w') from by
                  have := obj_get HOR.out (doAll_good l) (by omega) M x2
                  rw [← hk2, ← hv2, ← hs2] at this
                  exact this)
                have HK2 := hide hk2
                have HV2 := hide hv2
                have HS2 := hide hs2
                have HOTH := hide (HL.out.other HFT.out)
                have HDIF := hide (HL.out.diff HFT.out)
                clear hk2 hv2 hs2
                go_upto_region 24 with (go_at_call 21; (with_reducible refine Calls.mono HGI.out ?_); rintro r w7 ⟨rfl, b7⟩; have B7 := hide b7; clear b7)
                have HB7 := hide (B7.out.trans ((below_box w7 (.cells #[.int .i64 k2, .int .i64 v2] 29)).mono B7.out.size))
                have HWB := hide (Blk.new w7 29 #[.int .i64 k2, .int .i64 v2])
                obtain ⟨W7, hW7⟩ : ∃ x : World, x = w7.alloc (.cells #[.int .i64 k2, .int .i64 v2] 29) := ⟨_, rfl⟩
                obtain ⟨wb, hwb⟩ : ∃ n, n = w7.heap.size := ⟨_, rfl⟩
                rw [← hW7] at HB7 HWB ⊢
                rw [← hwb] at HWB ⊢
                clear hW7 hwb
                have c0 := (HVR.out.below HB7.out HVR.out.lt).cell 0
                have c1 := (HVR.out.below HB7.out HVR.out.lt).cell 1
                have d0 := HWB.out.cell 0
                have d1 := HWB.out.cell 1
                have HEND := hide (HOB.out.bel.trans ((HBR.out.trans (HB7.out.mono HBR.out.size)).mono HOB.out.bel.size))
                clear HGI
                by_cases hnt : N = (t : Int)
                · subst hnt
                  have x1' : decide ((t : Int) = (t : Int)) = true := by simp
                  clear HDIF
                  by_cases hmt : M = (t : Int)
                  · subst hmt
                    have y1 : decide ((t : Int) = (t : Int)) = true := by simp
                    clear HOTH
                    as_aux_lemma =>
                      go_wp2
                      all_goals (go_ret; exact ⟨by simp, HEND.out⟩)
                  · have hoth : getP (den (doAll l) f) x2 ≠ getP (denI (doAll l) M) x2 := by rcases HOTH.out with e | e; exact absurd e hmt; exact e
                    have hsv : sameV x2 (den (doAll l) f) (denI (doAll l) M) = false := by unfold sameV; exact decide_eq_false hoth
                    rw [sameV_eq, ← HK0.out, ← HV0.out, ← HS0.out, ← HK2.out, ← HV2.out, ← HS2.out] at hsv
                    have y1 : decide (M = (t : Int)) = false := decide_eq_false hmt
                    have y2 : (M == (t : Int)) = false := by simpa using hmt
                    have HMT := hide hmt
                    have HSV := hide hsv
                    clear hoth hmt hsv HOTH
                    by_cases hs : s0 = s2
                    · by_cases hk : k0 = k2
                      · have hv : v0 ≠ v2 := fun e => by have := HSV.out; rw [hs, hk, e] at this; simp at this
                        have z1 : (v0 == v2) = false := by simpa using hv
                        have z2 : decide (v0 = v2) = false := decide_eq_false hv
                        clear hv HSV HS0 HK0 HS2 HK2
                        subst hs
                        subst hk
                        as_aux_lemma =>
                          cases s0
                          all_goals
                            go_wp2
                            all_goals (go_ret; exact ⟨by simp, HEND.out⟩)
                      · have z1 : (k0 == k2) = false := by simpa using hk
                        have z2 : decide (k0 = k2) = false := decide_eq_false hk
                        clear hk HSV HS0 HS2
                        subst hs
                        as_aux_lemma =>
                          cases s0
                          all_goals
                            go_wp2
                            all_goals (go_ret; exact ⟨by simp, HEND.out⟩)
                    · have HSD := hide hs
                      clear hs HSV HS0 HS2
                      as_aux_lemma =>
                        cases s0 <;> cases s2
                        · exact absurd rfl HSD.out
                        · go_wp2
                          all_goals (go_ret; exact ⟨by simp, HEND.out⟩)
                        · go_wp2
                          all_goals (go_ret; exact ⟨by simp, HEND.out⟩)
                        · exact absurd rfl HSD.out
                · have hdif : denI (doAll l) N ≠ den (doAll l) f := by rcases HDIF.out with e | e; exact absurd e hnt; exact e
                  have x1' : decide (N = (t : Int)) = false := decide_eq_false hnt
                  have x2' : (N == (t : Int)) = false := by simpa using hnt
                  obtain ⟨q, hq⟩ : ∃ q, q = den (doAll l) f := ⟨_, rfl⟩
                  obtain ⟨qn, hqn⟩ : ∃ n, n = q.length := ⟨_, rfl⟩
                  obtain ⟨q2, hq2⟩ : ∃ q, q = denI (doAll l) N := ⟨_, rfl⟩
                  obtain ⟨qn2, hqn2⟩ : ∃ n, n = q2.length := ⟨_, rfl⟩
                  have hl1 : q.length ≤ 1000000 := by rw [hq]; have := (doAll_good l).len f; omega
                  have hl2' : q2.length ≤ 1000000 := by
                    rw [hq2]
                    unfold denI
                    split
                    · simp
                    · have := (doAll_good l).len N.toNat; omega
                  have HLI := hide (fun (x : World) (hb : Below wr.heap.size wr x) => (show Calls Try.prog 16 #[.pointer (some ⟨b, 0, none⟩), .int .i64 N] x (fun e w' => ∃ v, e = .returned v ∧ PrS w' v q2 ∧ (∀ g, v.ownBlock = some g → x.heap.size ≤ g) ∧ Below x.heap.size x w') from by
                    have := obj_list (HOR.out.below hb) (doAll_good l) (by omega) N
                    rw [← hq2] at this
                    exact this))
                  have HLF := hide (fun (x : World) (hb : Below wr.heap.size wr x) => (show Calls Try.prog 16 #[.pointer (some ⟨b, 0, none⟩), .int .i64 (f : Int)] x (fun e w' => ∃ v, e = .returned v ∧ PrS w' v q ∧ (∀ g, v.ownBlock = some g → x.heap.size ≤ g) ∧ Below x.heap.size x w') from by
                    have := obj_list (HOR.out.below hb) (doAll_good l) (by omega) (f : Int)
                    rw [denI_nat, ← hq] at this
                    exact this))
                  rw [← hq, ← hq2] at hdif
                  have HQN := hide hqn
                  have HQN2 := hide hqn2
                  have HSM := hide (fun (x : World) (A1 A2 : Option Addr) (c1 c2 : Nat) (h1 : PrS x (.slice A1 qn2 c1) q2) (h2 : PrS x (.slice A2 qn c2) q) => (show Calls Try.prog 29 #[.slice A1 qn2 c1, .slice A2 qn c2] x (fun e w' => e = .returned (.bool false) ∧ ∃ n, w' = x.drewN n) from by
                    have := same_props q2 q _ _ x (Sl.rd h1) (Sl.rd h2) hl2' hl1
                    rw [decide_eq_false hdif] at this
                    exact this))
                  have HNT := hide hnt
                  clear hdif hnt hq hqn hq2 hqn2 hl1 hl2' HDIF
                  by_cases hmt : M = (t : Int)
                  · subst hmt
                    have y1 : decide ((t : Int) = (t : Int)) = true := by simp
                    clear HOTH
                    as_aux_lemma =>
                      go_wp2_with (first | (go_at_call 16; (with_reducible refine Calls.mono (HLI.out _ HB7.out) ?_); rintro r w8 ⟨v8, rfl, h8, _, b8⟩; obtain ⟨A8, c8, rfl, _⟩ := Sl.form h8; rw [← HQN2.out] at h8 ⊢; have H8 := hide h8; have B8 := hide b8; have HB8 := hide (HB7.out.trans (b8.mono HB7.out.size)); clear h8 b8) | (go_at_call 16; (with_reducible refine Calls.mono (HLF.out _ HB8.out) ?_); rintro r w9 ⟨v9, rfl, h9, _, b9⟩; obtain ⟨A9, c9, rfl, _⟩ := Sl.form h9; rw [← HQN.out] at h9 ⊢; have H9 := hide h9; have H89 := hide (PrS.below H8.out b9); have B9 := hide (B8.out.trans (b9.mono B8.out.size)); clear h9 b9) | (go_at_call 29; (with_reducible refine Calls.mono (HSM.out _ _ _ _ _ H89.out H9.out) ?_); rintro r w10 ⟨rfl, nd, hw10⟩; have B10 := hide (B9.out.trans (Below.mono (show Below w9.heap.size w9 w10 by rw [hw10]; exact ((Only.refl (fun _ => False) w9).drewN nd).below_none) B9.out.size)); have p0 := cell_keep c0 B10.out; have p1 := cell_keep c1 B10.out; have p2 := cell_keep d0 B10.out; have p3 := cell_keep d1 B10.out; clear hw10))
                      all_goals (go_ret; exact ⟨by simp, HEND.out.trans (B10.out.mono HEND.out.size)⟩)
                  · have hoth : getP (den (doAll l) f) x2 ≠ getP (denI (doAll l) M) x2 := by rcases HOTH.out with e | e; exact absurd e hmt; exact e
                    have hsv : sameV x2 (den (doAll l) f) (denI (doAll l) M) = false := by unfold sameV; exact decide_eq_false hoth
                    rw [sameV_eq, ← HK0.out, ← HV0.out, ← HS0.out, ← HK2.out, ← HV2.out, ← HS2.out] at hsv
                    have y1 : decide (M = (t : Int)) = false := decide_eq_false hmt
                    have y2 : (M == (t : Int)) = false := by simpa using hmt
                    have HMT := hide hmt
                    have HSV := hide hsv
                    clear hoth hmt hsv HOTH
                    by_cases hs : s0 = s2
                    · by_cases hk : k0 = k2
                      · have hv : v0 ≠ v2 := fun e => by have := HSV.out; rw [hs, hk, e] at this; simp at this
                        have z1 : (v0 == v2) = false := by simpa using hv
                        have z2 : decide (v0 = v2) = false := decide_eq_false hv
                        clear hv HSV HS0 HK0 HS2 HK2
                        subst hs
                        subst hk
                        as_aux_lemma =>
                          cases s0
                          all_goals
                            go_wp2_with (first | (go_at_call 16; (with_reducible refine Calls.mono (HLI.out _ HB7.out) ?_); rintro r w8 ⟨v8, rfl, h8, _, b8⟩; obtain ⟨A8, c8, rfl, _⟩ := Sl.form h8; rw [← HQN2.out] at h8 ⊢; have H8 := hide h8; have B8 := hide b8; have HB8 := hide (HB7.out.trans (b8.mono HB7.out.size)); clear h8 b8) | (go_at_call 16; (with_reducible refine Calls.mono (HLF.out _ HB8.out) ?_); rintro r w9 ⟨v9, rfl, h9, _, b9⟩; obtain ⟨A9, c9, rfl, _⟩ := Sl.form h9; rw [← HQN.out] at h9 ⊢; have H9 := hide h9; have H89 := hide (PrS.below H8.out b9); have B9 := hide (B8.out.trans (b9.mono B8.out.size)); clear h9 b9) | (go_at_call 29; (with_reducible refine Calls.mono (HSM.out _ _ _ _ _ H89.out H9.out) ?_); rintro r w10 ⟨rfl, nd, hw10⟩; have B10 := hide (B9.out.trans (Below.mono (show Below w9.heap.size w9 w10 by rw [hw10]; exact ((Only.refl (fun _ => False) w9).drewN nd).below_none) B9.out.size)); have p0 := cell_keep c0 B10.out; have p1 := cell_keep c1 B10.out; have p2 := cell_keep d0 B10.out; have p3 := cell_keep d1 B10.out; clear hw10))
                            all_goals (go_ret; exact ⟨by simp, HEND.out.trans (B10.out.mono HEND.out.size)⟩)
                      · have z1 : (k0 == k2) = false := by simpa using hk
                        have z2 : decide (k0 = k2) = false := decide_eq_false hk
                        clear hk HSV HS0 HS2
                        subst hs
                        as_aux_lemma =>
                          cases s0
                          all_goals
                            go_wp2_with (first | (go_at_call 16; (with_reducible refine Calls.mono (HLI.out _ HB7.out) ?_); rintro r w8 ⟨v8, rfl, h8, _, b8⟩; obtain ⟨A8, c8, rfl, _⟩ := Sl.form h8; rw [← HQN2.out] at h8 ⊢; have H8 := hide h8; have B8 := hide b8; have HB8 := hide (HB7.out.trans (b8.mono HB7.out.size)); clear h8 b8) | (go_at_call 16; (with_reducible refine Calls.mono (HLF.out _ HB8.out) ?_); rintro r w9 ⟨v9, rfl, h9, _, b9⟩; obtain ⟨A9, c9, rfl, _⟩ := Sl.form h9; rw [← HQN.out] at h9 ⊢; have H9 := hide h9; have H89 := hide (PrS.below H8.out b9); have B9 := hide (B8.out.trans (b9.mono B8.out.size)); clear h9 b9) | (go_at_call 29; (with_reducible refine Calls.mono (HSM.out _ _ _ _ _ H89.out H9.out) ?_); rintro r w10 ⟨rfl, nd, hw10⟩; have B10 := hide (B9.out.trans (Below.mono (show Below w9.heap.size w9 w10 by rw [hw10]; exact ((Only.refl (fun _ => False) w9).drewN nd).below_none) B9.out.size)); have p0 := cell_keep c0 B10.out; have p1 := cell_keep c1 B10.out; have p2 := cell_keep d0 B10.out; have p3 := cell_keep d1 B10.out; clear hw10))
                            all_goals (go_ret; exact ⟨by simp, HEND.out.trans (B10.out.mono HEND.out.size)⟩)
                    · have HSD := hide hs
                      clear hs HSV HS0 HS2
                      as_aux_lemma =>
                        cases s0 <;> cases s2
                        · exact absurd rfl HSD.out
                        · go_wp2_with (first | (go_at_call 16; (with_reducible refine Calls.mono (HLI.out _ HB7.out) ?_); rintro r w8 ⟨v8, rfl, h8, _, b8⟩; obtain ⟨A8, c8, rfl, _⟩ := Sl.form h8; rw [← HQN2.out] at h8 ⊢; have H8 := hide h8; have B8 := hide b8; have HB8 := hide (HB7.out.trans (b8.mono HB7.out.size)); clear h8 b8) | (go_at_call 16; (with_reducible refine Calls.mono (HLF.out _ HB8.out) ?_); rintro r w9 ⟨v9, rfl, h9, _, b9⟩; obtain ⟨A9, c9, rfl, _⟩ := Sl.form h9; rw [← HQN.out] at h9 ⊢; have H9 := hide h9; have H89 := hide (PrS.below H8.out b9); have B9 := hide (B8.out.trans (b9.mono B8.out.size)); clear h9 b9) | (go_at_call 29; (with_reducible refine Calls.mono (HSM.out _ _ _ _ _ H89.out H9.out) ?_); rintro r w10 ⟨rfl, nd, hw10⟩; have B10 := hide (B9.out.trans (Below.mono (show Below w9.heap.size w9 w10 by rw [hw10]; exact ((Only.refl (fun _ => False) w9).drewN nd).below_none) B9.out.size)); have p0 := cell_keep c0 B10.out; have p1 := cell_keep c1 B10.out; have p2 := cell_keep d0 B10.out; have p3 := cell_keep d1 B10.out; clear hw10))
                          all_goals (go_ret; exact ⟨by simp, HEND.out.trans (B10.out.mono HEND.out.size)⟩)
                        · go_wp2_with (first | (go_at_call 16; (with_reducible refine Calls.mono (HLI.out _ HB7.out) ?_); rintro r w8 ⟨v8, rfl, h8, _, b8⟩; obtain ⟨A8, c8, rfl, _⟩ := Sl.form h8; rw [← HQN2.out] at h8 ⊢; have H8 := hide h8; have B8 := hide b8; have HB8 := hide (HB7.out.trans (b8.mono HB7.out.size)); clear h8 b8) | (go_at_call 16; (with_reducible refine Calls.mono (HLF.out _ HB8.out) ?_); rintro r w9 ⟨v9, rfl, h9, _, b9⟩; obtain ⟨A9, c9, rfl, _⟩ := Sl.form h9; rw [← HQN.out] at h9 ⊢; have H9 := hide h9; have H89 := hide (PrS.below H8.out b9); have B9 := hide (B8.out.trans (b9.mono B8.out.size)); clear h9 b9) | (go_at_call 29; (with_reducible refine Calls.mono (HSM.out _ _ _ _ _ H89.out H9.out) ?_); rintro r w10 ⟨rfl, nd, hw10⟩; have B10 := hide (B9.out.trans (Below.mono (show Below w9.heap.size w9 w10 by rw [hw10]; exact ((Only.refl (fun _ => False) w9).drewN nd).below_none) B9.out.size)); have p0 := cell_keep c0 B10.out; have p1 := cell_keep c1 B10.out; have p2 := cell_keep d0 B10.out; have p3 := cell_keep d1 B10.out; clear hw10))
                          all_goals (go_ret; exact ⟨by simp, HEND.out.trans (B10.out.mono HEND.out.size)⟩)
                        · exact absurd rfl HSD.out
end Go.Proofs.Ytgiogmbopiblmaa
