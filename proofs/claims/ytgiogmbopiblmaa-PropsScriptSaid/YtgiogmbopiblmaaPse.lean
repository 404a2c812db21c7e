/- The reference's Spans. No condition but those written. -/
import Derived.Test.YtgiogmbopiblmaaPsd
import Derived.Test.YtgiogmbopiblmaaPqn
import Derived.Deep.QuietTactic
import Derived.BigQuiet
namespace Go.Proofs.Ytgiogmbopiblmaa
open Go.RowKit

/-- Lists that say what pieces say. -/
def Like (L : List (List Pr)) (P : List Pc) : Prop := ∀ i, (L[i]?).getD [] = den P (i + 1)
/-- Pieces up to a place. -/
structure SpInv (P : List Pc) (f j : Nat) (Q : List Pc) : Prop where
  nf : Nf 0 [] Q
  en : endP Q ≤ j
  val : ∀ x, den Q x = if f ≤ x ∧ x < j then den P x else []
theorem SpInv.start (P : List Pc) (f : Nat) : SpInv P f f [] := ⟨trivial, by rw [endP_nil]; omega, fun x => by rw [if_neg (by omega)]; rfl⟩
theorem SpInv.step {P Q : List Pc} {f j : Nat} (h : SpInv P f j Q) (hf : f ≤ j) : SpInv P f (j + 1) (addP Q j (j + 1) (den P j)) := by
  obtain ⟨a1, a2, a3, a4⟩ := addP_law (q := den P j) (a := j) (b := j + 1) h.nf (fun _ => h.en)
  refine ⟨a1, ?_, fun x => ?_⟩
  · have := h.en
    omega
  · rw [a4, h.val]
    by_cases c : j ≤ x ∧ x < j + 1
    · obtain rfl : x = j := by omega
      rw [if_pos c, if_pos (by omega)]
    · rw [if_neg c]
      by_cases c2 : f ≤ x ∧ x < j
      · rw [if_pos c2, if_pos (by omega)]
      · rw [if_neg c2, if_neg (by omega)]
theorem SpInv.done {P Q : List Pc} {f j t : Nat} (h : SpInv P f j Q) (hn : Nf 0 [] P) (hj : j ≤ t) (he : j = t ∨ ∀ x, j ≤ x → den P x = []) : Q = cutP f t P := by
  refine Nf.same h.nf (cut_nf hn) fun x _ => ?_
  rw [h.val, cut_den hn]
  by_cases c : f ≤ x ∧ x < j
  · rw [if_pos c, if_pos (by omega)]
  · rw [if_neg c]
    by_cases c2 : f ≤ x ∧ x < t
    · rw [if_pos c2]
      rcases he with rfl | he
      · exact absurd c2 c
      · exact (he x (by omega)).symm
    · rw [if_neg c2]
theorem sn_set : ∀ (S : List (Sn × Value)) (m : Nat) (s : Sn) (pv : Value) (z : Int), S[m]? = some (s, pv) → (rows snC S).set (m * 3 + 1) (.int .i64 z) = rows snC (S.set m (⟨s.lo, z, s.pr⟩, pv))
  | [], _, _, _, _, h => by simp at h
  | y :: S, 0, s, pv, z, h => by
      obtain rfl : y = (s, pv) := by simpa using h
      simp [rows, snC]
  | y :: S, m + 1, s, pv, z, h => by
      have ih := sn_set S m s pv z (by simpa using h)
      unfold rows at ih ⊢
      rw [List.set_cons_succ, List.flatMap_cons, List.flatMap_cons, ← ih, show (m + 1) * 3 + 1 = (m * 3 + 1) + 1 + 1 + 1 by omega]
      rfl
theorem OutS.setTo {W w : World} {g off n c m : Nat} {S : List (Sn × Value)} {s : Sn} {pv : Value} (h : OutS W w (.slice (some ⟨g, off, none⟩) n c) S) (hn : n = S.length) (hx : S[m]? = some (s, pv)) (z : Int) : OutS W (w.setCell ⟨g, off + m * 3 + 1, none⟩ (.int .i64 z)) (.slice (some ⟨g, off, none⟩) n c) (S.set m (⟨s.lo, z, s.pr⟩, pv)) := by
  subst hn
  have hm := (List.getElem?_eq_some_iff.1 hx).1
  have hst : Only (fun i => (Value.slice (some ⟨g, off, none⟩) S.length c).ownBlock = some i) w (w.setCell ⟨g, off + m * 3 + 1, none⟩ (.int .i64 z)) := (Only.refl (fun i => (Value.slice (some ⟨g, off, none⟩) S.length c).ownBlock = some i) w).setCell (p := ⟨g, off + m * 3 + 1, none⟩) (.inl rfl) _
  have hs := h.inn.row.set (m * 3 + 1) (by rw [rows_len snC_len]; omega) (.int .i64 z)
  rw [sn_set S m s pv z hx] at hs
  refine ⟨h.bel.trans (hst.below h.bel.size fun i hi => h.own i hi), ⟨by rw [List.length_set]; exact hs, fun p hp => ?_⟩, h.own⟩
  rcases List.mem_or_eq_of_mem_set hp with hp | rfl
  · exact (h.inn.inn p hp).apartT h.inn.row (by decide) hst
  · exact PrS.apartT (h.inn.inn (s, pv) (List.mem_of_getElem? hx)) h.inn.row (by decide) hst
theorem OutS.below {W w w' : World} {v : Value} {S : List (Sn × Value)} (h : OutS W w v S) (hb : Below w.heap.size w w') : OutS W w' v S := ⟨h.bel.trans (hb.mono h.bel.size), h.inn.below hb, h.own⟩
theorem join_facts {W w w5 : World} {g off n c m : Nat} {S : List (Sn × Value)} {s : Sn} {pv : Value} (h : OutS W w (.slice (some ⟨g, off, none⟩) n c) S) (hb : Below w.heap.size w w5) (hn : n = S.length) (hx : S[m]? = some (s, pv)) (z : Int) : Hid (OutS W (w5.setCell ⟨g, off + m * 3 + 1, none⟩ (.int .i64 z)) (.slice (some ⟨g, off, none⟩) n c) (S.set m (⟨s.lo, z, s.pr⟩, pv))) ∧ w5.cell? ⟨g, off + m * 3 + 1, none⟩ = some (.int .i64 s.hi) ∧ w5.frozen? ⟨g, off + m * 3 + 1, none⟩ = false := by
  have h5 := h.below hb
  obtain ⟨g1, o1, e, _, k1, _⟩ := h5.inn.rd.at_ hn hx
  cases e
  have hrow := h5.inn.row
  rw [← hn] at hrow
  obtain ⟨g2, o2, c2, e, _, _, _, hf, _⟩ := hrow.at_ (by have := (List.getElem?_eq_some_iff.1 hx).1; omega)
  cases e
  exact ⟨hide (h5.setTo hn hx z), k1, hf _⟩
set_option maxRecDepth 100000 in
set_option maxHeartbeats 32000000 in
theorem rspans_any {w : World} {rb N : Nat} {v : Value} {R : List (List Pr × Value)} {P : List Pc} (h : RfAt w rb v R) (hl : Like (lsts R) P) (hg : Good P N) (hNB : N ≤ 1000) (a0 b0 : Int) :
    Calls Try.prog 35 #[.pointer (some ⟨rb, 0, none⟩), .int .i64 a0, .int .i64 b0] w (SpRes w (spP P a0 b0 0)) := by
  have HMA := hide (rmay_any a0 b0 w)
  have HNB := hide hNB
  clear hNB
  by_cases hm : mayP a0 b0
  · rw [decide_eq_true hm] at HMA
    obtain ⟨m1, m2, m3⟩ := hm
    obtain ⟨f, rfl⟩ : ∃ n : Nat, a0 = (n : Int) := ⟨a0.toNat, by omega⟩
    obtain ⟨t, rfl⟩ : ∃ n : Nat, b0 = (n : Int) := ⟨b0.toNat, by omega⟩
    obtain ⟨A, c, rfl, _⟩ := h.inn.row.form
    obtain ⟨n, hn⟩ : ∃ n, n = R.length := ⟨_, rfl⟩
    have hn9 : (n : Int) ≤ 65536 := by have := h.len; omega
    have H := hide h
    rw [← hn] at H
    have HN := hide hn
    have HL := hide hl
    have HG := hide hg
    have HF1 := hide (show 1 ≤ f by omega)
    have HFT := hide (show f ≤ t by omega)
    have ht9 : (t : Int) ≤ 65537 := by omega
    have HT9 := hide (show t ≤ 65537 by omega)
    have HFIN := hide (spP_eq P (f := f) (t := t) (by omega) (by omega) (by omega))
    obtain ⟨i0, hi, hz0, hz1, hz2⟩ := info_parts info_pr
    obtain ⟨k0, hj, hy0, hy1, hy2⟩ := info_parts info_sn
    have HI := hide hi
    have HZ := hide hz0
    have HZ1 := hide hz1
    have HZ2 := hide hz2
    have HJ := hide hj
    have HY := hide hy0
    have HY1 := hide hy1
    have HY2 := hide hy2
    clear h hn hl hg m1 m2 m3 hi hz0 hz1 hz2 hj hy0 hy1 hy2
    go_enter Try.func35, Try.ntmps35
    go_wp2_with fail
    refine (Calls.mono HMA.out) ?_
    rintro r w1 ⟨rfl, rfl⟩
    go_wp2
    go_loopw [7, 8] (fun ov iv wr => ∃ (j : Nat) (Q : List Pc) (S : List (Sn × Value)), iv = .int .i64 (j : Int) ∧ f ≤ j ∧ j ≤ t ∧ OutS w wr ov S ∧ sns S = Q.map spanOf ∧ SpInv P f j Q) (fun _ iv _ => t - (intOf iv).toNat)
    case atStart => exact ⟨f, [], [], rfl, Nat.le_refl _, HFT.out, ⟨Below.refl _ _, ⟨Sl.nil _ _ _, fun p hp => by cases hp⟩, fun g hg => by cases hg⟩, rfl, SpInv.start P f⟩
    case round =>
      obtain ⟨j, Q, S, rfl, hj1, hj2, ho, hs, hi⟩ := hrel
      have HO := hide ho
      have HS := hide hs
      have HV := hide hi
      have HJ1 := hide hj1
      have HJ2 := hide hj2
      obtain ⟨Ao, co, rfl, hso, hcm⟩ := ho.inn.row.form
      obtain ⟨ns, hns⟩ : ∃ k, k = S.length := ⟨_, rfl⟩
      have hnq : ns = Q.length := by rw [hns]; exact sns_count hs
      have hns9 : (ns : Int) ≤ 65537 := by
        have h1 := hi.nf.count
        have h2 := hi.en
        unfold endP at h2
        omega
      have HSO := hide (show ns ≤ co by omega)
      have hcm9 : (co : Int) ≤ 9223372036854775807 := by unfold maxLen at hcm; omega
      rw [← hns] at HO ⊢
      have HNS := hide hns
      have HNQ := hide hnq
      have c0 : wr.cell? ⟨rb, 0, none⟩ = some (.slice A n c) := (H.out.box.below ho.bel H.out.box.lt).cell 0
      by_cases hjt : j < t ∧ j ≤ n
      · obtain ⟨hjt, hjn⟩ := hjt
        have z0 : decide (j < t) = true := by simpa using hjt
        have z1 : decide ((j : Int) < (t : Int)) = true := by simp; omega
        have z2 : (j : Int) < (t : Int) := by omega
        have z3 : decide (j ≤ n) = true := by simpa using hjn
        have z4 : decide ((j : Int) ≤ (n : Int)) = true := by simp; omega
        have z5 : (j : Int) ≤ (n : Int) := by omega
        obtain ⟨m, hm⟩ : ∃ m, j = m + 1 := ⟨j - 1, by have := HF1.out; omega⟩
        have wj : IntKind.i64.wrap ((j : Int) - 1) = (m : Int) := by rw [show (j : Int) - 1 = (m : Int) by omega]; exact IntWalk.i64_in _ (by omega)
        obtain ⟨j1, hj1e⟩ : ∃ k, k = j + 1 := ⟨_, rfl⟩
        have wj1 : IntKind.i64.wrap ((j : Int) + 1) = (j1 : Int) := by rw [show (j : Int) + 1 = (j1 : Int) by omega]; exact IntWalk.i64_in _ (by omega)
        have hmn : m < n := by omega
        have y0 : decide (m < n) = true := by simpa using hmn
        have y1 : decide ((m : Int) < (n : Int)) = true := by simp; omega
        have y2 : (m : Int) < (n : Int) := by omega
        obtain ⟨⟨q, qv⟩, hx⟩ : ∃ y, R[m]? = some y := ⟨_, List.getElem?_eq_getElem (by have := HN.out; omega)⟩
        have hRw := H.out.inn
        obtain ⟨g, off, rfl, d00⟩ := hRw.at_ hx
        have d0 := cell_keep d00 ho.bel
        have hqs := (hRw.inn _ (List.mem_of_getElem? hx)).below ho.bel
        have hqd : den P j = q := by
          have := HL.out m
          rw [lsts_get hx, ← hm] at this
          exact this.symm
        obtain ⟨Aq, cq, hqv, _⟩ := Sl.form hqs
        have hqv2 : qv = .slice Aq q.length cq := hqv
        obtain ⟨ql, hql⟩ : ∃ k, k = q.length := ⟨_, rfl⟩
        rw [← hql] at hqv2
        subst hqv2
        have hql9 : ql ≤ 1000 := by have := H.out.fit _ (List.mem_of_getElem? hx); rw [hql]; exact this
        have hql8 : (ql : Int) ≤ 1000 := by omega
        have HQS := hide (show PrS wr (.slice Aq ql cq) q from hqs)
        replace d0 : wr.cell? ⟨g, off + m, none⟩ = some (.slice Aq ql cq) := d0
        have HQD := hide hqd
        have HQL := hide hql
        have HM := hide hm
        have HJ1E := hide hj1e
        have HJT := hide hjt
        have HST := hide (hi.step hj1)
        rw [hqd] at HST
        clear hql hjt hjn hm hmn hx hRw d00 hqs hqd hqv hj1e hj1 hj2 ho hs hi hso hcm hns hnq
        by_cases hq0 : ql = 0
        · have q1 : decide (ql = 0) = true := by simpa using hq0
          have q2 : decide ((ql : Int) = 0) = true := by simpa using hq0
          have q3 : ((ql : Int) == 0) = true := by simpa using hq0
          have HSK := hide (addP_skip (l := Q) (a := j) (b := j + 1) (q := q) (.inr (List.eq_nil_of_length_eq_zero (by rw [← HQL.out]; exact hq0))))
          have HQ0 := hide hq0
          clear hq0
          go_wp2
          go_roundw
          case rel => exact ⟨j1, Q, S, rfl, by have := HJ1.out; have := HJ1E.out; omega, by have := HJT.out; have := HJ1E.out; omega, HO.out, HS.out, by rw [HJ1E.out]; have := HST.out; rw [HSK.out] at this; exact this⟩
          case measure => have := HJT.out; have := HJ1E.out; simp [intOf]; omega
        · have q1 : decide (ql = 0) = false := by simpa using hq0
          have q2 : decide ((ql : Int) = 0) = false := by simpa using hq0
          have q3 : ((ql : Int) == 0) = false := by simpa using hq0
          have HQ0 := hide (show q ≠ [] from fun e => hq0 (by rw [HQL.out, e]; rfl))
          clear hq0
          by_cases hn0 : ns = 0
          · have n1 : decide (0 < ns) = false := by simp; omega
            have n2 : decide ((0 : Int) < (ns : Int)) = false := by simp; omega
            have n3 : ¬ (0 : Int) < (ns : Int) := by omega
            have HADD := hide (show addP Q j (j + 1) q = Q ++ [⟨j, j + 1, q⟩] by
              have : Q = [] := List.eq_nil_of_length_eq_zero (by rw [← HNQ.out]; exact hn0)
              rw [this]
              exact addP_nil (by omega) HQ0.out)
            clear hn0
            go_upto_region 9 with fail
            have HOq := hide HO.out
            have HQq := hide HQS.out
            have e0 := d0
            obtain ⟨wq, hwq⟩ : ∃ y : World, y = wr := ⟨_, rfl⟩
            rw [← hwq] at HOq HQq e0 ⊢
            clear hwq c0 d0
            have hbE : Below wq.heap.size wq (wq.alloc (.cells #[] 36)) := (Below.refl _ _).alloc (Nat.le_refl _) _
            have he2 : Sl (wq.alloc (.cells #[] 36)) 36 3 (.slice (some ⟨wq.heap.size, 0, none⟩) 0 0) 0 [] := by simpa using Sl.new wq 36 3 #[] 0 0 (Nat.le_refl _) (by simp [maxLen]) (by simp)
            have hr : Rd (wq.alloc (.cells #[] 36)) (.slice Aq ql cq) 3 ql (rows prC q) := by
              have h1 := (Sl.rd HQq.out).only (Only.of_below hbE) (fun _ _ f => f : ∀ g, _ → ¬ (fun _ : Nat => False) g)
              rw [← HQL.out] at h1
              exact h1
            have HBE := hide hbE
            clear hbE e0
            go_wp2_with (at_builtin; refine wpList_append_sl rfl (.tmp 44) (.tmp 45) 32 rfl 36 i0 (.agg #[.int .i64 0, .int .i64 0, .int .i64 0]) 3 24 Try.underlying32 HI.out HZ.out HZ1.out HZ2.out rfl _ 0 [] rfl he2 _ rfl ql (rows prC q) hr (rows_cells fun z _ => prC_one z) ?b1 ?b2 ?_)
            case b1 => unfold maxLen; omega
            case b2 => omega
            intro v1 w1 hsl ho1 hv1
            have HB1 := hide (HBE.out.trans (ho1.below (by simp) fun i hi => by cases hi; exact Nat.le_refl _))
            have HS1 := hide (show PrS w1 v1 q by
              unfold PrS
              rw [← HQL.out]
              simpa using hsl)
            have hsl1 := Sl.form HS1.out
            rw [← HQL.out] at hsl1
            obtain ⟨A1, c1, rfl, _⟩ := hsl1
            clear hsl ho1 hv1 he2 hr
            have HRO := hide (show Sl (w1.alloc (.cells #[.int .i64 (j : Int), .int .i64 (j1 : Int), .slice A1 ql c1] 38)) 38 3 (.slice Ao ns co) ns (rows snC S) from by
              have h1 := HOq.out.inn.row.only (Only.of_below (F := fun _ => False) HB1.out) fun _ _ f => f
              have h2 := h1.alloc (.cells #[.int .i64 (j : Int), .int .i64 (j1 : Int), .slice A1 ql c1] 38)
              rw [← HNS.out] at h2
              exact h2)
            go_wp2_with (at_builtin; refine wpList_append_sl rfl (.tmp 40) (.tmp 48) 34 rfl 38 k0 (.agg #[.int .i64 0, .int .i64 0, .slice none 0 0]) 3 40 Try.underlying34 HJ.out HY.out HY1.out HY2.out rfl (.slice Ao ns co) ns (rows snC S) rfl HRO.out _ rfl 1 (snC (⟨(j : Int), (j1 : Int), q⟩, .slice A1 ql c1)) (rd_sn w1 (⟨(j : Int), (j1 : Int), q⟩, .slice A1 ql c1)) (snC_one rfl) ?b1 ?b2 ?_)
            case b1 => unfold maxLen; omega
            case b2 => omega
            intro v2 w2 hs2 ho2 hv2
            have HO2 := hide (show OutS w w2 v2 (S ++ [(⟨(j : Int), (j1 : Int), q⟩, .slice A1 ql c1)]) from OutS.more HOq.out HB1.out HS1.out (by rw [← HNS.out]; exact hs2) ho2 (by rw [World.size_alloc]; exact hv2))
            have HS2 := hide (show sns (S ++ [(⟨(j : Int), (j1 : Int), q⟩, .slice A1 ql c1)]) = (Q ++ [(⟨j, j + 1, q⟩ : Pc)]).map spanOf from by
              have h1 := HS.out
              have h2 := HJ1E.out
              unfold sns at h1 ⊢
              rw [List.map_append, List.map_append, h1, h2]
              simp [spanOf])
            obtain ⟨A2, c2, rfl, _⟩ := hs2.form
            clear hs2 ho2 hv2
            go_wp2
            go_roundw
            case rel => exact ⟨j1, _, _, rfl, by have := HJ1.out; have := HJ1E.out; omega, by have := HJT.out; have := HJ1E.out; omega, HO2.out, HS2.out, by rw [HJ1E.out, ← HADD.out]; exact HST.out⟩
            case measure => have := HJT.out; have := HJ1E.out; simp [intOf]; omega
          · obtain ⟨k, hk⟩ : ∃ k, ns = k + 1 := ⟨ns - 1, by omega⟩
            have wk : IntKind.i64.wrap ((ns : Int) - 1) = (k : Int) := by rw [show (ns : Int) - 1 = (k : Int) by omega]; exact IntWalk.i64_in _ (by omega)
            have n1 : decide (0 < ns) = true := by simp; omega
            have n2 : decide ((0 : Int) < (ns : Int)) = true := by simp; omega
            have n3 : (0 : Int) < (ns : Int) := by omega
            have n4 : decide (k < ns) = true := by simp; omega
            have n5 : decide ((k : Int) < (ns : Int)) = true := by simp; omega
            have n6 : (k : Int) < (ns : Int) := by omega
            obtain ⟨K, p, hQ⟩ : ∃ K p, Q = K ++ [p] := by
              rcases snoc_cases Q with e | ⟨K, p, e⟩
              · have := HNQ.out
                rw [e] at this
                simp at this
                omega
              · exact ⟨K, p, e⟩
            have hKl : K.length = k := by
              have := HNQ.out
              rw [hQ, List.length_append, List.length_singleton] at this
              omega
            have hQk : Q[k]? = some p := by rw [hQ, ← hKl, List.getElem?_append_right (Nat.le_refl _), Nat.sub_self]; rfl
            obtain ⟨pv, hSk⟩ := sns_at HS.out hQk
            obtain ⟨g2, o2, hA2, k0c, k1c, k2c⟩ := HO.out.inn.rd.at_ HNS.out hSk
            subst hA2
            have hps := HO.out.inn.inn _ (List.mem_of_getElem? hSk)
            obtain ⟨Ap, cp, hpv, _⟩ := Sl.form hps
            have hpv2 : pv = .slice Ap p.pr.length cp := hpv
            subst hpv2
            rw [show (spanOf p).hi = (p.to : Int) by simp [spanOf]] at k1c
            have HSK := hide hSk
            have HQE := hide hQ
            have HKL := hide hKl
            have HPS := hide (show PrS wr (.slice Ap p.pr.length cp) p.pr from hps)
            have HPL := hide (show p.pr.length ≤ 1000000 by
              have h1 := (HV.out.nf.den_mem p (by rw [hQ]; simp)).2.2
              have h2 := (HV.out.nf.den_mem p (by rw [hQ]; simp)).2.1
              have h3 := h1.2 p.fr (Nat.le_refl _) h2
              rw [HV.out.val] at h3
              split at h3
              · have := HG.out.len p.fr
                rw [h3] at this
                have := HNB.out
                omega
              · exact absurd h3.symm h1.1)
            obtain ⟨pt, hpt⟩ : ∃ z, z = p.to := ⟨_, rfl⟩
            rw [← hpt] at k1c
            have HPT := hide hpt
            clear hk hQ hKl hQk hSk hps hpv hpt
            by_cases hto : pt = j
            · have t1 : decide (pt = j) = true := by simpa using hto
              have t2 : decide ((pt : Int) = (j : Int)) = true := by simp; omega
              have t3 : ((pt : Int) == (j : Int)) = true := by simp; omega
              have HSM := hide (rsame_props p.pr q (.slice Ap p.pr.length cp) (.slice Aq ql cq) wr (Sl.rd HPS.out) (Sl.rd HQS.out) HPL.out (by have := HQL.out; omega))
              have HTO := hide hto
              clear hto
              by_cases hpq : p.pr = q
              · have HSM2 := hide (show Calls Try.prog _ _ _ (fun e w' => e = .returned (.bool true) ∧ ∃ y, w' = wr.drewN y) from by have := HSM.out; rw [decide_eq_true hpq] at this; exact this)
                have HADD := hide (show addP Q j (j + 1) q = K ++ [⟨p.fr, j + 1, q⟩] by
                  rw [HQE.out]
                  exact addP_join (by omega) HQ0.out (by rw [← HPT.out]; exact HTO.out) hpq)
                have HPQ := hide hpq
                clear HSM hpq
                go_wp2_with (go_at_call 69; (with_reducible refine Calls.mono HSM2.out ?_); rintro r w5 ⟨rfl, y, hy⟩; have HB5 := hide (show Below wr.heap.size wr w5 by rw [hy]; exact below_dN2 y); obtain ⟨HOn, r0, r1⟩ := join_facts HO.out HB5.out HNS.out HSK.out (j1 : Int); clear hy)
                have HSn := hide (show sns (S.set k (⟨(spanOf p).lo, (j1 : Int), (spanOf p).pr⟩, .slice Ap p.pr.length cp)) = (K ++ [(⟨p.fr, j + 1, q⟩ : Pc)]).map spanOf from by
                  have h1 := HS.out
                  have h2 := HJ1E.out
                  unfold sns at h1 ⊢
                  rw [List.map_set, h1, HQE.out, List.map_append, List.map_append, List.set_append_right _ _ (by rw [List.length_map, HKL.out]; exact Nat.le_refl _), List.length_map, HKL.out, Nat.sub_self, h2, ← HPQ.out]
                  simp [spanOf])
                go_wp2
                go_roundw
                case rel => exact ⟨j1, _, _, rfl, by have := HJ1.out; have := HJ1E.out; omega, by have := HJT.out; have := HJ1E.out; omega, HOn.out, HSn.out, by rw [HJ1E.out, ← HADD.out]; exact HST.out⟩
                case measure => have := HJT.out; have := HJ1E.out; simp [intOf]; omega
              · have HSM2 := hide (show Calls Try.prog _ _ _ (fun e w' => e = .returned (.bool false) ∧ ∃ y, w' = wr.drewN y) from by have := HSM.out; rw [decide_eq_false hpq] at this; exact this)
                have HADD := hide (show addP Q j (j + 1) q = Q ++ [⟨j, j + 1, q⟩] by
                  rw [HQE.out]
                  exact addP_more (by omega) HQ0.out (fun e => hpq e.2))
                clear HSM hpq
                go_upto_region 9 with (go_at_call 69; (with_reducible refine Calls.mono HSM2.out ?_); rintro r w5 ⟨rfl, y, hy⟩; have HB5 := hide (show Below wr.heap.size wr w5 by rw [hy]; exact below_dN2 y); clear hy)
                have HOq := hide (HO.out.below HB5.out)
                have HQq := hide (HQS.out.below HB5.out)
                have e0 := cell_keep d0 HB5.out
                obtain ⟨wq, hwq⟩ : ∃ y : World, y = w5 := ⟨_, rfl⟩
                rw [← hwq] at HOq HQq e0 ⊢
                clear hwq c0 d0
                have hbE : Below wq.heap.size wq (wq.alloc (.cells #[] 36)) := (Below.refl _ _).alloc (Nat.le_refl _) _
                have he2 : Sl (wq.alloc (.cells #[] 36)) 36 3 (.slice (some ⟨wq.heap.size, 0, none⟩) 0 0) 0 [] := by simpa using Sl.new wq 36 3 #[] 0 0 (Nat.le_refl _) (by simp [maxLen]) (by simp)
                have hr : Rd (wq.alloc (.cells #[] 36)) (.slice Aq ql cq) 3 ql (rows prC q) := by
                  have h1 := (Sl.rd HQq.out).only (Only.of_below hbE) (fun _ _ f => f : ∀ g, _ → ¬ (fun _ : Nat => False) g)
                  rw [← HQL.out] at h1
                  exact h1
                have HBE := hide hbE
                clear hbE e0
                go_wp2_with (at_builtin; refine wpList_append_sl rfl (.tmp 44) (.tmp 45) 32 rfl 36 i0 (.agg #[.int .i64 0, .int .i64 0, .int .i64 0]) 3 24 Try.underlying32 HI.out HZ.out HZ1.out HZ2.out rfl _ 0 [] rfl he2 _ rfl ql (rows prC q) hr (rows_cells fun z _ => prC_one z) ?b1 ?b2 ?_)
                case b1 => unfold maxLen; omega
                case b2 => omega
                intro v1 w1 hsl ho1 hv1
                have HB1 := hide (HBE.out.trans (ho1.below (by simp) fun i hi => by cases hi; exact Nat.le_refl _))
                have HS1 := hide (show PrS w1 v1 q by
                  unfold PrS
                  rw [← HQL.out]
                  simpa using hsl)
                have hsl1 := Sl.form HS1.out
                rw [← HQL.out] at hsl1
                obtain ⟨A1, c1, rfl, _⟩ := hsl1
                clear hsl ho1 hv1 he2 hr
                have HRO := hide (show Sl (w1.alloc (.cells #[.int .i64 (j : Int), .int .i64 (j1 : Int), .slice A1 ql c1] 38)) 38 3 (.slice (some ⟨g2, o2, none⟩) ns co) ns (rows snC S) from by
                  have h1 := HOq.out.inn.row.only (Only.of_below (F := fun _ => False) HB1.out) fun _ _ f => f
                  have h2 := h1.alloc (.cells #[.int .i64 (j : Int), .int .i64 (j1 : Int), .slice A1 ql c1] 38)
                  rw [← HNS.out] at h2
                  exact h2)
                go_wp2_with (at_builtin; refine wpList_append_sl rfl (.tmp 40) (.tmp 48) 34 rfl 38 k0 (.agg #[.int .i64 0, .int .i64 0, .slice none 0 0]) 3 40 Try.underlying34 HJ.out HY.out HY1.out HY2.out rfl (.slice (some ⟨g2, o2, none⟩) ns co) ns (rows snC S) rfl HRO.out _ rfl 1 (snC (⟨(j : Int), (j1 : Int), q⟩, .slice A1 ql c1)) (rd_sn w1 (⟨(j : Int), (j1 : Int), q⟩, .slice A1 ql c1)) (snC_one rfl) ?b1 ?b2 ?_)
                case b1 => unfold maxLen; omega
                case b2 => omega
                intro v2 w2 hs2 ho2 hv2
                have HO2 := hide (show OutS w w2 v2 (S ++ [(⟨(j : Int), (j1 : Int), q⟩, .slice A1 ql c1)]) from OutS.more HOq.out HB1.out HS1.out (by rw [← HNS.out]; exact hs2) ho2 (by rw [World.size_alloc]; exact hv2))
                have HS2 := hide (show sns (S ++ [(⟨(j : Int), (j1 : Int), q⟩, .slice A1 ql c1)]) = (Q ++ [(⟨j, j + 1, q⟩ : Pc)]).map spanOf from by
                  have h1 := HS.out
                  have h2 := HJ1E.out
                  unfold sns at h1 ⊢
                  rw [List.map_append, List.map_append, h1, h2]
                  simp [spanOf])
                obtain ⟨A2, c2, rfl, _⟩ := hs2.form
                clear hs2 ho2 hv2
                go_wp2
                go_roundw
                case rel => exact ⟨j1, _, _, rfl, by have := HJ1.out; have := HJ1E.out; omega, by have := HJT.out; have := HJ1E.out; omega, HO2.out, HS2.out, by rw [HJ1E.out, ← HADD.out]; exact HST.out⟩
                case measure => have := HJT.out; have := HJ1E.out; simp [intOf]; omega
            · have t1 : decide (pt = j) = false := by simpa using hto
              have t2 : decide ((pt : Int) = (j : Int)) = false := by simp; omega
              have t3 : ((pt : Int) == (j : Int)) = false := by simp; omega
              have HADD := hide (show addP Q j (j + 1) q = Q ++ [⟨j, j + 1, q⟩] by
                rw [HQE.out]
                exact addP_more (by omega) HQ0.out (fun e => hto (by rw [HPT.out]; exact e.1)))
              clear hto
              go_upto_region 9 with fail
              have HOq := hide HO.out
              have HQq := hide HQS.out
              have e0 := d0
              obtain ⟨wq, hwq⟩ : ∃ y : World, y = wr := ⟨_, rfl⟩
              rw [← hwq] at HOq HQq e0 ⊢
              clear hwq c0 d0
              have hbE : Below wq.heap.size wq (wq.alloc (.cells #[] 36)) := (Below.refl _ _).alloc (Nat.le_refl _) _
              have he2 : Sl (wq.alloc (.cells #[] 36)) 36 3 (.slice (some ⟨wq.heap.size, 0, none⟩) 0 0) 0 [] := by simpa using Sl.new wq 36 3 #[] 0 0 (Nat.le_refl _) (by simp [maxLen]) (by simp)
              have hr : Rd (wq.alloc (.cells #[] 36)) (.slice Aq ql cq) 3 ql (rows prC q) := by
                have h1 := (Sl.rd HQq.out).only (Only.of_below hbE) (fun _ _ f => f : ∀ g, _ → ¬ (fun _ : Nat => False) g)
                rw [← HQL.out] at h1
                exact h1
              have HBE := hide hbE
              clear hbE e0
              go_wp2_with (at_builtin; refine wpList_append_sl rfl (.tmp 44) (.tmp 45) 32 rfl 36 i0 (.agg #[.int .i64 0, .int .i64 0, .int .i64 0]) 3 24 Try.underlying32 HI.out HZ.out HZ1.out HZ2.out rfl _ 0 [] rfl he2 _ rfl ql (rows prC q) hr (rows_cells fun z _ => prC_one z) ?b1 ?b2 ?_)
              case b1 => unfold maxLen; omega
              case b2 => omega
              intro v1 w1 hsl ho1 hv1
              have HB1 := hide (HBE.out.trans (ho1.below (by simp) fun i hi => by cases hi; exact Nat.le_refl _))
              have HS1 := hide (show PrS w1 v1 q by
                unfold PrS
                rw [← HQL.out]
                simpa using hsl)
              have hsl1 := Sl.form HS1.out
              rw [← HQL.out] at hsl1
              obtain ⟨A1, c1, rfl, _⟩ := hsl1
              clear hsl ho1 hv1 he2 hr
              have HRO := hide (show Sl (w1.alloc (.cells #[.int .i64 (j : Int), .int .i64 (j1 : Int), .slice A1 ql c1] 38)) 38 3 (.slice (some ⟨g2, o2, none⟩) ns co) ns (rows snC S) from by
                have h1 := HOq.out.inn.row.only (Only.of_below (F := fun _ => False) HB1.out) fun _ _ f => f
                have h2 := h1.alloc (.cells #[.int .i64 (j : Int), .int .i64 (j1 : Int), .slice A1 ql c1] 38)
                rw [← HNS.out] at h2
                exact h2)
              go_wp2_with (at_builtin; refine wpList_append_sl rfl (.tmp 40) (.tmp 48) 34 rfl 38 k0 (.agg #[.int .i64 0, .int .i64 0, .slice none 0 0]) 3 40 Try.underlying34 HJ.out HY.out HY1.out HY2.out rfl (.slice (some ⟨g2, o2, none⟩) ns co) ns (rows snC S) rfl HRO.out _ rfl 1 (snC (⟨(j : Int), (j1 : Int), q⟩, .slice A1 ql c1)) (rd_sn w1 (⟨(j : Int), (j1 : Int), q⟩, .slice A1 ql c1)) (snC_one rfl) ?b1 ?b2 ?_)
              case b1 => unfold maxLen; omega
              case b2 => omega
              intro v2 w2 hs2 ho2 hv2
              have HO2 := hide (show OutS w w2 v2 (S ++ [(⟨(j : Int), (j1 : Int), q⟩, .slice A1 ql c1)]) from OutS.more HOq.out HB1.out HS1.out (by rw [← HNS.out]; exact hs2) ho2 (by rw [World.size_alloc]; exact hv2))
              have HS2 := hide (show sns (S ++ [(⟨(j : Int), (j1 : Int), q⟩, .slice A1 ql c1)]) = (Q ++ [(⟨j, j + 1, q⟩ : Pc)]).map spanOf from by
                have h1 := HS.out
                have h2 := HJ1E.out
                unfold sns at h1 ⊢
                rw [List.map_append, List.map_append, h1, h2]
                simp [spanOf])
              obtain ⟨A2, c2, rfl, _⟩ := hs2.form
              clear hs2 ho2 hv2
              go_wp2
              go_roundw
              case rel => exact ⟨j1, _, _, rfl, by have := HJ1.out; have := HJ1E.out; omega, by have := HJT.out; have := HJ1E.out; omega, HO2.out, HS2.out, by rw [HJ1E.out, ← HADD.out]; exact HST.out⟩
              case measure => have := HJT.out; have := HJ1E.out; simp [intOf]; omega
      · have HE := hide (show j = t ∨ ∀ x, j ≤ x → den P x = [] by
          by_cases c : j < t
          · right
            intro x hx
            have h1 := HL.out (x - 1)
            have h2 := HJ1.out
            have h3 := HF1.out
            rw [List.getElem?_eq_none (by rw [lsts_len, ← HN.out]; omega), show x - 1 + 1 = x by omega] at h1
            exact h1.symm
          · left
            omega)
        have HFI := hide (hi.done HG.out.nf hj2 HE.out)
        by_cases hjt' : j < t
        · have z0 : decide (j < t) = true := by simpa using hjt'
          have z1 : decide ((j : Int) < (t : Int)) = true := by simp; omega
          have z2 : (j : Int) < (t : Int) := by omega
          have z3 : decide (j ≤ n) = false := by simp; omega
          have z4 : decide ((j : Int) ≤ (n : Int)) = false := by simp; omega
          have z5 : ¬ (j : Int) ≤ (n : Int) := by omega
          clear hjt hjt' hj1 hj2 ho hs hi hso hcm hns hnq
          go_wp2
          go_ret
          exact ⟨_, S, rfl, HO.out, by rw [HS.out, HFI.out]; exact HFIN.out.symm⟩
        · have z0 : decide (j < t) = false := by simpa using hjt'
          have z1 : decide ((j : Int) < (t : Int)) = false := by simp; omega
          have z2 : ¬ (j : Int) < (t : Int) := by omega
          clear hjt hjt' hj1 hj2 ho hs hi hso hcm hns hnq
          go_wp2
          go_ret
          exact ⟨_, S, rfl, HO.out, by rw [HS.out, HFI.out]; exact HFIN.out.symm⟩
  · rw [decide_eq_false hm] at HMA
    have HE := hide (show spP P a0 b0 0 = [] from if_neg hm)
    clear h hl hg hm
    go_enter Try.func35, Try.ntmps35
    go_wp2_with fail
    refine (Calls.mono HMA.out) ?_
    rintro r w1 ⟨rfl, rfl⟩
    go_wp2
    go_ret
    exact ⟨.slice none 0 0, [], rfl, ⟨Below.refl _ _, ⟨Sl.nil _ _ _, fun p hp => by cases hp⟩, fun g hg => by cases hg⟩, HE.out.symm⟩
end Go.Proofs.Ytgiogmbopiblmaa
