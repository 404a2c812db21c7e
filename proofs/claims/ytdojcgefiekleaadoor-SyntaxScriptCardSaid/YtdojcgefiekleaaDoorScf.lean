/- The scanner's move backward. No condition but those written. -/
import Derived.Test.YtdojcgefiekleaaDoorSce
namespace Go.Proofs.YtdojcgefiekleaaDoor
open Go.RowKit

section
variable {w w' : World} {p : TL} {T : Tb} {v : Value} {L : List Nat}
/-- Where a loop backward stands. -/
structure BRel (T : Tb) (L : List Nat) (R : Ans) (w0 w : World) (p : TL) (v sv bv t : Value) : Prop where
  ex : ∃ (n j : Nat) (S : List Lvl) (top bar : Int), bv = .int .i64 bar ∧ t = .int .i64 (j : Int) ∧ j ≤ L.length ∧ L.length < n + j ∧ S.length ≤ 200 ∧ BckOk S top bar j ∧ bck T 13 5 12 9 L n S top bar j = R ∧ BSt w0 w p v sv S top
theorem BSt.mhead {w0 : World} {sv : Value} {S : List Lvl} {top : Int} (h : BSt w0 w p v sv S top) : ∃ m b off cs, sv = .slice (some ⟨b, off, none⟩) (m + 1) cs ∧ m = S.length ∧ m + 1 ≤ cs := by
  obtain ⟨b, off, cs, h1, h2⟩ := h.head
  exact ⟨_, b, off, cs, h1, rfl, h2⟩
theorem bckOut_inn {a b : Int} {S : List Lvl} {top bar : Int} {j : Nat} (h : BckOk S top bar j) : bckOut a b S top bar = if 0 ≤ (innL S top).2.2 then ((innL S top).2.2.toNat, 0, 0) else if 0 ≤ (innL S top).1 then (0, b, (innL S top).1) else if 0 ≤ bar then (0, b, bar) else (0, a, 0) := by
  cases S with
  | nil =>
    simp [bckOut, innL]
  | cons x S =>
    have hx := h.1 x (List.mem_cons_self ..)
    unfold LvlOk at hx
    simp [bckOut, innL, hx.1]
theorem BckOk.pre {S : List Lvl} {top bar : Int} {i j : Nat} (h : BckOk S top bar i) (hj : i < j) : BckOk (laidIn S top (preA T L i : Int)).1 (laidIn S top (preA T L i : Int)).2 bar j := by
  have := preA_le (T := T) (L := L) i
  exact (h.up (j := j) (by omega)).laid (by omega) (by omega)
theorem BckOk.begin_ {x : Lvl} {S : List Lvl} {top bar : Int} {i j : Nat} (h : BckOk (x :: S) top bar i) (hj : i ≤ j) : BckOk (laidIn S top x.2.1).1 (laidIn S top x.2.1).2 bar j := by
  have hx := h.1 x (List.mem_cons_self ..)
  unfold LvlOk at hx
  exact (h.tail.up hj).laid (by omega) (by omega)
set_option maxRecDepth 100000 in
set_option maxHeartbeats 4000000 in
theorem back_any (h : Scan w p T v L) : Calls Tryd.prog 48 #[scanV p v] w fun e w' => e = .returned (ansV (bck1 T L)) ∧ Below w.heap.size w w' := by
  have hTok := hide h.tab.ok
  obtain ⟨A, c, hv⟩ := h.form
  have HL := hide h.len
  have hn : (L.length : Int) ≤ 1000000000000 := by have := h.len; omega
  have HS := hide (fun W (hW : Below w.heap.size w W) (j : Nat) (hj : j < L.length) => sclass_any (h.below hW) hj)
  have HCm := hide (fun W (hW : Below w.heap.size w W) (j : Nat) (hj : j < L.length) => comment_any (h.below hW) hj)
  have HP := hide (fun W (hW : Below w.heap.size w W) (j : Nat) (hj : j ≤ L.length) => prefixed_any (h.below hW) hj)
  have HQ := hide (fun W (hW : Below w.heap.size w W) (j : Nat) (hj : j < L.length) => quoted_any (h.below hW) hj)
  have HN := hide (fun W (hW : Below w.heap.size w W) (j : Nat) (hj : j ≤ L.length) => name_any (h.below hW) hj)
  have HM := hide (fun W (hW : Below w.heap.size w W) (c : Int) => mate_any (h.tab.below hW) c)
  have HC := hide (fun (j : Nat) (hj : j < L.length) => h.at_ hj)
  obtain ⟨R, hR⟩ : ∃ R, R = bck1 T L := ⟨_, rfl⟩
  have HR := hide hR
  rw [← hR]
  clear hR
  subst hv
  unfold scanV at *
  clear h
  have HB := hide (BSt.start (p := p) (v := .slice A L.length c) w)
  obtain ⟨i0, hi0, hz0, hz1, hz2⟩ := info_parts info_lvl
  go_enter Tryd.func48, Tryd.ntmps48
  go_wp2
  go_loopw [4, 5, 6] (fun sv bv t wr => BRel T L R w wr p (.slice A L.length c) sv bv t) (fun _ _ t _ => L.length - (intOf t).toNat)
  case atStart => exact ⟨L.length + 1, 0, [], -1, -1, rfl, rfl, Nat.zero_le _, by omega, by simp, BckOk.start, HR.out.symm, HB.out⟩
  case round =>
    obtain ⟨n, j, S, top, bar, rfl, rfl, hj, hnj, hS, hok, he, hb⟩ := hrel.ex
    clear hrel
    obtain ⟨n, rfl⟩ : ∃ m, n = m + 1 := ⟨n - 1, by omega⟩
    have HJ := hide hb
    have HE := hide he
    have HOK := hide hok
    have k0 := hb.c0
    have k1 := hb.c1
    obtain ⟨m, b, off, cs, rfl, hm, hcs⟩ := hb.mhead
    obtain ⟨⟨x0, x1, x2⟩, hx⟩ : ∃ x, innL S top = x := ⟨_, rfl⟩
    have HX := hide hx
    have HHD := hide (show ∀ W, Below wr.heap.size wr W → W.cell? ⟨b, off + m * 3, none⟩ = some (.int .i64 x0) ∧ W.cell? ⟨b, off + m * 3 + 1, none⟩ = some (.int .i64 x1) ∧ W.cell? ⟨b, off + m * 3 + 2, none⟩ = some (.int .i64 x2) ∧ W.frozen? ⟨b, off + m * 3 + 2, none⟩ = false from fun W hW => by
      have := hb.hdc W hW
      rw [hx, ← hm] at this
      exact ⟨this.1, this.2.1, this.2.2.1, this.2.2.2 _⟩)
    have HMM := hide hm
    have hm2 : (m : Int) ≤ 200 := by omega
    have hj2 : (j : Int) ≤ 1000000000000 := by omega
    have HLD := hide (show ∀ W (x : Int), BSt w W p (.slice A L.length c) (.slice (some ⟨b, off, none⟩) (m + 1) cs) S top → BSt w (W.setCell ⟨b, off + m * 3 + 2, none⟩ (.int .i64 x)) p (.slice A L.length c) (.slice (some ⟨b, off, none⟩) (m + 1) cs) (laidIn S top x).1 (laidIn S top x).2 from fun W x h => by rw [hm] at h ⊢; exact h.laid x)
    have HST := hide (show ∀ W, BSt w W p (.slice A L.length c) (.slice (some ⟨b, off, none⟩) (m + 1) cs) S top → Sl W 93 3 (.slice (some ⟨b, off, none⟩) (m + 1) cs) (m + 1) (rows lvE (lvs S top)) from fun W h => by have := h.st; rw [← hm] at this; exact this)
    clear hb he hok hx hm hS
    by_cases hl : j < L.length
    · have y1 : decide ((j : Int) < (L.length : Int)) = true := by simp; omega
      by_cases hg : T.at_ L j = 3 ∨ T.at_ L j = 9 ∨ T.at_ L j = 0 ∨ T.at_ L j = 10
      · have HF := hide ((bck_gap hl hg).symm.trans HE.out)
        have HSj := HS.out
        have hg2 := hg
        rcases hg with hk | hk | hk | hk
        all_goals clear hg2
        all_goals go_wp2_with (go_at_call 73; (with_reducible refine Calls.mono (HSj _ HJ.out.bel j hl) ?_); rw [hk]; rintro e w2 ⟨rfl, hb2⟩; have HK := hide (HJ.out.below hb2); obtain ⟨a0, a1, a2, a3⟩ := HHD.out _ hb2; have k0 := HK.out.c0; have k1 := HK.out.c1; have k2 := HK.out.d0; have k3 := HK.out.d1; have k4 := HK.out.e0; have k5 := HK.out.e1; have HB2 := hide hb2; clear hb2)
        all_goals exact ⟨⟨n, j + 1, S, top, bar, rfl, by simp, hl, by omega, by have := HMM.out; omega, HOK.out.up (by omega), HF.out, HK.out⟩, by simp [intOf]; omega⟩
      · by_cases hk : T.at_ L j = 8
        · have hc := cmtF_le (T := T) (L := L) (i := j + 1) (by omega)
          rw [← cmtA_eq] at hc
          have HSj := HS.out
          have hb1 := bck_cmt (a := 13) (b := 5) (c := 12) (d := 9) (n := n) (S := S) (top := top) (bar := bar) hl hk
          have hb0 := bck_cmt_bad (a := 13) (b := 5) (c := 12) (d := 9) (n := n) (S := S) (top := top) (bar := bar) hl hk
          obtain ⟨e, he⟩ : ∃ e, cmtA T L j = e := ⟨_, rfl⟩
          rw [he] at hc hb0 hb1
          have HEE := hide he
          clear he
          have he2 : (e : Int) ≤ 1000000000000 := by omega
          have he3 : (1 : Int) ≤ (e : Int) := by omega
          by_cases e1 : e = L.length
          · have y2 : ((e : Int) == (L.length : Int)) = true := by simp [e1]
            by_cases hq : T.at_ L (e - 1) = 9
            · have HF := hide ((hb1 (fun h => h.2 hq)).symm.trans HE.out)
              have HE1 := hide e1
              have z1 : (T.at_ L (e - 1) != 9) = false := by simp [hq]
              have z2 : (T.at_ L (e - 1) == 9) = true := by simp [hq]
              clear hb0 hb1 e1
              go_wp2_with (first | (go_at_call 73; (with_reducible refine Calls.mono (HSj _ HJ.out.bel j hl) ?_); rw [hk]; rintro e w2 ⟨rfl, hb2⟩; have HK := hide (HJ.out.below hb2); obtain ⟨a0, a1, a2, a3⟩ := HHD.out _ hb2; have k0 := HK.out.c0; have k1 := HK.out.c1; have k2 := HK.out.d0; have k3 := HK.out.d1; have k4 := HK.out.e0; have k5 := HK.out.e1; have HB2 := hide hb2; clear hb2) | (go_at_call 76; (with_reducible refine Calls.mono (HCm.out _ HK.out.bel j hl) ?_); rw [HEE.out]; rintro r w3 ⟨rfl, hb3⟩; have HM3 := hide (HK.out.below hb3); have m0 := HM3.out.c0; have m1 := HM3.out.c1; have m2 := HM3.out.d0; have m3 := HM3.out.d1; have m4 := HM3.out.e0; have m5 := HM3.out.e1; clear hb3) | (go_at_call 73; rw [show ((e : Int) - 1) = ((e - 1 : Nat) : Int) from by omega]; (with_reducible refine Calls.mono (HSj _ HM3.out.bel (e - 1) (by omega)) ?_); rintro r w4 ⟨rfl, hb4⟩; have HM4 := hide (HM3.out.below hb4); have n0 := HM4.out.c0; have n1 := HM4.out.c1; have n2 := HM4.out.d0; have n3 := HM4.out.d1; have n4 := HM4.out.e0; have n5 := HM4.out.e1; clear hb4))
              exact ⟨⟨n, e, S, top, bar, rfl, rfl, hc.2, by omega, by have := HMM.out; omega, HOK.out.up (by omega), HF.out, HM4.out⟩, by simp [intOf]; omega⟩
            · have HF := hide ((hb0 ⟨e1, hq⟩).symm.trans HE.out)
              have HE1 := hide e1
              have z1 : (T.at_ L (e - 1) != 9) = true := by simpa using hq
              have z2 : (T.at_ L (e - 1) == 9) = false := by simpa using hq
              clear hb0 hb1 e1
              go_wp2_with (first | (go_at_call 73; (with_reducible refine Calls.mono (HSj _ HJ.out.bel j hl) ?_); rw [hk]; rintro e w2 ⟨rfl, hb2⟩; have HK := hide (HJ.out.below hb2); obtain ⟨a0, a1, a2, a3⟩ := HHD.out _ hb2; have k0 := HK.out.c0; have k1 := HK.out.c1; have k2 := HK.out.d0; have k3 := HK.out.d1; have k4 := HK.out.e0; have k5 := HK.out.e1; have HB2 := hide hb2; clear hb2) | (go_at_call 76; (with_reducible refine Calls.mono (HCm.out _ HK.out.bel j hl) ?_); rw [HEE.out]; rintro r w3 ⟨rfl, hb3⟩; have HM3 := hide (HK.out.below hb3); have m0 := HM3.out.c0; have m1 := HM3.out.c1; have m2 := HM3.out.d0; have m3 := HM3.out.d1; have m4 := HM3.out.e0; have m5 := HM3.out.e1; clear hb3) | (go_at_call 73; rw [show ((e : Int) - 1) = ((e - 1 : Nat) : Int) from by omega]; (with_reducible refine Calls.mono (HSj _ HM3.out.bel (e - 1) (by omega)) ?_); rintro r w4 ⟨rfl, hb4⟩; have HM4 := hide (HM3.out.below hb4); have n0 := HM4.out.c0; have n1 := HM4.out.c1; have n2 := HM4.out.d0; have n3 := HM4.out.d1; have n4 := HM4.out.e0; have n5 := HM4.out.e1; clear hb4))
              refine bodyPost_ret (results_tmp_cell rfl _ _ (w.heap.size + 1) 40 _ (0, 0) _ rfl (HM4.out.fin _ _).1 Tryd.underlying40 rfl (by kernel_rfl)) rfl ?_
              exact ⟨by rw [← HF.out]; rfl, (HM4.out.fin _ _).2⟩
          · have y2 : ((e : Int) == (L.length : Int)) = false := by simp; omega
            have HF := hide ((hb1 (fun h => e1 h.1)).symm.trans HE.out)
            clear hb0 hb1
            go_wp2_with (first | (go_at_call 73; (with_reducible refine Calls.mono (HSj _ HJ.out.bel j hl) ?_); rw [hk]; rintro e w2 ⟨rfl, hb2⟩; have HK := hide (HJ.out.below hb2); obtain ⟨a0, a1, a2, a3⟩ := HHD.out _ hb2; have k0 := HK.out.c0; have k1 := HK.out.c1; have k2 := HK.out.d0; have k3 := HK.out.d1; have k4 := HK.out.e0; have k5 := HK.out.e1; have HB2 := hide hb2; clear hb2) | (go_at_call 76; (with_reducible refine Calls.mono (HCm.out _ HK.out.bel j hl) ?_); rw [HEE.out]; rintro r w3 ⟨rfl, hb3⟩; have HM3 := hide (HK.out.below hb3); have m0 := HM3.out.c0; have m1 := HM3.out.c1; have m2 := HM3.out.d0; have m3 := HM3.out.d1; have m4 := HM3.out.e0; have m5 := HM3.out.e1; clear hb3))
            exact ⟨⟨n, e, S, top, bar, rfl, rfl, hc.2, by omega, by have := HMM.out; omega, HOK.out.up (by omega), HF.out, HM3.out⟩, by simp [intOf]; omega⟩
        · by_cases hk6 : T.at_ L j = 6
          · have hk := hk6
            have HSj := HS.out
            have HPj := HP.out
            cases hq : quoA T L j with
            | none =>
              have HQn := hide (show ∀ W, Below w.heap.size w W → Calls Tryd.prog 74 #[.agg #[.pointer (some ⟨p.t, 0, none⟩), .slice A L.length c], .int .i64 (j : Int)] W fun e w' => e = .returned (.tuple #[.int .i64 0, .bool false]) ∧ Below W.heap.size W w' from fun W hW => by have := HQ.out W hW j hl; rw [hq] at this; exact this)
              have HF := hide ((bck_str_bad hl hk hq).symm.trans HE.out)
              clear hq
              go_wp2_with (first | (go_at_call 73; (with_reducible refine Calls.mono (HSj _ HJ.out.bel j hl) ?_); rw [hk]; rintro e w2 ⟨rfl, hb2⟩; have HK := hide (HJ.out.below hb2); obtain ⟨a0, a1, a2, a3⟩ := HHD.out _ hb2; have k0 := HK.out.c0; have k1 := HK.out.c1; have k2 := HK.out.d0; have k3 := HK.out.d1; have k4 := HK.out.e0; have k5 := HK.out.e1; have HB2 := hide hb2; clear hb2) | (go_at_call 74; (with_reducible refine Calls.mono (HQn.out _ HK.out.bel) ?_); rintro r w3 ⟨rfl, hb3⟩; have HM3 := hide (HK.out.below hb3); have HB3 := hide (HB2.out.trans (hb3.mono HB2.out.size)); have m0 := HM3.out.c0; have m1 := HM3.out.c1; have m2 := HM3.out.d0; have m3 := HM3.out.d1; have m4 := HM3.out.e0; have m5 := HM3.out.e1; clear hb3))
              refine bodyPost_ret (results_tmp_cell rfl _ _ (w.heap.size + 1) 40 _ (0, 0) _ rfl (HM3.out.fin _ _).1 Tryd.underlying40 rfl (by kernel_rfl)) rfl ?_
              exact ⟨by rw [← HF.out]; rfl, (HM3.out.fin _ _).2⟩
            | some q =>
              have hq2 := hq
              rw [quoA_eq] at hq2
              have hq3 := quoF_le hq2
              have HQn := hide (show ∀ W, Below w.heap.size w W → Calls Tryd.prog 74 #[.agg #[.pointer (some ⟨p.t, 0, none⟩), .slice A L.length c], .int .i64 (j : Int)] W fun e w' => e = .returned (.tuple #[.int .i64 (q : Int), .bool true]) ∧ Below W.heap.size W w' from fun W hW => by have := HQ.out W hW j hl; rw [hq] at this; exact this)
              have HF := hide ((bck_str hl hk hq).symm.trans HE.out)
              clear hq hq2
              go_wp2_with (first | (go_at_call 73; (with_reducible refine Calls.mono (HSj _ HJ.out.bel j hl) ?_); rw [hk]; rintro e w2 ⟨rfl, hb2⟩; have HK := hide (HJ.out.below hb2); obtain ⟨a0, a1, a2, a3⟩ := HHD.out _ hb2; have k0 := HK.out.c0; have k1 := HK.out.c1; have k2 := HK.out.d0; have k3 := HK.out.d1; have k4 := HK.out.e0; have k5 := HK.out.e1; have HB2 := hide hb2; clear hb2) | (go_at_call 74; (with_reducible refine Calls.mono (HQn.out _ HK.out.bel) ?_); rintro r w3 ⟨rfl, hb3⟩; have HM3 := hide (HK.out.below hb3); have HB3 := hide (HB2.out.trans (hb3.mono HB2.out.size)); have m0 := HM3.out.c0; have m1 := HM3.out.c1; have m2 := HM3.out.d0; have m3 := HM3.out.d1; have m4 := HM3.out.e0; have m5 := HM3.out.e1; clear hb3) | (go_at_call 77; (with_reducible refine Calls.mono (HPj _ HM3.out.bel j hj) ?_); rintro r w5 ⟨rfl, hb5⟩; have HM5 := hide (HM3.out.below hb5); have HB5 := hide (HB3.out.trans (hb5.mono HB3.out.size)); obtain ⟨g0, g1, g2, g3⟩ := HHD.out _ HB5.out; have n0 := HM5.out.c0; have n1 := HM5.out.c1; have n2 := HM5.out.d0; have n3 := HM5.out.d1; have n4 := HM5.out.e0; have n5 := HM5.out.e1; clear hb5))
              exact ⟨⟨n, q, _, _, bar, rfl, rfl, hq3.2, by omega, by rw [laid_len, ← HMM.out]; omega, HOK.out.pre (by omega), HF.out, HLD.out _ _ HM5.out⟩, by simp [intOf]; omega⟩
          · by_cases hk4 : T.at_ L j = 4
            · have hk := hk4
              have HSj := HS.out
              have HPj := HP.out
              by_cases h2 : 200 ≤ m
              · have y2 : decide ((200 : Int) < (m : Int) + 1) = true := by simp; omega
                have HF := hide ((bck_deep hl hk (by rw [← HMM.out]; exact h2)).symm.trans HE.out)
                go_wp2_with (first | (go_at_call 73; (with_reducible refine Calls.mono (HSj _ HJ.out.bel j hl) ?_); rw [hk]; rintro e w2 ⟨rfl, hb2⟩; have HK := hide (HJ.out.below hb2); obtain ⟨a0, a1, a2, a3⟩ := HHD.out _ hb2; have k0 := HK.out.c0; have k1 := HK.out.c1; have k2 := HK.out.d0; have k3 := HK.out.d1; have k4 := HK.out.e0; have k5 := HK.out.e1; have HB2 := hide hb2; clear hb2))
                refine bodyPost_ret (results_tmp_cell rfl _ _ (w.heap.size + 1) 40 _ (0, 0) _ rfl (HK.out.fin _ _).1 Tryd.underlying40 rfl (by kernel_rfl)) rfl ?_
                exact ⟨by rw [← HF.out]; rfl, (HK.out.fin _ _).2⟩
              · have y2 : decide ((200 : Int) < (m : Int) + 1) = false := by simp; omega
                have HF := hide ((bck_open hl hk (by rw [← HMM.out]; omega)).symm.trans HE.out)
                go_wp2_with (first | (go_at_call 73; (with_reducible refine Calls.mono (HSj _ HJ.out.bel j hl) ?_); rw [hk]; rintro e w2 ⟨rfl, hb2⟩; have HK := hide (HJ.out.below hb2); obtain ⟨a0, a1, a2, a3⟩ := HHD.out _ hb2; have k0 := HK.out.c0; have k1 := HK.out.c1; have k2 := HK.out.d0; have k3 := HK.out.d1; have k4 := HK.out.e0; have k5 := HK.out.e1; have HB2 := hide hb2; clear hb2) | (go_at_call 77; (with_reducible refine Calls.mono (HPj _ HK.out.bel j hj) ?_); rintro r w5 ⟨rfl, hb5⟩; have HM5 := hide (HK.out.below hb5); have HB5 := hide (HB2.out.trans (hb5.mono HB2.out.size)); obtain ⟨g0, g1, g2, g3⟩ := HHD.out _ HB5.out; have n0 := HM5.out.c0; have n1 := HM5.out.c1; have n2 := HM5.out.d0; have n3 := HM5.out.d1; have n4 := HM5.out.e0; have n5 := HM5.out.e1; clear hb5) | (at_builtin; refine wpList_append_sl rfl (.tmp 90) (.tmp 96) 94 rfl 93 i0 (.agg #[.int .i64 0, .int .i64 0, .int .i64 0]) 3 24 Tryd.underlying94 hi0 hz0 hz1 hz2 rfl _ (m + 1) (rows lvE (lvs S top)) rfl ((HST.out _ HM5.out).alloc _) _ rfl 1 (lvE ((j : Int), (preA T L j : Int), -1)) (rd_elem _ _ 3 _ rfl) ?one ?b1 ?b2 ?_))
                case one => intro u hu; simp [lvE] at hu; rcases hu with rfl | rfl | rfl <;> rfl
                case b1 => unfold maxLen; omega
                case b2 => omega
                intro v' w' hsl' honly hv'
                have HL2 := hide hsl'
                have HY2 := hide honly
                have HV2 := hide hv'
                clear hsl' honly hv'
                go_wp2
                refine ⟨⟨n, j + 1, _ :: S, top, bar, rfl, by simp, hl, by omega, by simp; have := HMM.out; omega, HOK.out.open_, HF.out, ?_⟩, by simp [intOf]; omega⟩
                refine HM5.out.push (by rw [← HMM.out]; exact HL2.out) (((Only.refl _ _).alloc _).trans HY2.out) (HV2.out.imp id fun e => ⟨_, e, ?_⟩)
                first | omega | (rw [World.size_alloc]; omega)
            · by_cases hk5 : T.at_ L j = 5
              · have hk := hk5
                have HSj := HS.out
                cases S with
                | nil =>
                  have hx0 : x0 = -1 ∧ x1 = -1 ∧ x2 = top := by
                    have := HX.out
                    simp only [innL, Prod.mk.injEq] at this
                    omega
                  obtain ⟨rfl, rfl, rfl⟩ := hx0
                  have HF := hide ((bck_close0 hl hk).symm.trans HE.out)
                  go_wp2_with (first | (go_at_call 73; (with_reducible refine Calls.mono (HSj _ HJ.out.bel j hl) ?_); rw [hk]; rintro e w2 ⟨rfl, hb2⟩; have HK := hide (HJ.out.below hb2); obtain ⟨a0, a1, a2, a3⟩ := HHD.out _ hb2; have k0 := HK.out.c0; have k1 := HK.out.c1; have k2 := HK.out.d0; have k3 := HK.out.d1; have k4 := HK.out.e0; have k5 := HK.out.e1; have HB2 := hide hb2; clear hb2))
                  go_quiet (fail)
                  go_wp2
                  exact ⟨⟨n, j + 1, [], -1, j, rfl, by simp, hl, by omega, by simp, HOK.out.wall, HF.out, (HK.out.drewN _).wall⟩, by simp [intOf]; omega⟩
                | cons x rest =>
                  have hxl := HOK.out.1 x (List.mem_cons_self ..)
                  unfold LvlOk at hxl
                  obtain ⟨o, ho⟩ : ∃ o : Nat, (o : Int) = x0 := ⟨x0.toNat, by have := HX.out; simp only [innL] at this; rw [this] at hxl; simp only [] at hxl; omega⟩
                  obtain ⟨m, rfl⟩ : ∃ m', m = m' + 1 := ⟨rest.length, by have := HMM.out; simpa using this⟩
                  subst ho
                  have hol : o < L.length := by have := HX.out; simp only [innL] at this; rw [this] at hxl; simp only [] at hxl; omega
                  have hxo : x.1.toNat = o := by have := HX.out; simp only [innL] at this; rw [this]; simp
                  obtain ⟨lb, lo, lc, hv, hcell⟩ := HC.out j hl
                  injection hv with h1 _ h3
                  subst h1 h3
                  obtain ⟨cg, hcg⟩ : ∃ cg : Int, cg = ((L.getD j 0 : Nat) : Int) := ⟨_, rfl⟩
                  obtain ⟨co, hco⟩ : ∃ co : Int, co = ((L.getD o 0 : Nat) : Int) := ⟨_, rfl⟩
                  have HLC := hide (show ∀ W, Below w.heap.size w W → W.cell? ⟨lb, lo + j, none⟩ = some (.int .i64 cg) ∧ W.cell? ⟨lb, lo + o, none⟩ = some (.int .i64 co) from fun W hW => ⟨hcg ▸ hcell W hW j hl, hco ▸ hcell W hW o hol⟩)
                  clear hcell HC
                  have z1 : (o : Int) < (L.length : Int) := by omega
                  have z2 : (j : Int) < (L.length : Int) := by omega
                  have z3 : (0 : Int) ≤ (o : Int) := by omega
                  have z4 : decide ((o : Int) < 0) = false := by simp
                  cases hm : (cg == T.mate co)
                  · have HF := hide ((bck_close_bad (S := rest) (x := x) hl hk (by rw [hxo, ← hcg, ← hco]; simpa using hm)).symm.trans HE.out)
                    have hm2 : (cg != T.mate co) = true := by simpa using hm
                    have hm4 : ¬ cg = T.mate co := by simpa using hm
                    have hm5 : ¬ (0 ≤ (o : Int) ∧ (cg != T.mate co) = false) := by simpa using hm4
                    clear hcg hco hxl
                    go_wp2_with (first | (go_at_call 73; (with_reducible refine Calls.mono (HSj _ HJ.out.bel j hl) ?_); rw [hk]; rintro e w2 ⟨rfl, hb2⟩; have HK := hide (HJ.out.below hb2); obtain ⟨a0, a1, a2, a3⟩ := HHD.out _ hb2; have k0 := HK.out.c0; have k1 := HK.out.c1; have k2 := HK.out.d0; have k3 := HK.out.d1; have k4 := HK.out.e0; have k5 := HK.out.e1; have HB2 := hide hb2; clear hb2))
                    have HKEEP := hide (fun W (hW : Below w2.heap.size w2 W) => And.intro ((HK.out.below hW).c0) (And.intro ((HK.out.below hW).c1) (And.intro (HHD.out W (HB2.out.trans (hW.mono HB2.out.size))).1 (And.intro (HLC.out W (HK.out.bel.trans (hW.mono HK.out.bel.size))).1 (HLC.out W (HK.out.bel.trans (hW.mono HK.out.bel.size))).2))))
                    have HR0 := hide (Below.refl w2.heap.size w2)
                    go_region_held3 (fun w' => w'.cell? ⟨w.heap.size, 0, none⟩ = some (.pointer (some ⟨p.t, 0, none⟩)) ∧ w'.cell? ⟨w.heap.size, 1, none⟩ = some (.slice (some ⟨lb, lo, none⟩) L.length c) ∧ w'.cell? ⟨b, off + (m + 1) * 3, none⟩ = some (.int .i64 (o : Int)) ∧ w'.cell? ⟨lb, lo + j, none⟩ = some (.int .i64 cg) ∧ w'.cell? ⟨lb, lo + o, none⟩ = some (.int .i64 co))
                      (first | exact HKEEP.out _ HR0.out.drew | exact HKEEP.out _ (HR0.out.drew.trans hb5))
                      (first | (go_at_call 29; (with_reducible refine Calls.mono (HM.out _ (HK.out.bel.trans (HR0.out.drew.mono HK.out.bel.size)) co) ?_); rintro r w5 ⟨rfl, hb5⟩))
                    have HM5 := hide (HK.out.below (HR0.out.drew.trans hb5))
                    have HB5 := hide (HB2.out.trans ((HR0.out.drew.trans hb5).mono HB2.out.size))
                    obtain ⟨q0, q1, q2, q3⟩ := HHD.out _ HB5.out
                    have v0 := HM5.out.c0
                    have v1 := HM5.out.c1
                    clear hb5
                    go_wp2
                    exact ⟨⟨n, j + 1, [], -1, j, rfl, by simp, hl, by omega, by simp, HOK.out.wall, HF.out, HM5.out.wall⟩, by simp [intOf]; omega⟩
                  · have HF := hide ((bck_close (S := rest) (x := x) hl hk (by rw [hxo, ← hcg, ← hco]; simpa using hm)).symm.trans HE.out)
                    have hm2 : (cg != T.mate co) = false := by simpa using hm
                    have hm5 : 0 ≤ (o : Int) ∧ (cg != T.mate co) = false := ⟨by omega, hm2⟩
                    have hm6 : ¬ ((o : Int) < 0 ∨ (cg != T.mate co) = true) := by rw [hm2]; simp
                    clear hcg hco hxl
                    go_wp2_with (first | (go_at_call 73; (with_reducible refine Calls.mono (HSj _ HJ.out.bel j hl) ?_); rw [hk]; rintro e w2 ⟨rfl, hb2⟩; have HK := hide (HJ.out.below hb2); obtain ⟨a0, a1, a2, a3⟩ := HHD.out _ hb2; have k0 := HK.out.c0; have k1 := HK.out.c1; have k2 := HK.out.d0; have k3 := HK.out.d1; have k4 := HK.out.e0; have k5 := HK.out.e1; have HB2 := hide hb2; clear hb2))
                    have HKEEP := hide (fun W (hW : Below w2.heap.size w2 W) => And.intro ((HK.out.below hW).c0) (And.intro ((HK.out.below hW).c1) (And.intro (HHD.out W (HB2.out.trans (hW.mono HB2.out.size))).1 (And.intro (HLC.out W (HK.out.bel.trans (hW.mono HK.out.bel.size))).1 (HLC.out W (HK.out.bel.trans (hW.mono HK.out.bel.size))).2))))
                    have HR0 := hide (Below.refl w2.heap.size w2)
                    go_region_held3 (fun w' => w'.cell? ⟨w.heap.size, 0, none⟩ = some (.pointer (some ⟨p.t, 0, none⟩)) ∧ w'.cell? ⟨w.heap.size, 1, none⟩ = some (.slice (some ⟨lb, lo, none⟩) L.length c) ∧ w'.cell? ⟨b, off + (m + 1) * 3, none⟩ = some (.int .i64 (o : Int)) ∧ w'.cell? ⟨lb, lo + j, none⟩ = some (.int .i64 cg) ∧ w'.cell? ⟨lb, lo + o, none⟩ = some (.int .i64 co))
                      (first | exact HKEEP.out _ HR0.out.drew | exact HKEEP.out _ (HR0.out.drew.trans hb5))
                      (first | (go_at_call 29; (with_reducible refine Calls.mono (HM.out _ (HK.out.bel.trans (HR0.out.drew.mono HK.out.bel.size)) co) ?_); rintro r w5 ⟨rfl, hb5⟩))
                    have HM5 := hide (HK.out.below (HR0.out.drew.trans hb5))
                    have HB5 := hide (HB2.out.trans ((HR0.out.drew.trans hb5).mono HB2.out.size))
                    obtain ⟨q0, q1, q2, q3⟩ := HHD.out _ HB5.out
                    have v0 := HM5.out.c0
                    have v1 := HM5.out.c1
                    clear hb5
                    have HPP := hide (show BSt w w5 p (.slice (some ⟨lb, lo, none⟩) L.length c) (.slice (some ⟨b, off, none⟩) (m + 1) cs) rest top from by have := HM5.out.pop; rw [show rest.length = m from by have := HMM.out; simpa using this.symm] at this; exact this)
                    have HPL := hide (show BSt w (w5.setCell ⟨b, off + m * 3 + 2, none⟩ (.int .i64 x1)) p (.slice (some ⟨lb, lo, none⟩) L.length c) (.slice (some ⟨b, off, none⟩) (m + 1) cs) (laidIn rest top x1).1 (laidIn rest top x1).2 from by have := HPP.out.laid x1; rw [show rest.length = m from by have := HMM.out; simpa using this.symm] at this; exact this)
                    have HPC := hide (show (∃ u, w5.cell? ⟨b, off + m * 3 + 2, none⟩ = some u) ∧ w5.frozen? ⟨b, off + m * 3 + 2, none⟩ = false from by have := HPP.out.hdc w5 (Below.refl _ _); rw [show rest.length = m from by have := HMM.out; simpa using this.symm] at this; exact ⟨⟨_, this.2.2.1⟩, this.2.2.2 _⟩)
                    obtain ⟨⟨u, s0⟩, s1⟩ := HPC.out
                    go_wp2
                    have hx1 : x.2.1 = x1 := by have := HX.out; simp only [innL] at this; rw [this]
                    exact ⟨⟨n, j + 1, _, _, bar, rfl, by simp, hl, by omega, by rw [laid_len]; have := HMM.out; simp at this; omega, HOK.out.begin_ (by omega), HF.out, by rw [hx1]; exact HPL.out⟩, by simp [intOf]; omega⟩
              · have HSj := HS.out
                have HPj := HP.out
                have HNj := HN.out
                have hnm := name_more hTok.out hl hk hg hk4 hk5 hk6
                have hnl := nameA_le (T := T) (L := L) (i := j) hj
                have hr := at_range (L := L) hTok.out j
                have HF := hide ((bck_name hl (show T.at_ L j = 1 ∨ T.at_ L j = 2 ∨ T.at_ L j = 7 by omega)).symm.trans HE.out)
                have g3 : (T.at_ L j == 3) = false := by simp; omega
                have g9 : (T.at_ L j == 9) = false := by simp; omega
                have g0 : (T.at_ L j == 0) = false := by simp; omega
                have g10 : (T.at_ L j == 10) = false := by simp; omega
                have g8 : (T.at_ L j == 8) = false := by simp; omega
                have g6 : (T.at_ L j == 6) = false := by simp; omega
                have g4 : (T.at_ L j == 4) = false := by simp; omega
                have g5 : (T.at_ L j == 5) = false := by simp; omega
                have HNM := hide hnm
                have HNL := hide hnl
                clear hg hk hk4 hk5 hk6 hnm hnl hr
                go_wp2_with (first | (go_at_call 73; (with_reducible refine Calls.mono (HSj _ HJ.out.bel j hl) ?_); rintro e w2 ⟨rfl, hb2⟩; have HK := hide (HJ.out.below hb2); obtain ⟨a0, a1, a2, a3⟩ := HHD.out _ hb2; have k0 := HK.out.c0; have k1 := HK.out.c1; have k2 := HK.out.d0; have k3 := HK.out.d1; have k4 := HK.out.e0; have k5 := HK.out.e1; have HB2 := hide hb2; clear hb2))
                have HKEEP := hide (fun W (hW : Below w2.heap.size w2 W) => And.intro ((HK.out.below hW).c0) ((HK.out.below hW).c1))
                have HR0 := hide (Below.refl w2.heap.size w2)
                have HKd := hide (HK.out.below HR0.out.drew)
                have HBd := hide (HB2.out.trans (HR0.out.drew.mono HB2.out.size))
                go_region_held3 (fun w' => w'.cell? ⟨w.heap.size, 0, none⟩ = some (.pointer (some ⟨p.t, 0, none⟩)) ∧ w'.cell? ⟨w.heap.size, 1, none⟩ = some (.slice A L.length c))
                  (first | exact HKEEP.out _ HR0.out.drew | exact ⟨HM5.out.c0, HM5.out.c1⟩ | exact ⟨HM6.out.c0, HM6.out.c1⟩ | exact ⟨(HLD.out _ _ HM6.out).c0, (HLD.out _ _ HM6.out).c1⟩)
                  (first | (go_at_call 77; (with_reducible refine Calls.mono (HPj _ HKd.out.bel j hj) ?_); rintro r w5 ⟨rfl, hb5⟩; have HM5 := hide (HKd.out.below hb5); have HB5 := hide (HBd.out.trans (hb5.mono HBd.out.size)); obtain ⟨g0, g1, g2, g3⟩ := HHD.out _ HB5.out; have n0 := HM5.out.c0; have n1 := HM5.out.c1; have n2 := HM5.out.d0; have n3 := HM5.out.d1; have n4 := HM5.out.e0; have n5 := HM5.out.e1; clear hb5) | (go_at_call 75; (with_reducible refine Calls.mono (HNj _ HM5.out.bel j hj) ?_); rintro r w6 ⟨rfl, hb6⟩; have HM6 := hide (HM5.out.below hb6); obtain ⟨p0, p1, p2, p3⟩ := HHD.out _ (HB5.out.trans (hb6.mono HB5.out.size)); clear hb6))
                go_wp2
                have hnm := HNM.out
                have hnl := HNL.out
                exact ⟨⟨n, nameA T L j, _, _, bar, rfl, rfl, hnl.2, by omega, by rw [laid_len, ← HMM.out]; omega, HOK.out.pre (by omega), HF.out, HLD.out _ _ HM6.out⟩, by simp [intOf]; omega⟩
    · have y1 : decide ((j : Int) < (L.length : Int)) = false := by simp; omega
      have HF := hide ((bck_end (show L.length ≤ j by omega)).symm.trans HE.out)
      obtain ⟨a0, a1, a2, a3⟩ := HHD.out _ (Below.refl _ _)
      have d0 := HJ.out.d0
      have d1 := HJ.out.d1
      have e0 := HJ.out.e0
      have e1 := HJ.out.e1
      have H2 := hide (HJ.out.below ((Below.refl _ _).alloc (Nat.le_refl _) (.cells #[.int .i64 x0, .int .i64 x1, .int .i64 x2] 93)))
      have l0 := H2.out.d0
      have l1 := H2.out.d1
      have l2 := H2.out.e0
      have l3 := H2.out.e1
      have hbo := bckOut_inn (a := 13) (b := 5) HOK.out
      rw [HX.out, HF.out] at hbo
      simp only [] at hbo
      by_cases q2 : 0 ≤ x2
      · rw [if_pos q2] at hbo
        have HBO := hide hbo
        clear hbo
        go_wp2
        refine bodyPost_ret (results_tmp_cell rfl _ _ (w.heap.size + 1) 40 _ (0, 0) _ rfl (H2.out.fin _ _).1 Tryd.underlying40 rfl (by kernel_rfl)) rfl ?_
        refine ⟨?_, (H2.out.fin _ _).2⟩
        rw [HBO.out]
        unfold ansV
        simp only []
        rw [Int.toNat_of_nonneg q2]
        rfl
      · rw [if_neg q2] at hbo
        by_cases q0 : 0 ≤ x0
        · rw [if_pos q0] at hbo
          have HBO := hide hbo
          clear hbo
          go_wp2
          go_region
          all_goals go_wp2
          all_goals refine bodyPost_ret (results_tmp_cell rfl _ _ (w.heap.size + 1) 40 _ (0, 0) _ rfl ((H2.out.drewN _).fin _ _).1 Tryd.underlying40 rfl (by kernel_rfl)) rfl ?_
          all_goals exact ⟨by rw [HBO.out]; rfl, ((H2.out.drewN _).fin _ _).2⟩
        · rw [if_neg q0] at hbo
          by_cases qb : 0 ≤ bar
          · rw [if_pos qb] at hbo
            have HBO := hide hbo
            clear hbo
            go_wp2
            refine bodyPost_ret (results_tmp_cell rfl _ _ (w.heap.size + 1) 40 _ (0, 0) _ rfl (H2.out.fin _ _).1 Tryd.underlying40 rfl (by kernel_rfl)) rfl ?_
            exact ⟨by rw [HBO.out]; rfl, (H2.out.fin _ _).2⟩
          · rw [if_neg qb] at hbo
            have HBO := hide hbo
            clear hbo
            go_wp2
            refine bodyPost_ret (results_tmp_cell rfl _ _ (w.heap.size + 1) 40 _ (0, 0) _ rfl (H2.out.fin _ _).1 Tryd.underlying40 rfl (by kernel_rfl)) rfl ?_
            exact ⟨by rw [HBO.out]; rfl, (H2.out.fin _ _).2⟩
end
end Go.Proofs.YtdojcgefiekleaaDoor
