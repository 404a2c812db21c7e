/- The reference's Sexps. No condition but those written. -/
import Derived.Test.YtdojcgefiekleaaDoorSee
import Derived.Test.YtdojcgefiekleaaDoorSei
import Derived.Test.YtdojcgefiekleaaDoorSch
namespace Go.Proofs.YtdojcgefiekleaaDoor
open Go.RowKit

section
variable {w : World} {r : Nat} {T : Tb}
theorem rl_sl {s : ByteArray} {w : World} (hs : s.size * 8 ≤ 140737488355328) {L : List Nat} (hc : charsL s.data.toList = some L) : Calls Tryd.prog 12 #[.string s] w fun e w' => ∃ A c, e = .returned (.tuple #[.slice A L.length c, .int .i64 0]) ∧ Below w.heap.size w w' ∧ Rd w' (.slice A L.length c) 1 L.length (ints L) ∧ L.length ≤ c ∧ c ≤ maxLen := by
  refine (list_any s w hs).mono ?_
  rintro e w' ⟨hb, hm⟩
  rw [hc] at hm
  obtain ⟨v, he, hs, _⟩ := hm
  obtain ⟨A, c, rfl, h1, h2⟩ := hs.form
  exact ⟨A, c, he, hb, hs.rd, h1, h2⟩
/-- A move's answer, as Sexps keeps it. -/
def Kept (X : Ans) (F : Nat → Nat → Ans) (n N k a : Nat) (f1 f2 : Int) : Prop := (f1 = 0 ∧ f2 = 0 ∧ a ≤ n ∧ F (N - k) a = X) ∨ (f1 ≠ 0 ∧ X = (0, f1, f2))
set_option maxRecDepth 100000 in
set_option maxHeartbeats 8000000 in
theorem rsexps_bad (h : RT w r T) (s : ByteArray) (hs : s.size ≤ 1000000) (at_ n : Int) (hbad : charsL s.data.toList = none ∨ ∃ L, charsL s.data.toList = some L ∧ (at_ < 0 ∨ (L.length : Int) < at_)) : Calls Tryd.prog 34 #[.pointer (some ⟨r, 0, none⟩), .string s, .int .i64 at_, .int .i64 n] w fun e w' => e = .returned (ansV (sexpsR T s at_ n)) ∧ Below w.heap.size w w' := by
  have hb0 := below_box w (.cells #[.int .i64 0, .int .i64 0] 40)
  have HB0 := hide hb0
  have HRB := hide (Blk.new w 40 #[.int .i64 0, .int .i64 0])
  have HT := hide (h.below hb0)
  obtain ⟨w1, hw1⟩ : ∃ y : World, y = w.alloc (.cells #[.int .i64 0, .int .i64 0] 40) := ⟨_, rfl⟩
  have HW1 := hide hw1
  rw [← hw1] at HRB HT HB0
  clear hb0 hw1
  rcases hbad with hc | ⟨L, hc, hb⟩
  · have HLN := hide (rl_none (w := w1) (s := s) (by omega) hc)
    have HE := hide (show sexpsR T s at_ n = (0, 5, 0) by unfold sexpsR; rw [hc])
    clear h hc
    go_enter Tryd.func34, Tryd.ntmps34
    go_wp2_with (rw [← HW1.out]; (go_at_call 12; (with_reducible refine Calls.mono HLN.out ?_); rintro e w2 ⟨rfl, b2⟩; have HB2 := hide b2; have HRK := hide (HRB.out.below b2 HRB.out.lt); have t0 := HRK.out.cell 0; have t1 := HRK.out.cell 1; have t2 := HRK.out.frozen 0; have t3 := HRK.out.frozen 1; clear b2))
    refine bodyPost_ret (results_tmp_cell rfl _ _ w.heap.size 40 #[.int .i64 (5), .int .i64 (0)] (0, 0) _ rfl ((HRK.out.set_ 0 _).set_ 1 _) Tryd.underlying40 rfl (by kernel_rfl)) rfl ?_
    exact ⟨by rw [HE.out]; rfl, ((HB0.out.trans (HB2.out.mono HB0.out.size)).setCell (p := ⟨w.heap.size, 0, none⟩) (Nat.le_refl _) _).setCell (p := ⟨w.heap.size, 1, none⟩) (Nat.le_refl _) _⟩
  · have HLS := hide (rl_sl (w := w1) (s := s) (by omega) hc)
    have HE := hide (show sexpsR T s at_ n = (0, 3, 0) by unfold sexpsR; rw [hc]; simp only []; rw [if_pos hb])
    have hl9 : (L.length : Int) ≤ 1000000 := by have h9 : L.length ≤ s.size := chars_le _ _ hc; omega
    obtain ⟨n0, hn0⟩ : ∃ z, z = L.length := ⟨_, rfl⟩
    rw [← hn0] at HLS hb hl9
    clear h hc hn0
    rcases hb with hb | hb
    · have q1 : decide (at_ < 0) = true := by simpa using hb
      clear hb
      go_enter Tryd.func34, Tryd.ntmps34
      go_wp2_with (rw [← HW1.out]; (go_at_call 12; (with_reducible refine Calls.mono HLS.out ?_); rintro e w2 ⟨A, c, rfl, b2, r2, c2, c3⟩; have HB2 := hide b2; have HRK := hide (HRB.out.below b2 HRB.out.lt); have t0 := HRK.out.cell 0; have t1 := HRK.out.cell 1; have t2 := HRK.out.frozen 0; have t3 := HRK.out.frozen 1; clear b2 r2 c2 c3))
      refine bodyPost_ret (results_tmp_cell rfl _ _ w.heap.size 40 #[.int .i64 (3), .int .i64 (0)] (0, 0) _ rfl ((HRK.out.set_ 0 _).set_ 1 _) Tryd.underlying40 rfl (by kernel_rfl)) rfl ?_
      exact ⟨by rw [HE.out]; rfl, ((HB0.out.trans (HB2.out.mono HB0.out.size)).setCell (p := ⟨w.heap.size, 0, none⟩) (Nat.le_refl _) _).setCell (p := ⟨w.heap.size, 1, none⟩) (Nat.le_refl _) _⟩
    · have q1 : decide (at_ < 0) = false := by simp; omega
      have q2 : ¬ at_ < 0 := by omega
      have q3 : decide ((n0 : Int) < at_) = true := by simpa using hb
      clear hb
      go_enter Tryd.func34, Tryd.ntmps34
      go_wp2_with (rw [← HW1.out]; (go_at_call 12; (with_reducible refine Calls.mono HLS.out ?_); rintro e w2 ⟨A, c, rfl, b2, r2, c2, c3⟩; have HB2 := hide b2; have HRK := hide (HRB.out.below b2 HRB.out.lt); have t0 := HRK.out.cell 0; have t1 := HRK.out.cell 1; have t2 := HRK.out.frozen 0; have t3 := HRK.out.frozen 1; clear b2 r2 c2 c3))
      refine bodyPost_ret (results_tmp_cell rfl _ _ w.heap.size 40 #[.int .i64 (3), .int .i64 (0)] (0, 0) _ rfl ((HRK.out.set_ 0 _).set_ 1 _) Tryd.underlying40 rfl (by kernel_rfl)) rfl ?_
      exact ⟨by rw [HE.out]; rfl, ((HB0.out.trans (HB2.out.mono HB0.out.size)).setCell (p := ⟨w.heap.size, 0, none⟩) (Nat.le_refl _) _).setCell (p := ⟨w.heap.size, 1, none⟩) (Nat.le_refl _) _⟩
set_option maxRecDepth 100000 in
set_option maxHeartbeats 16000000 in
theorem rsexpsF (h : RT w r T) (s : ByteArray) (hs : s.size ≤ 1000000) {L : List Nat} (hc : charsL s.data.toList = some L) (i0 N : Nat) (hi0 : i0 ≤ L.length) (hN : N ≤ 1000000) : Calls Tryd.prog 34 #[.pointer (some ⟨r, 0, none⟩), .string s, .int .i64 (i0 : Int), .int .i64 (N : Int)] w fun e w' => e = .returned (ansV (sexF T L N i0)) ∧ Below w.heap.size w w' := by
  have hb0 := below_box w (.cells #[.int .i64 0, .int .i64 0] 40)
  have HB0 := hide hb0
  have HRB := hide (Blk.new w 40 #[.int .i64 0, .int .i64 0])
  have HT := hide (h.below hb0)
  obtain ⟨w1, hw1⟩ : ∃ y : World, y = w.alloc (.cells #[.int .i64 0, .int .i64 0] 40) := ⟨_, rfl⟩
  have HW1 := hide hw1
  rw [← hw1] at HRB HT HB0
  clear hb0 hw1
  have hT : T.Ok := by obtain ⟨_, _, _, _, _, _, hok⟩ := h; exact hok
  have HTO := hide hT
  have HLS := hide (rl_sl (w := w1) (s := s) (by omega) hc)
  have HLEN := hide (show L.length ≤ 1000000 by have h9 : L.length ≤ s.size := chars_le _ _ hc; omega)
  obtain ⟨n, hn⟩ : ∃ n, n = L.length := ⟨_, rfl⟩
  have HN := hide hn
  have hl9 : (n : Int) ≤ 1000000 := by have := HLEN.out; omega
  have hN9 : (N : Int) ≤ 1000000 := by omega
  have q1 : decide ((i0 : Int) < 0) = false := by simp
  have q2 : ¬ (i0 : Int) < 0 := by omega
  have q3 : decide ((n : Int) < (i0 : Int)) = false := by simp; omega
  have q4 : ¬ (n : Int) < (i0 : Int) := by omega
  have q5 : decide (n < i0) = false := by simp; omega
  have HI0 := hide (show i0 ≤ n by omega)
  obtain ⟨X, hX⟩ : ∃ X, X = sexF T L N i0 := ⟨_, rfl⟩
  rw [← hX]
  have HX := hide hX
  rw [← hn] at HLS
  clear h hc hi0 hn hN hT hX
  go_enter Tryd.func34, Tryd.ntmps34
  go_wp2_with (rw [← HW1.out]; (go_at_call 12; (with_reducible refine Calls.mono HLS.out ?_); rintro e w2 ⟨A, c, rfl, b2, r2, c2, c3⟩; have HB2 := hide b2; have HRK := hide (HRB.out.below b2 HRB.out.lt); have HSC := hide (RSc.of (HT.out.below b2) (by rw [← HN.out]; exact r2) HLEN.out); have HC2 := hide c2; have HC3 := hide c3; have t0 := HRK.out.cell 0; have t1 := HRK.out.cell 1; have t2 := HRK.out.frozen 0; have t3 := HRK.out.frozen 1; clear b2 r2 c2 c3))
  have HBF := hide ((below_box w2 (.cells #[.int .i64 0, .int .i64 0] 40)))
  have HFX := hide (Blk.new w2 40 #[.int .i64 0, .int .i64 0])
  go_loopw [2, 13] (fun av kv wr => ∃ (a k : Nat) (f1 f2 : Int), av = .int .i64 (a : Int) ∧ kv = .int .i64 ((k : Int)) ∧ k ≤ N ∧ Kept X (sexF T L) n N k a f1 f2 ∧ Blk wr w2.heap.size 40 #[.int .i64 f1, .int .i64 f2] ∧ Below w2.heap.size w2 wr) (fun _ kv _ => N - (intOf kv).toNat)
  case atStart => exact ⟨i0, 0, 0, 0, rfl, rfl, Nat.zero_le _, .inl ⟨rfl, rfl, HI0.out, HX.out.symm⟩, HFX.out, HBF.out⟩
  case round =>
    clear t0 t1 t2 t3
    obtain ⟨a, k, f1, f2, rfl, rfl, hk, hkp, hf, hb⟩ := hrel
    have HB := hide hb
    have HF := hide hf
    have HKP := hide hkp
    have hk9 : (k : Int) ≤ 1000000 := by omega
    have wk : IntKind.i64.wrap ((k : Int) + 1) = ((k + 1 : Nat) : Int) := by rw [IntWalk.i64_in _ (by omega)]; omega
    have c0 := hf.cell 0
    have c1 := hf.cell 1
    have d0 := hf.frozen 0
    have d1 := hf.frozen 1
    by_cases h0 : f1 = 0
    · have hk1 : f2 = 0 ∧ a ≤ n ∧ sexF T L (N - k) a = X := by
        rcases hkp with ⟨_, h2, h3, h4⟩ | ⟨h2, _⟩
        · exact ⟨h2, h3, h4⟩
        · exact absurd h0 h2
      obtain ⟨h2, ha, he⟩ := hk1
      subst h0
      subst h2
      have HA := hide ha
      have HE := hide he
      by_cases hlt : k < N
      · have p1 : decide ((k : Int) < (N : Int)) = true := by simp; omega
        have p2 : (k : Int) < (N : Int) := by omega
        have HLT := hide hlt
        have HST := hide (show ∃ M, N - k = M + 1 ∧ N - (k + 1) = M from ⟨N - (k + 1), by omega, rfl⟩)
        have HFO := hide (rforward_any (HSC.out.below hb) (i := a) (by rw [← HN.out]; exact ha))
        obtain ⟨X1, hX1⟩ : ∃ X1, X1 = fwd1 T L a := ⟨_, rfl⟩
        have HX1 := hide hX1
        rw [← hX1] at HFO
        clear hX1
        have HFO2 := hide (show Calls Tryd.prog 65 #[.pointer (some ⟨r, 0, none⟩), .slice A n c, .int .i64 (a : Int), .int .i64 0] wr (fun e w' => (∃ (y1 : Nat) (y2 y3 : Int), e = .returned (.tuple #[.int .i64 (y1 : Int), .agg #[.int .i64 y2, .int .i64 y3]]) ∧ (if y2 ≠ 0 then (0, y2, y3) else (y1, y2, y3)) = X1) ∧ Below wr.heap.size wr w') from by
          refine HFO.out.mono ?_
          rintro e w' ⟨⟨⟨y1, y2, y3⟩, rfl, h9⟩, hb9⟩
          exact ⟨⟨y1, y2, y3, rfl, h9⟩, hb9⟩)
        clear hk hkp hf hb ha he hlt
        go_wp2_with (go_at_call 65; (with_reducible refine Calls.mono HFO2.out ?_); rintro e w4 ⟨⟨y1, y2, y3, rfl, hy9⟩, b4⟩; have HY9 := hide hy9; have HG := hide (HF.out.below b4 HF.out.lt); have HB3 := hide (HB.out.trans (b4.mono HB.out.size)); have e0 := HG.out.cell 0; have e1 := HG.out.cell 1; have e2 := HG.out.frozen 0; have e3 := HG.out.frozen 1; clear b4 hy9)
        have HKN := hide (show Kept X (sexF T L) n N (k + 1) y1 y2 y3 from by
          obtain ⟨M, m1, m2⟩ := HST.out
          have h8 := HY9.out
          have h7 := HE.out
          rw [m1] at h7
          have h6 : (if (fwd1 T L a).2.1 = 0 then sexF T L M (fwd1 T L a).1 else (0, (fwd1 T L a).2)) = X := h7
          rw [← HX1.out] at h6
          by_cases hy : y2 = 0
          · rw [if_neg (not_not_intro hy)] at h8
            have h5 := fwd1_more HTO.out (i := a) (L := L) (by rw [← HN.out]; exact HA.out) (by rw [← HX1.out, ← h8]; exact hy)
            rw [← HX1.out, ← h8] at h5
            rw [← h8, if_pos hy] at h6
            exact .inl ⟨hy, h5.2.2, by have := h5.2.1; have := HN.out; omega, by rw [m2]; exact h6⟩
          · rw [if_pos hy] at h8
            rw [← h8, if_neg hy] at h6
            exact .inr ⟨hy, h6.symm⟩)
        go_roundw
        case rel => exact ⟨y1, k + 1, y2, y3, rfl, rfl, HLT.out, HKN.out, (HG.out.set_ 0 _).set_ 1 _, (HB3.out.setCell (p := ⟨w2.heap.size, 0, none⟩) (Nat.le_refl _) _).setCell (p := ⟨w2.heap.size, 1, none⟩) (Nat.le_refl _) _⟩
        case measure => have := HLT.out; simp [intOf]; omega
      · obtain rfl : k = N := by omega
        have p1 : decide ((k : Int) < (k : Int)) = false := by simp
        have p2 : ¬ (k : Int) < (k : Int) := by omega
        have HE := hide (show X = (a, 0, 0) by rw [← he, Nat.sub_self]; rfl)
        have HRK := hide (HRB.out.below (HB2.out.trans (hb.mono HB2.out.size)) HRB.out.lt)
        have HBZ := hide (HB2.out.trans (hb.mono HB2.out.size))
        have t0 := HRK.out.cell 0
        have t1 := HRK.out.cell 1
        have t2 := HRK.out.frozen 0
        have t3 := HRK.out.frozen 1
        clear hk hkp hf hb ha he hlt
        go_wp2_with fail
        go_loopw [2, 14] (fun av kv wq => av = .int .i64 (a : Int) ∧ kv = .int .i64 0 ∧ wr = wq) (fun _ _ _ => 0)
        case atStart => exact ⟨rfl, rfl, rfl⟩
        case round =>
          obtain ⟨rfl, rfl, rfl⟩ := hrel
          have p3 : decide ((k : Int) < 0) = false := by simp
          have p4 : ¬ (k : Int) < 0 := by omega
          go_upto_region 17 with fail
          go_region
          go_wp2_with fail
          refine bodyPost_ret (results_tmp_cell rfl _ _ w.heap.size 40 #[.int .i64 (0), .int .i64 (0)] (0, 0) _ rfl ((HRK.out.set_ 0 _).set_ 1 _) Tryd.underlying40 rfl (by kernel_rfl)) rfl ?_
          exact ⟨by rw [HE.out]; rfl, (((HB0.out.trans (HBZ.out.mono HB0.out.size)).setCell (p := ⟨w.heap.size, 0, none⟩) (Nat.le_refl _) _).setCell (p := ⟨w.heap.size, 1, none⟩) (Nat.le_refl _) _).drew⟩
    · have HE := hide (show X = (0, f1, f2) by
        rcases hkp with ⟨h2, _⟩ | ⟨_, h2⟩
        · exact absurd h2 h0
        · exact h2)
      have g0 : (f1 == 0) = false := by simpa using h0
      have g1 : (f1 != 0) = true := by simpa using h0
      have HRK := hide (HRB.out.below (HB2.out.trans (hb.mono HB2.out.size)) HRB.out.lt)
      have HBZ := hide (HB2.out.trans (hb.mono HB2.out.size))
      have t0 := HRK.out.cell 0
      have t1 := HRK.out.cell 1
      have t2 := HRK.out.frozen 0
      have t3 := HRK.out.frozen 1
      clear hkp hf hb h0
      by_cases hlt : k < N
      · have p1 : decide ((k : Int) < (N : Int)) = true := by simp; omega
        have p2 : (k : Int) < (N : Int) := by omega
        clear hk hlt
        go_wp2_with fail
        go_loopw [2, 14] (fun av kv wq => av = .int .i64 (a : Int) ∧ kv = .int .i64 0 ∧ wr = wq) (fun _ _ _ => 0)
        case atStart => exact ⟨rfl, rfl, rfl⟩
        case round =>
          obtain ⟨rfl, rfl, rfl⟩ := hrel
          have p3 : decide ((N : Int) < 0) = false := by simp
          have p4 : ¬ (N : Int) < 0 := by omega
          go_upto_region 16 with fail
          go_region
          go_wp2_with fail
          refine bodyPost_ret (results_tmp_cell rfl _ _ w.heap.size 40 #[.int .i64 (f1), .int .i64 (f2)] (0, 0) _ rfl ((HRK.out.set_ 0 _).set_ 1 _) Tryd.underlying40 rfl (by kernel_rfl)) rfl ?_
          exact ⟨by rw [HE.out]; rfl, (((HB0.out.trans (HBZ.out.mono HB0.out.size)).setCell (p := ⟨w.heap.size, 0, none⟩) (Nat.le_refl _) _).setCell (p := ⟨w.heap.size, 1, none⟩) (Nat.le_refl _) _).drew⟩
      · obtain rfl : k = N := by omega
        have p1 : decide ((k : Int) < (k : Int)) = false := by simp
        have p2 : ¬ (k : Int) < (k : Int) := by omega
        clear hk hlt
        go_wp2_with fail
        go_loopw [2, 14] (fun av kv wq => av = .int .i64 (a : Int) ∧ kv = .int .i64 0 ∧ wr = wq) (fun _ _ _ => 0)
        case atStart => exact ⟨rfl, rfl, rfl⟩
        case round =>
          obtain ⟨rfl, rfl, rfl⟩ := hrel
          have p3 : decide ((k : Int) < 0) = false := by simp
          have p4 : ¬ (k : Int) < 0 := by omega
          go_upto_region 16 with fail
          go_region
          go_wp2_with fail
          refine bodyPost_ret (results_tmp_cell rfl _ _ w.heap.size 40 #[.int .i64 (f1), .int .i64 (f2)] (0, 0) _ rfl ((HRK.out.set_ 0 _).set_ 1 _) Tryd.underlying40 rfl (by kernel_rfl)) rfl ?_
          exact ⟨by rw [HE.out]; rfl, (((HB0.out.trans (HBZ.out.mono HB0.out.size)).setCell (p := ⟨w.heap.size, 0, none⟩) (Nat.le_refl _) _).setCell (p := ⟨w.heap.size, 1, none⟩) (Nat.le_refl _) _).drew⟩
set_option maxRecDepth 100000 in
set_option maxHeartbeats 16000000 in
theorem rsexpsB (h : RT w r T) (s : ByteArray) (hs : s.size ≤ 1000000) {L : List Nat} (hc : charsL s.data.toList = some L) (i0 N : Nat) (hi0 : i0 ≤ L.length) (hN : N ≤ 1000000) : Calls Tryd.prog 34 #[.pointer (some ⟨r, 0, none⟩), .string s, .int .i64 (i0 : Int), .int .i64 (-(N : Int))] w fun e w' => e = .returned (ansV (sexB T L N i0)) ∧ Below w.heap.size w w' := by
  have hb0 := below_box w (.cells #[.int .i64 0, .int .i64 0] 40)
  have HB0 := hide hb0
  have HRB := hide (Blk.new w 40 #[.int .i64 0, .int .i64 0])
  have HT := hide (h.below hb0)
  obtain ⟨w1, hw1⟩ : ∃ y : World, y = w.alloc (.cells #[.int .i64 0, .int .i64 0] 40) := ⟨_, rfl⟩
  have HW1 := hide hw1
  rw [← hw1] at HRB HT HB0
  clear hb0 hw1
  have hT : T.Ok := by obtain ⟨_, _, _, _, _, _, hok⟩ := h; exact hok
  have HTO := hide hT
  have HLS := hide (rl_sl (w := w1) (s := s) (by omega) hc)
  have HLEN := hide (show L.length ≤ 1000000 by have h9 : L.length ≤ s.size := chars_le _ _ hc; omega)
  obtain ⟨n, hn⟩ : ∃ n, n = L.length := ⟨_, rfl⟩
  have HN := hide hn
  have hl9 : (n : Int) ≤ 1000000 := by have := HLEN.out; omega
  have hN9 : (N : Int) ≤ 1000000 := by omega
  have q1 : decide ((i0 : Int) < 0) = false := by simp
  have q2 : ¬ (i0 : Int) < 0 := by omega
  have q3 : decide ((n : Int) < (i0 : Int)) = false := by simp; omega
  have q4 : ¬ (n : Int) < (i0 : Int) := by omega
  have q5 : decide (n < i0) = false := by simp; omega
  have HI0 := hide (show i0 ≤ n by omega)
  obtain ⟨X, hX⟩ : ∃ X, X = sexB T L N i0 := ⟨_, rfl⟩
  rw [← hX]
  have HX := hide hX
  rw [← hn] at HLS
  clear h hc hi0 hn hN hT hX
  go_enter Tryd.func34, Tryd.ntmps34
  go_wp2_with (rw [← HW1.out]; (go_at_call 12; (with_reducible refine Calls.mono HLS.out ?_); rintro e w2 ⟨A, c, rfl, b2, r2, c2, c3⟩; have HB2 := hide b2; have HRK := hide (HRB.out.below b2 HRB.out.lt); have HSC := hide (RSc.of (HT.out.below b2) (by rw [← HN.out]; exact r2) HLEN.out); have HC2 := hide c2; have HC3 := hide c3; have t0 := HRK.out.cell 0; have t1 := HRK.out.cell 1; have t2 := HRK.out.frozen 0; have t3 := HRK.out.frozen 1; clear b2 r2 c2 c3))
  have HBF := hide ((below_box w2 (.cells #[.int .i64 0, .int .i64 0] 40)))
  have HFX := hide (Blk.new w2 40 #[.int .i64 0, .int .i64 0])
  go_loopw [2, 13] (fun av kv wr => av = .int .i64 (i0 : Int) ∧ kv = .int .i64 0 ∧ w2.alloc (.cells #[.int .i64 0, .int .i64 0] 40) = wr) (fun _ _ _ => 0)
  case atStart => exact ⟨rfl, rfl, rfl⟩
  case round =>
    obtain ⟨rfl, rfl, rfl⟩ := hrel
    have p1 : decide ((0 : Int) < -(N : Int)) = false := by simp
    have p2 : ¬ (0 : Int) < -(N : Int) := by omega
    go_wp2_with fail
    go_loopw [2, 14] (fun av kv wr => ∃ (a k : Nat) (f1 f2 : Int), av = .int .i64 (a : Int) ∧ kv = .int .i64 (-(k : Int)) ∧ k ≤ N ∧ Kept X (sexB T L) n N k a f1 f2 ∧ Blk wr w2.heap.size 40 #[.int .i64 f1, .int .i64 f2] ∧ Below w2.heap.size w2 wr) (fun _ kv _ => N - (-intOf kv).toNat)
    case atStart => exact ⟨i0, 0, 0, 0, rfl, rfl, Nat.zero_le _, .inl ⟨rfl, rfl, HI0.out, HX.out.symm⟩, HFX.out, HBF.out⟩
    case round =>
      clear t0 t1 t2 t3
      obtain ⟨a, k, f1, f2, rfl, rfl, hk, hkp, hf, hb⟩ := hrel
      have HB := hide hb
      have HF := hide hf
      have HKP := hide hkp
      have hk9 : (k : Int) ≤ 1000000 := by omega
      have wk : IntKind.i64.wrap (-(k : Int) - 1) = -((k + 1 : Nat) : Int) := by rw [IntWalk.i64_in _ (by omega)]; omega
      have c0 := hf.cell 0
      have c1 := hf.cell 1
      have d0 := hf.frozen 0
      have d1 := hf.frozen 1
      by_cases h0 : f1 = 0
      · have hk1 : f2 = 0 ∧ a ≤ n ∧ sexB T L (N - k) a = X := by
          rcases hkp with ⟨_, h2, h3, h4⟩ | ⟨h2, _⟩
          · exact ⟨h2, h3, h4⟩
          · exact absurd h0 h2
        obtain ⟨h2, ha, he⟩ := hk1
        subst h0
        subst h2
        have HA := hide ha
        have HE := hide he
        by_cases hlt : k < N
        · have p1 : decide (-(N : Int) < -(k : Int)) = true := by simp; omega
          have p2 : -(N : Int) < -(k : Int) := by omega
          have HLT := hide hlt
          have HST := hide (show ∃ M, N - k = M + 1 ∧ N - (k + 1) = M from ⟨N - (k + 1), by omega, rfl⟩)
          have HBA := hide (rback_any (HSC.out.below hb |> fun h9 => (show RSc wr r T (.slice A L.length c) L by rw [← HN.out]; exact h9)) (by rw [← HN.out]; exact HC2.out) HC3.out (n := a) (by rw [← HN.out]; exact ha))
          rw [← HN.out] at HBA
          obtain ⟨⟨y1, y2, y3⟩, hX1⟩ : ∃ X1, X1 = bck1 T (L.take a) := ⟨_, rfl⟩
          have HX1 := hide hX1
          rw [← hX1, show ansV (y1, y2, y3) = .tuple #[.int .i64 (y1 : Int), .agg #[.int .i64 y2, .int .i64 y3]] from rfl] at HBA
          clear hX1
          have HKN := hide (show Kept X (sexB T L) n N (k + 1) y1 y2 y3 from by
            obtain ⟨M, m1, m2⟩ := HST.out
            have h7 := HE.out
            rw [m1] at h7
            have h6 : (if (bck1 T (L.take a)).2.1 = 0 then sexB T L M (bck1 T (L.take a)).1 else (0, (bck1 T (L.take a)).2)) = X := h7
            have hX2 := HX1.out
            by_cases hy : y2 = 0
            · have h5 := bck1_less HTO.out (L := L.take a) (by rw [← hX2]; exact hy)
              rw [← hX2] at h5 h6
              rw [if_pos hy] at h6
              rw [List.length_take] at h5
              exact .inl ⟨hy, h5.2, by have := h5.1; have := HA.out; simp only [] at this h5; omega, by rw [m2]; exact h6⟩
            · rw [← hX2, if_neg hy] at h6
              exact .inr ⟨hy, h6.symm⟩)
          clear hk hkp hf hb ha he hlt
          go_wp2_with (go_at_call 66; (with_reducible refine Calls.mono HBA.out ?_); rintro e w4 ⟨rfl, b4⟩; have HG := hide (HF.out.below b4 HF.out.lt); have HB3 := hide (HB.out.trans (b4.mono HB.out.size)); have e0 := HG.out.cell 0; have e1 := HG.out.cell 1; have e2 := HG.out.frozen 0; have e3 := HG.out.frozen 1; clear b4)
          go_roundw
          case rel => exact ⟨y1, k + 1, y2, y3, rfl, rfl, HLT.out, HKN.out, (HG.out.set_ 0 _).set_ 1 _, (HB3.out.setCell (p := ⟨w2.heap.size, 0, none⟩) (Nat.le_refl _) _).setCell (p := ⟨w2.heap.size, 1, none⟩) (Nat.le_refl _) _⟩
          case measure => have := HLT.out; simp [intOf]; omega
        · obtain rfl : k = N := by omega
          have p1 : decide (-(k : Int) < -(k : Int)) = false := by simp
          have p2 : ¬ -(k : Int) < -(k : Int) := by omega
          have HE := hide (show X = (a, 0, 0) by rw [← he, Nat.sub_self]; rfl)
          have HRK := hide (HRB.out.below (HB2.out.trans (hb.mono HB2.out.size)) HRB.out.lt)
          have HBZ := hide (HB2.out.trans (hb.mono HB2.out.size))
          have t0 := HRK.out.cell 0
          have t1 := HRK.out.cell 1
          have t2 := HRK.out.frozen 0
          have t3 := HRK.out.frozen 1
          clear hk hkp hf hb ha he hlt
          go_upto_region 17 with fail
          go_region
          go_wp2_with fail
          refine bodyPost_ret (results_tmp_cell rfl _ _ w.heap.size 40 #[.int .i64 (0), .int .i64 (0)] (0, 0) _ rfl ((HRK.out.set_ 0 _).set_ 1 _) Tryd.underlying40 rfl (by kernel_rfl)) rfl ?_
          exact ⟨by rw [HE.out]; rfl, (((HB0.out.trans (HBZ.out.mono HB0.out.size)).setCell (p := ⟨w.heap.size, 0, none⟩) (Nat.le_refl _) _).setCell (p := ⟨w.heap.size, 1, none⟩) (Nat.le_refl _) _).drew⟩
      · have HE := hide (show X = (0, f1, f2) by
          rcases hkp with ⟨h2, _⟩ | ⟨_, h2⟩
          · exact absurd h2 h0
          · exact h2)
        have g0 : (f1 == 0) = false := by simpa using h0
        have g1 : (f1 != 0) = true := by simpa using h0
        have HRK := hide (HRB.out.below (HB2.out.trans (hb.mono HB2.out.size)) HRB.out.lt)
        have HBZ := hide (HB2.out.trans (hb.mono HB2.out.size))
        have t0 := HRK.out.cell 0
        have t1 := HRK.out.cell 1
        have t2 := HRK.out.frozen 0
        have t3 := HRK.out.frozen 1
        clear hkp hf hb h0
        by_cases hlt : k < N
        · have p1 : decide (-(N : Int) < -(k : Int)) = true := by simp; omega
          have p2 : -(N : Int) < -(k : Int) := by omega
          clear hk hlt
          go_upto_region 16 with fail
          go_region
          go_wp2_with fail
          refine bodyPost_ret (results_tmp_cell rfl _ _ w.heap.size 40 #[.int .i64 (f1), .int .i64 (f2)] (0, 0) _ rfl ((HRK.out.set_ 0 _).set_ 1 _) Tryd.underlying40 rfl (by kernel_rfl)) rfl ?_
          exact ⟨by rw [HE.out]; rfl, (((HB0.out.trans (HBZ.out.mono HB0.out.size)).setCell (p := ⟨w.heap.size, 0, none⟩) (Nat.le_refl _) _).setCell (p := ⟨w.heap.size, 1, none⟩) (Nat.le_refl _) _).drew⟩
        · obtain rfl : k = N := by omega
          have p1 : decide (-(k : Int) < -(k : Int)) = false := by simp
          have p2 : ¬ -(k : Int) < -(k : Int) := by omega
          clear hk hlt
          go_upto_region 16 with fail
          go_region
          go_wp2_with fail
          refine bodyPost_ret (results_tmp_cell rfl _ _ w.heap.size 40 #[.int .i64 (f1), .int .i64 (f2)] (0, 0) _ rfl ((HRK.out.set_ 0 _).set_ 1 _) Tryd.underlying40 rfl (by kernel_rfl)) rfl ?_
          exact ⟨by rw [HE.out]; rfl, (((HB0.out.trans (HBZ.out.mono HB0.out.size)).setCell (p := ⟨w.heap.size, 0, none⟩) (Nat.le_refl _) _).setCell (p := ⟨w.heap.size, 1, none⟩) (Nat.le_refl _) _).drew⟩
theorem rsexps_any (h : RT w r T) (s : ByteArray) (hs : s.size ≤ 1000000) (at_ n : Int) (hn : -1000000 ≤ n) (hn2 : n ≤ 1000000) : Calls Tryd.prog 34 #[.pointer (some ⟨r, 0, none⟩), .string s, .int .i64 at_, .int .i64 n] w fun e w' => e = .returned (ansV (sexpsR T s at_ n)) ∧ Below w.heap.size w w' := by
  cases hc : charsL s.data.toList with
  | none => exact rsexps_bad h s hs at_ n (.inl hc)
  | some L =>
    by_cases hb : at_ < 0 ∨ (L.length : Int) < at_
    · exact rsexps_bad h s hs at_ n (.inr ⟨L, hc, hb⟩)
    · have e : sexpsR T s at_ n = sexps T L n at_.toNat := by
        unfold sexpsR
        rw [hc]
        simp only []
        rw [if_neg hb]
      rw [e]
      obtain ⟨i0, rfl⟩ : ∃ i : Nat, at_ = (i : Int) := ⟨at_.toNat, by omega⟩
      rw [Int.toNat_natCast]
      unfold sexps
      by_cases h0 : n < 0
      · obtain ⟨N, rfl⟩ : ∃ N : Nat, n = -(N : Int) := ⟨(-n).toNat, by omega⟩
        rw [if_pos h0, Int.neg_neg, Int.toNat_natCast]
        exact rsexpsB h s hs hc i0 N (by omega) (by omega)
      · obtain ⟨N, rfl⟩ : ∃ N : Nat, n = (N : Int) := ⟨n.toNat, by omega⟩
        rw [if_neg h0, Int.toNat_natCast]
        exact rsexpsF h s hs hc i0 N (by omega) (by omega)
end
end Go.Proofs.YtdojcgefiekleaaDoor
