/- The reference's Over. No condition but those written. -/
import Derived.Test.YtdojcgefiekleaaDoorSek
import Derived.Test.YtdojcgefiekleaaDoorSej
namespace Go.Proofs.YtdojcgefiekleaaDoor
open Go.RowKit

section
variable {w : World} {r : Nat} {T : Tb}
theorem rl_own {s : ByteArray} {w : World} (hs : s.size * 8 ≤ 140737488355328) {L : List Nat} (hc : charsL s.data.toList = some L) : Calls Tryd.prog 12 #[.string s] w fun e w' => ∃ A c, e = .returned (.tuple #[.slice A L.length c, .int .i64 0]) ∧ Below w.heap.size w w' ∧ Sl w' 3 1 (.slice A L.length c) L.length (ints L) := by
  refine (list_any s w hs).mono ?_
  rintro e w' ⟨hb, hm⟩
  rw [hc] at hm
  obtain ⟨v, he, hs, _⟩ := hm
  obtain ⟨A, c, rfl, _⟩ := hs.form
  exact ⟨A, c, he, hb, hs⟩
theorem overZ_bad {s : ByteArray} {a b : Int} {S : Sta} {z : Int} (h : overR T s a b S = (z, none)) : overZ T s a b S = (z, sta0) := by
  unfold overZ
  rw [h]
  rfl
theorem step_len (S : Sta) (c i : Nat) : (S.step T c i).opens.length ≤ S.opens.length + 1 := by
  unfold Sta.step
  repeat' split
  all_goals simp
  all_goals omega
theorem step_up (S : Sta) (c i : Nat) (h : -9223372036854775808 ≤ S.under ∧ S.under ≤ 9223372036854775807) : -9223372036854775808 ≤ (S.step T c i).under ∧ (S.step T c i).under ≤ 9223372036854775807 := by
  unfold Sta.step
  repeat' split
  all_goals first | exact h | exact up1_range h
set_option maxRecDepth 100000 in
set_option maxHeartbeats 8000000 in
theorem rover_bad (h : RT w r T) (s : ByteArray) (hs : s.size ≤ 1000000) (a b : Int) (ov : Value) (S : Sta) (hov : Rd w ov 1 S.opens.length (zints S.opens)) (hol : S.opens.length ≤ 1000) (hbad : (overR T s a b S = (5, none) ∧ charsL s.data.toList = none) ∨ (overR T s a b S = (3, none) ∧ ∃ L, charsL s.data.toList = some L ∧ (a < 0 ∨ b < a ∨ (L.length : Int) < b))) : Calls Tryd.prog 31 #[.pointer (some ⟨r, 0, none⟩), .string s, .int .i64 a, .int .i64 b, .agg #[ov, .int .i64 S.under, .int .i64 S.inn, .bool S.comment, .int .i64 S.start, .bool S.quoted]] w fun e w' => ∃ A c, e = .returned (.tuple #[staV A c (overZ T s a b S).2, .int .i64 (overZ T s a b S).1]) ∧ Rd w' (.slice A (overZ T s a b S).2.opens.length c) 1 (overZ T s a b S).2.opens.length (zints (overZ T s a b S).2.opens) ∧ Below w.heap.size w w' := by
  obtain ⟨oA, oc, rfl, _⟩ := id hov
  obtain ⟨ol, hol'⟩ : ∃ z, z = S.opens.length := ⟨_, rfl⟩
  have HOL := hide hol'
  have hb0 : Below w.heap.size w ((w.alloc (.cells (staC (.slice oA ol oc) S) 50)).alloc (.cells stZ 50)) := ((Below.refl _ w).alloc (Nat.le_refl _) _).alloc (by simp) _
  have HB0 := hide hb0
  have HX9 := hide ((Blk.new w 50 (staC (.slice oA ol oc) S)).alloc (.cells stZ 50))
  have HX10 := hide (show Blk ((w.alloc (.cells (staC (.slice oA ol oc) S) 50)).alloc (.cells stZ 50)) (w.heap.size + 1) 50 stZ by
    have := Blk.new (w.alloc (.cells (staC (.slice oA ol oc) S) 50)) 50 stZ
    rwa [World.size_alloc] at this)
  have HT := hide (h.below hb0)
  have HOV := hide (hov.belowN hb0)
  rw [← hol'] at HOV ⊢
  obtain ⟨w1, hw1⟩ : ∃ y : World, y = (w.alloc (.cells (staC (.slice oA ol oc) S) 50)).alloc (.cells stZ 50) := ⟨_, rfl⟩
  have HW1 := hide (show w1 = (w.alloc (.cells #[.slice oA ol oc, .int .i64 S.under, .int .i64 S.inn, .bool S.comment, .int .i64 S.start, .bool S.quoted] 50)).alloc (.cells #[.slice none 0 0, .int .i64 0, .int .i64 0, .bool false, .int .i64 0, .bool false] 50) from hw1)
  rw [← hw1] at HB0 HX9 HX10 HT HOV
  have hol9 : (ol : Int) ≤ 1000 := by omega
  rcases hbad with ⟨he, hc⟩ | ⟨he, L, hc, hb⟩
  · have HLN := hide (rl_none (w := w1) (s := s) (by omega) hc)
    have HE := hide (overZ_bad he)
    clear he hc
    clear h hov hol hol' hb0 hw1
    go_enter Tryd.func31, Tryd.ntmps31
    go_wp2_with (rw [← HW1.out]; (go_at_call 12; (with_reducible refine Calls.mono HLN.out ?_); rintro e w2 ⟨rfl, b2⟩; have HB2 := hide (HB0.out.trans (b2.mono HB0.out.size)); have HY := hide (HX10.out.below b2 HX10.out.lt); have z0 := HY.out.zero.1; have z1 := HY.out.zero.2.1; have z2 := HY.out.zero.2.2.1; have z3 := HY.out.zero.2.2.2.1; have z4 := HY.out.zero.2.2.2.2.1; have z5 := HY.out.zero.2.2.2.2.2.1; have g0 := HY.out.frozen 0; have g1 := HY.out.frozen 1; have g2 := HY.out.frozen 2; have g3 := HY.out.frozen 3; have g4 := HY.out.frozen 4; have g5 := HY.out.frozen 5; clear b2))
    refine bodyPost_ret (results_cell_tmp2 rfl _ _ (w.heap.size + 1) 50 _ (0, 0) _ rfl (HY.out.row6 _ _ _ _ _ _) Tryd.underlying50 rfl (by kernel_rfl)) rfl ?_
    exact ⟨none, 0, by rw [HE.out]; rfl, by rw [HE.out]; exact Rd.nil _ _, below6 HB2.out (Nat.le_succ _) _ _ _ _ _ _⟩
  · have HLS := hide (rl_own (w := w1) (s := s) (by omega) hc)
    have HE := hide (overZ_bad he)
    obtain ⟨n, hn⟩ : ∃ n, n = L.length := ⟨_, rfl⟩
    have hl9 : (n : Int) ≤ 1000000 := by have h9 : L.length ≤ s.size := chars_le _ _ hc; omega
    rw [← hn] at HLS hb
    clear he hc hn
    clear h hov hol hol' hb0 hw1
    by_cases h1 : a < 0
    · have q1 : decide (a < 0) = true := by simpa using h1
      clear hb h1
      go_enter Tryd.func31, Tryd.ntmps31
      go_wp2_with (rw [← HW1.out]; (go_at_call 12; (with_reducible refine Calls.mono HLS.out ?_); rintro e w2 ⟨A, c, rfl, b2, sl2⟩; have HB2 := hide (HB0.out.trans (b2.mono HB0.out.size)); have HY := hide (HX10.out.below b2 HX10.out.lt); have z0 := HY.out.zero.1; have z1 := HY.out.zero.2.1; have z2 := HY.out.zero.2.2.1; have z3 := HY.out.zero.2.2.2.1; have z4 := HY.out.zero.2.2.2.2.1; have z5 := HY.out.zero.2.2.2.2.2.1; have g0 := HY.out.frozen 0; have g1 := HY.out.frozen 1; have g2 := HY.out.frozen 2; have g3 := HY.out.frozen 3; have g4 := HY.out.frozen 4; have g5 := HY.out.frozen 5; clear b2 sl2))
      refine bodyPost_ret (results_cell_tmp2 rfl _ _ (w.heap.size + 1) 50 _ (0, 0) _ rfl (HY.out.row6 _ _ _ _ _ _) Tryd.underlying50 rfl (by kernel_rfl)) rfl ?_
      exact ⟨none, 0, by rw [HE.out]; rfl, by rw [HE.out]; exact Rd.nil _ _, below6 HB2.out (Nat.le_succ _) _ _ _ _ _ _⟩
    · have q1 : decide (a < 0) = false := by simpa using h1
      by_cases h2 : b < a
      · have q2 : decide (b < a) = true := by simpa using h2
        clear hb h1 h2
        go_enter Tryd.func31, Tryd.ntmps31
        go_wp2_with (rw [← HW1.out]; (go_at_call 12; (with_reducible refine Calls.mono HLS.out ?_); rintro e w2 ⟨A, c, rfl, b2, sl2⟩; have HB2 := hide (HB0.out.trans (b2.mono HB0.out.size)); have HY := hide (HX10.out.below b2 HX10.out.lt); have z0 := HY.out.zero.1; have z1 := HY.out.zero.2.1; have z2 := HY.out.zero.2.2.1; have z3 := HY.out.zero.2.2.2.1; have z4 := HY.out.zero.2.2.2.2.1; have z5 := HY.out.zero.2.2.2.2.2.1; have g0 := HY.out.frozen 0; have g1 := HY.out.frozen 1; have g2 := HY.out.frozen 2; have g3 := HY.out.frozen 3; have g4 := HY.out.frozen 4; have g5 := HY.out.frozen 5; clear b2 sl2))
        refine bodyPost_ret (results_cell_tmp2 rfl _ _ (w.heap.size + 1) 50 _ (0, 0) _ rfl (HY.out.row6 _ _ _ _ _ _) Tryd.underlying50 rfl (by kernel_rfl)) rfl ?_
        exact ⟨none, 0, by rw [HE.out]; rfl, by rw [HE.out]; exact Rd.nil _ _, below6 HB2.out (Nat.le_succ _) _ _ _ _ _ _⟩
      · have q2 : decide (b < a) = false := by simpa using h2
        have q3 : decide ((n : Int) < b) = true := by simp; omega
        clear hb h1 h2
        go_enter Tryd.func31, Tryd.ntmps31
        go_wp2_with (rw [← HW1.out]; (go_at_call 12; (with_reducible refine Calls.mono HLS.out ?_); rintro e w2 ⟨A, c, rfl, b2, sl2⟩; have HB2 := hide (HB0.out.trans (b2.mono HB0.out.size)); have HY := hide (HX10.out.below b2 HX10.out.lt); have z0 := HY.out.zero.1; have z1 := HY.out.zero.2.1; have z2 := HY.out.zero.2.2.1; have z3 := HY.out.zero.2.2.2.1; have z4 := HY.out.zero.2.2.2.2.1; have z5 := HY.out.zero.2.2.2.2.2.1; have g0 := HY.out.frozen 0; have g1 := HY.out.frozen 1; have g2 := HY.out.frozen 2; have g3 := HY.out.frozen 3; have g4 := HY.out.frozen 4; have g5 := HY.out.frozen 5; clear b2 sl2))
        refine bodyPost_ret (results_cell_tmp2 rfl _ _ (w.heap.size + 1) 50 _ (0, 0) _ rfl (HY.out.row6 _ _ _ _ _ _) Tryd.underlying50 rfl (by kernel_rfl)) rfl ?_
        exact ⟨none, 0, by rw [HE.out]; rfl, by rw [HE.out]; exact Rd.nil _ _, below6 HB2.out (Nat.le_succ _) _ _ _ _ _ _⟩
set_option maxRecDepth 100000 in
set_option maxHeartbeats 16000000 in
theorem rover_ok (h : RT w r T) (s : ByteArray) (hs : s.size ≤ 1000000) (a b : Int) (ov : Value) (S : Sta) (hov : Rd w ov 1 S.opens.length (zints S.opens)) (hol : S.opens.length ≤ 1000) (hu : -9223372036854775808 ≤ S.under ∧ S.under ≤ 9223372036854775807) {L : List Nat} {i1 e0 : Nat} (hc : charsL s.data.toList = some L) (ha : a = i1) (hbe : b = e0) (hi1 : i1 ≤ e0) (he0 : e0 ≤ L.length) (hr : overR T s a b S = overE (overN T L (e0 - i1) i1 S)) : Calls Tryd.prog 31 #[.pointer (some ⟨r, 0, none⟩), .string s, .int .i64 a, .int .i64 b, .agg #[ov, .int .i64 S.under, .int .i64 S.inn, .bool S.comment, .int .i64 S.start, .bool S.quoted]] w fun e w' => ∃ A c, e = .returned (.tuple #[staV A c (overZ T s a b S).2, .int .i64 (overZ T s a b S).1]) ∧ Rd w' (.slice A (overZ T s a b S).2.opens.length c) 1 (overZ T s a b S).2.opens.length (zints (overZ T s a b S).2.opens) ∧ Below w.heap.size w w' := by
  subst ha hbe
  obtain ⟨oA, oc, rfl, _⟩ := id hov
  obtain ⟨ol, hol'⟩ : ∃ z, z = S.opens.length := ⟨_, rfl⟩
  have HOL := hide hol'
  have hb0 : Below w.heap.size w ((w.alloc (.cells (staC (.slice oA ol oc) S) 50)).alloc (.cells stZ 50)) := ((Below.refl _ w).alloc (Nat.le_refl _) _).alloc (by simp) _
  have HB0 := hide hb0
  have HX9 := hide ((Blk.new w 50 (staC (.slice oA ol oc) S)).alloc (.cells stZ 50))
  have HX10 := hide (show Blk ((w.alloc (.cells (staC (.slice oA ol oc) S) 50)).alloc (.cells stZ 50)) (w.heap.size + 1) 50 stZ by
    have := Blk.new (w.alloc (.cells (staC (.slice oA ol oc) S) 50)) 50 stZ
    rwa [World.size_alloc] at this)
  have HT := hide (h.below hb0)
  have HOV := hide (hov.belowN hb0)
  rw [← hol'] at HOV ⊢
  obtain ⟨w1, hw1⟩ : ∃ y : World, y = (w.alloc (.cells (staC (.slice oA ol oc) S) 50)).alloc (.cells stZ 50) := ⟨_, rfl⟩
  have HW1 := hide (show w1 = (w.alloc (.cells #[.slice oA ol oc, .int .i64 S.under, .int .i64 S.inn, .bool S.comment, .int .i64 S.start, .bool S.quoted] 50)).alloc (.cells #[.slice none 0 0, .int .i64 0, .int .i64 0, .bool false, .int .i64 0, .bool false] 50) from hw1)
  rw [← hw1] at HB0 HX9 HX10 HT HOV
  have hol9 : (ol : Int) ≤ 1000 := by omega
  have HTW := hide h
  have HLS := hide (rl_own (w := w1) (s := s) (by omega) hc)
  obtain ⟨n, hn⟩ : ∃ n, n = L.length := ⟨_, rfl⟩
  have hl9 : (n : Int) ≤ 1000000 := by have h9 : L.length ≤ s.size := chars_le _ _ hc; omega
  have HN := hide hn
  rw [← hn] at HLS he0
  obtain ⟨R, hR⟩ : ∃ R, R = overN T L (e0 - i1) i1 S := ⟨_, rfl⟩
  have HR := hide hR
  have HZE := hide (show overZ T s i1 e0 S = ((overE R).1, (overE R).2.getD sta0) by unfold overZ; rw [hr, hR])
  have HU := hide hu
  have HI1 := hide hi1
  have HE0 := hide he0
  have HOLL := hide hol
  have q1 : decide ((i1 : Int) < 0) = false := by simp
  have q2 : ¬ (i1 : Int) < 0 := by omega
  have q3 : decide ((e0 : Int) < (i1 : Int)) = false := by simp; omega
  have q4 : ¬ (e0 : Int) < (i1 : Int) := by omega
  have q5 : decide ((n : Int) < (e0 : Int)) = false := by simp; omega
  have q6 : ¬ (n : Int) < (e0 : Int) := by omega
  have q7 : decide (e0 < i1) = false := by simp; omega
  have q8 : decide (n < e0) = false := by simp; omega
  have he9 : (e0 : Int) ≤ 1000000 := by omega
  obtain ⟨i0, hi, hi2, hi3, hi4⟩ := info_parts info_nt2
  have HI := hide hi
  have HI1' := hide hi2
  have HI2 := hide hi3
  have HI3 := hide hi4
  clear hu hc hi1 he0 hr hn hR hi hi2 hi3 hi4
  clear h hov hol hol' hb0 hw1
  go_enter Tryd.func31, Tryd.ntmps31
  go_wp2_with (first | (rw [← HW1.out]; (go_at_call 12; (with_reducible refine Calls.mono HLS.out ?_); rintro e w2 ⟨A, c, rfl, b2, sl2⟩; have HB2 := hide (HB0.out.trans (b2.mono HB0.out.size)); have HY := hide (HX10.out.below b2 HX10.out.lt); have z0 := HY.out.zero.1; have z1 := HY.out.zero.2.1; have z2 := HY.out.zero.2.2.1; have z3 := HY.out.zero.2.2.2.1; have z4 := HY.out.zero.2.2.2.2.1; have z5 := HY.out.zero.2.2.2.2.2.1; have g0 := HY.out.frozen 0; have g1 := HY.out.frozen 1; have g2 := HY.out.frozen 2; have g3 := HY.out.frozen 3; have g4 := HY.out.frozen 4; have g5 := HY.out.frozen 5; have HZ := hide (HX9.out.below b2 HX9.out.lt); have HZ2 := hide (HX9.out.below b2 HX9.out.lt); have HCS := hide sl2; have ka0 : (w2.alloc (.cells #[] 3)).cell? ⟨w.heap.size, 0, none⟩ = some (.slice oA ol oc) := (HZ.out.alloc _).cell 0; have HR2 := hide ((HOV.out.belowN (b2.trans ((below_box w2 (.cells #[] 3)).mono b2.size)))); have HEM := hide (show Sl (w2.alloc (.cells #[] 3)) 3 1 (.slice (some ⟨w2.heap.size, 0, none⟩) 0 0) 0 [] by simpa using Sl.new w2 3 1 #[] 0 0 (Nat.le_refl _) (by simp [maxLen]) (by simp)); clear b2 sl2)) | (at_builtin; refine wpList_append_sl rfl (.tmp 39) (.tmp 41) 24 rfl 3 i0 (.int .i64 0) 1 8 Tryd.underlying24 HI.out HI1'.out HI2.out HI3.out rfl (.slice (some ⟨w2.heap.size, 0, none⟩) 0 0) 0 [] rfl HEM.out _ rfl ol (zints S.opens) HR2.out (fun u hu => by obtain ⟨z, _, rfl⟩ := List.mem_map.1 hu; rfl) ?b1 ?b2 ?_))
  case b1 => unfold maxLen; omega
  case b2 => omega
  intro v4 w4 hs4 ho4 hv4
  have hf4 := fresh_step ((below_box w2 (.cells #[] 3))) (by intro g hg; cases hg; exact Nat.le_refl _) ho4 (by rw [World.size_alloc]; exact hv4)
  have HF4 := hide hf4.1
  have HS4 := hide (show Sl w4 3 1 v4 ol (zints S.opens) by simpa using hs4)
  obtain ⟨A4, c4, rfl, _, _⟩ := HS4.out.form
  have HZ4 := hide (HZ.out.below hf4.1 HZ.out.lt)
  have r0 : w4.cell? ⟨w.heap.size, 0, none⟩ = some (.slice oA ol oc) := HZ4.out.cell 0
  have r1 := HZ4.out.frozen 0
  clear hs4 ho4 hv4 hf4 ka0
  go_wp2_with fail
  obtain ⟨w5, hw5⟩ : ∃ y : World, y = w4.setCell ⟨w.heap.size, 0, none⟩ (.slice A4 ol c4) := ⟨_, rfl⟩
  have HW5 := hide hw5
  have HO5 := hide (show Only (· = w.heap.size) w2 w5 by rw [hw5]; exact (Only.of_below (F := fun k => k = w.heap.size) HF4.out).setCell (p := ⟨w.heap.size, 0, none⟩) (.inl rfl) _)
  have HZ5 := hide (show Blk w5 w.heap.size 50 (staC (.slice A4 S.opens.length c4) S) by rw [hw5, ← HOL.out]; exact HZ4.out.set_ 0 _)
  have HS5 := hide (show Sl w5 3 1 (.slice A4 S.opens.length c4) S.opens.length (zints S.opens) by
    rw [hw5, ← HOL.out]
    exact HS4.out.only ((Only.refl (· = w.heap.size) w4).setCell (p := ⟨w.heap.size, 0, none⟩) (.inl rfl) _) fun g hg e => by
      subst e
      exact HS4.out.ne_blk HZ4.out (by decide) hg)
  clear hw5 r0 r1
  go_loopw [14] (fun iv wr => ∃ (i : Nat) (S1 : Sta) (A5 : Option Addr) (k5 : Nat), iv = .int .i64 (i : Int) ∧ i1 ≤ i ∧ i ≤ e0 ∧ overN T L (e0 - i) i S1 = R ∧ Blk wr w.heap.size 50 (staC (.slice A5 S1.opens.length k5) S1) ∧ Sl wr 3 1 (.slice A5 S1.opens.length k5) S1.opens.length (zints S1.opens) ∧ S1.opens.length ≤ 1000 ∧ (-9223372036854775808 ≤ S1.under ∧ S1.under ≤ 9223372036854775807) ∧ Only (· = w.heap.size) w2 wr) (fun iv _ => e0 - (intOf iv).toNat)
  case atStart => exact ⟨i1, S, A4, c4, rfl, Nat.le_refl _, HI1.out, HR.out.symm, by rw [← HW5.out]; exact HZ5.out, by rw [← HW5.out]; exact HS5.out, HOLL.out, HU.out, by rw [← HW5.out]; exact HO5.out⟩
  case round =>
    clear HZ5 HS5 HO5 HZ4 HS4 HF4 HW5 HZ
    obtain ⟨i, S1, A5, k5, rfl, h1, h2, he, hz, hs5, hl5, hu5, ho⟩ := hrel
    have HZ := hide hz
    have HSS := hide hs5
    have HO := hide ho
    have HE := hide he
    have HU5 := hide hu5
    have HL5 := hide hl5
    have HH1 := hide h1
    have HH2 := hide h2
    have hi9 : (i : Int) ≤ 1000000 := by omega
    have HBW := hide (HB2.out.trans (ho.below HB2.out.size fun k e => by rw [e]; exact Nat.le_refl _))
    have HYR := hide (HY.out.only ho (by intro e; omega))
    obtain ⟨l5, hl5'⟩ : ∃ z, z = S1.opens.length := ⟨_, rfl⟩
    have HL5E := hide hl5'
    have HZB := hide (show Blk wr w.heap.size 50 (staC (.slice A5 l5 k5) S1) by rw [hl5']; exact hz)
    have hl59 : (l5 : Int) ≤ 1000 := by omega
    have wi : IntKind.i64.wrap ((i : Int) + 1) = ((i + 1 : Nat) : Int) := by rw [IntWalk.i64_in _ (by omega)]; omega
    have u0 : wr.cell? ⟨w.heap.size, 0, none⟩ = some (.slice A5 l5 k5) := HZB.out.cell 0
    have u1 : wr.cell? ⟨w.heap.size, 1, none⟩ = some (.int .i64 S1.under) := HZB.out.cell 1
    have u2 : wr.cell? ⟨w.heap.size, 2, none⟩ = some (.int .i64 S1.inn) := HZB.out.cell 2
    have u3 : wr.cell? ⟨w.heap.size, 3, none⟩ = some (.bool S1.comment) := HZB.out.cell 3
    have u4 : wr.cell? ⟨w.heap.size, 4, none⟩ = some (.int .i64 S1.start) := HZB.out.cell 4
    have u5 : wr.cell? ⟨w.heap.size, 5, none⟩ = some (.bool S1.quoted) := HZB.out.cell 5
    by_cases hlt : i < e0
    · have x1 : decide (i < e0) = true := by simpa using hlt
      have x2 : decide ((i : Int) < (e0 : Int)) = true := by simp; omega
      have x3 : (i : Int) < (e0 : Int) := by omega
      have y1 : decide (i < n) = true := by have := HE0.out; simp; omega
      have y2 : decide ((i : Int) < (n : Int)) = true := by have := HE0.out; simp; omega
      have y3 : (i : Int) < (n : Int) := by have := HE0.out; omega
      have HLT := hide hlt
      have hch := HCS.out.only ho (fun g hg e => by subst e; exact HCS.out.ne_blk HZ2.out (by decide) hg)
      obtain ⟨gt, ot, ct, eA, _, _, hcel, _, _⟩ := hch.at_ (by omega)
      cases eA
      obtain ⟨cn, hcn⟩ : ∃ z : Nat, z = L.getD i 0 := ⟨_, rfl⟩
      obtain ⟨ch, hch2⟩ : ∃ z : Int, z = (cn : Int) := ⟨_, rfl⟩
      have HCN := hide hcn
      have d0 := hcel i (.int .i64 ch) (by rw [hch2, hcn]; have h9 : i < L.length := by have := HN.out; have := HE0.out; omega
                                           simp [ints, List.getD, List.getElem?_eq_getElem h9])
      have HD0 := hide d0
      have HK0 := hide u0
      have HK1 := hide u1
      have HK2 := hide u2
      have HK3 := hide u3
      have HK4 := hide u4
      have HK5 := hide u5
      have HSTP := hide (fun (y : World) (hb : Below wr.heap.size wr y) => (show Calls Tryd.prog 64 #[.pointer (some ⟨r, 0, none⟩), .agg #[.slice A5 l5 k5, .int .i64 S1.under, .int .i64 S1.inn, .bool S1.comment, .int .i64 S1.start, .bool S1.quoted], .int .i64 ch, .int .i64 (i : Int)] y (StepRes y (S1.step T cn i)) from by
        have h9 := rstep_any (HTW.out.below (HBW.out.trans (hb.mono HBW.out.size))) A5 k5 S1 (HSS.out.only (Only.of_below (F := fun _ => False) hb) fun _ _ f => f) (by have := HL5.out; omega) HU5.out cn i
        rw [hch2, HL5E.out]
        exact h9))
      clear h1 h2 he hz hs5 hl5 hu5 ho hl5' hlt hch hcel hcn u0 u1 u2 u3 u4 u5 d0 hch2
      go_upto_region 10 with fail
      have HB6 := hide ((Below.refl wr.heap.size wr).drew)
      refine wp_region_d (S := fun y => (y.cell? ⟨w.heap.size, 0, none⟩ = some (.slice A5 l5 k5) ∧ y.cell? ⟨w.heap.size, 1, none⟩ = some (.int .i64 S1.under) ∧ y.cell? ⟨w.heap.size, 2, none⟩ = some (.int .i64 S1.inn) ∧ y.cell? ⟨w.heap.size, 3, none⟩ = some (.bool S1.comment) ∧ y.cell? ⟨w.heap.size, 4, none⟩ = some (.int .i64 S1.start) ∧ y.cell? ⟨w.heap.size, 5, none⟩ = some (.bool S1.quoted) ∧ y.cell? ⟨gt, ot + i, none⟩ = some (.int .i64 ch))) (D := [8]) (by kernel_rfl) ?_
      change wpAnyD _ _ _ _ _ _ _ _ _ wr.drew
      obtain ⟨w6, hw6⟩ : ∃ y : World, y = wr.drew := ⟨_, rfl⟩
      rw [← hw6] at HB6 ⊢
      clear hw6
      have HKS := hide (fun (y : World) (hb : Below wr.heap.size wr y) => (show (y.cell? ⟨w.heap.size, 0, none⟩ = some (.slice A5 l5 k5) ∧ y.cell? ⟨w.heap.size, 1, none⟩ = some (.int .i64 S1.under) ∧ y.cell? ⟨w.heap.size, 2, none⟩ = some (.int .i64 S1.inn) ∧ y.cell? ⟨w.heap.size, 3, none⟩ = some (.bool S1.comment) ∧ y.cell? ⟨w.heap.size, 4, none⟩ = some (.int .i64 S1.start) ∧ y.cell? ⟨w.heap.size, 5, none⟩ = some (.bool S1.quoted) ∧ y.cell? ⟨gt, ot + i, none⟩ = some (.int .i64 ch)) from ⟨cell_keep HK0.out hb, cell_keep HK1.out hb, cell_keep HK2.out hb, cell_keep HK3.out hb, cell_keep HK4.out hb, cell_keep HK5.out hb, cell_keep HD0.out hb⟩))
      have hS := HKS.out w6 HB6.out
      have HST := hide (HSTP.out w6 HB6.out)
      refine wpAnyD_takeW (i := 0) (oi := { dst := some 50, op := Op.move (Operand.tmp 0), type := 29, pos := "ref.go:136", after := #[], guard := none }) (v := ?_) rfl (by kernel_rfl) (by kernel_rfl) (by kernel_rfl) (fun _ _ _ h => h) (Or.inl ⟨by rfl, ?_⟩) ?_
      rotate_left
      · intro w hSw
        clear hSw
        go_simp
        all_goals with_reducible rfl
      simp only [Act.put, List.setIfInBounds_toArray, List.set_cons_zero, List.set_cons_succ]
      refine wpAnyD_take (i := 1) (oi := { dst := some 51, op := Op.load 50 (Operand.tmp 9), type := 50, pos := "ref.go:136", after := #[], guard := none }) (v := ?_) rfl (by kernel_rfl) (by kernel_rfl) (by kernel_rfl) (by kernel_rfl) (by kernel_rfl) (fun _ _ _ h => h) (Or.inl ⟨by rfl, ?_⟩) hS ?_
      rotate_left
      · intro w hSw
        obtain ⟨s0, s1, s2, s3, s4, s5, s6⟩ := hSw
        go_simp
        all_goals with_reducible rfl
      simp only [Act.put, List.setIfInBounds_toArray, List.set_cons_zero, List.set_cons_succ]
      refine wpAnyD_takeW (i := 2) (oi := { dst := some 52, op := Op.move (Operand.tmp 12), type := 24, pos := "ref.go:136", after := #[], guard := none }) (v := ?_) rfl (by kernel_rfl) (by kernel_rfl) (by kernel_rfl) (fun _ _ _ h => h) (Or.inl ⟨by rfl, ?_⟩) ?_
      rotate_left
      · intro w hSw
        clear hSw
        go_simp
        all_goals with_reducible rfl
      simp only [Act.put, List.setIfInBounds_toArray, List.set_cons_zero, List.set_cons_succ]
      refine wpAnyD_takeW (i := 3) (oi := { dst := some 53, op := Op.move (Operand.tmp 14), type := 3, pos := "ref.go:136", after := #[], guard := none }) (v := ?_) rfl (by kernel_rfl) (by kernel_rfl) (by kernel_rfl) (fun _ _ _ h => h) (Or.inl ⟨by rfl, ?_⟩) ?_
      rotate_left
      · intro w hSw
        clear hSw
        go_simp
        all_goals with_reducible rfl
      simp only [Act.put, List.setIfInBounds_toArray, List.set_cons_zero, List.set_cons_succ]
      refine wpAnyD_takeW (i := 4) (oi := { dst := some 54, op := Op.indexAddr 24 (Operand.tmp 52) (Operand.tmp 53), type := 0, pos := "ref.go:136", after := #[{ on := 2, ground := Ground.data }, { on := 3, ground := Ground.data }], guard := none }) (v := ?_) rfl (by kernel_rfl) (by kernel_rfl) (by kernel_rfl) (fun _ _ _ h => h) (Or.inl ⟨by rfl, ?_⟩) ?_
      rotate_left
      · intro w hSw
        clear hSw
        go_simp
        all_goals with_reducible rfl
      simp only [Act.put, List.setIfInBounds_toArray, List.set_cons_zero, List.set_cons_succ]
      refine wpAnyD_take (i := 5) (oi := { dst := some 55, op := Op.load 3 (Operand.tmp 54), type := 3, pos := "ref.go:136", after := #[{ on := 4, ground := Ground.data }], guard := none }) (v := ?_) rfl (by kernel_rfl) (by kernel_rfl) (by kernel_rfl) (by kernel_rfl) (by kernel_rfl) (fun _ _ _ h => h) (Or.inl ⟨by rfl, ?_⟩) hS ?_
      rotate_left
      · intro w hSw
        obtain ⟨s0, s1, s2, s3, s4, s5, s6⟩ := hSw
        go_simp
        all_goals with_reducible rfl
      simp only [Act.put, List.setIfInBounds_toArray, List.set_cons_zero, List.set_cons_succ]
      refine wpAnyD_takeW (i := 6) (oi := { dst := some 56, op := Op.move (Operand.tmp 14), type := 3, pos := "ref.go:136", after := #[], guard := none }) (v := ?_) rfl (by kernel_rfl) (by kernel_rfl) (by kernel_rfl) (fun _ _ _ h => h) (Or.inl ⟨by rfl, ?_⟩) ?_
      rotate_left
      · intro w hSw
        clear hSw
        go_simp
        all_goals with_reducible rfl
      simp only [Act.put, List.setIfInBounds_toArray, List.set_cons_zero, List.set_cons_succ]
      clear hS
      refine wpAnyD_one (i := 7) (o := { dst := some 57, op := Op.call { callee := Callee.value (Operand.func 64), args := #[Operand.tmp 50, Operand.tmp 51, Operand.tmp 55, Operand.tmp 56], argTypes := #[29, 50, 3, 3] }, type := 50, pos := "ref.go:136", after := #[{ on := 0, ground := Ground.data }, { on := 1, ground := Ground.data }, { on := 5, ground := Ground.data }, { on := 6, ground := Ground.data }], guard := none }) (by kernel_rfl) rfl (fun K hK => ?_)
      go_simp
      (with_reducible refine Calls.mono HST.out ?_)
      rintro r w7 ⟨A7, k7, rfl, sl7, b7⟩
      have HB7 := hide (HB6.out.trans (b7.mono HB6.out.size))
      have HS7 := hide sl7
      have HZ7 := hide (HZB.out.below HB7.out HZB.out.lt)
      have r0 : w7.cell? ⟨w.heap.size, 0, none⟩ = some (.slice A5 l5 k5) := HZ7.out.cell 0
      have r1 : w7.cell? ⟨w.heap.size, 1, none⟩ = some (.int .i64 S1.under) := HZ7.out.cell 1
      have r2 : w7.cell? ⟨w.heap.size, 2, none⟩ = some (.int .i64 S1.inn) := HZ7.out.cell 2
      have r3 : w7.cell? ⟨w.heap.size, 3, none⟩ = some (.bool S1.comment) := HZ7.out.cell 3
      have r4 : w7.cell? ⟨w.heap.size, 4, none⟩ = some (.int .i64 S1.start) := HZ7.out.cell 4
      have r5 : w7.cell? ⟨w.heap.size, 5, none⟩ = some (.bool S1.quoted) := HZ7.out.cell 5
      have q0 := HZ7.out.frozen 0
      have q1 := HZ7.out.frozen 1
      have q2 := HZ7.out.frozen 2
      have q3 := HZ7.out.frozen 3
      have q4 := HZ7.out.frozen 4
      have q5 := HZ7.out.frozen 5
      have hS := HKS.out w7 HB7.out
      refine hK _ _ (fun _ _ => hS) ?_
      clear hK K b7 sl7 hS
      unfold staV
      try simp only [Act.put, List.setIfInBounds_toArray, List.set_cons_zero, List.set_cons_succ]
      refine wpAnyD_one (i := 8) (o := { dst := none, op := Op.store 50 (Operand.tmp 9) (Operand.tmp 57), type := 0, pos := "ref.go:136", after := #[{ on := 7, ground := Ground.data }, { on := 7, ground := Ground.chain }, { on := 0, ground := Ground.phase }, { on := 1, ground := Ground.phase }, { on := 2, ground := Ground.phase }, { on := 3, ground := Ground.phase }, { on := 4, ground := Ground.phase }, { on := 5, ground := Ground.phase }, { on := 6, ground := Ground.phase }, { on := 7, ground := Ground.phase }], guard := none }) (by kernel_rfl) rfl (fun K hK => ?_)
      go_simp
      refine hK _ _ (fun h => by cases h) ?_
      clear hK K
      try simp only [Act.put, List.setIfInBounds_toArray, List.set_cons_zero, List.set_cons_succ]
      refine wpAnyD_done (by kernel_rfl) ?_ _
      have HZN := hide ((((((HZ7.out.set_ 0 (.slice A7 (S1.step T cn i).opens.length k7)).set_ 1 (.int .i64 (S1.step T cn i).under)).set_ 2 (.int .i64 (S1.step T cn i).inn)).set_ 3 (.bool (S1.step T cn i).comment)).set_ 4 (.int .i64 (S1.step T cn i).start)).set_ 5 (.bool (S1.step T cn i).quoted))
      have HON := hide (show Only (· = w.heap.size) w2 (((((w7.setCell ⟨w.heap.size, 0, none⟩ (.slice A7 (S1.step T cn i).opens.length k7)).setCell ⟨w.heap.size, 1, none⟩ (.int .i64 (S1.step T cn i).under)).setCell ⟨w.heap.size, 2, none⟩ (.int .i64 (S1.step T cn i).inn)).setCell ⟨w.heap.size, 3, none⟩ (.bool (S1.step T cn i).comment)).setCell ⟨w.heap.size, 4, none⟩ (.int .i64 (S1.step T cn i).start) |>.setCell ⟨w.heap.size, 5, none⟩ (.bool (S1.step T cn i).quoted)) from
        ((((((HO.out.trans (Only.of_below HB7.out)).setCell (p := ⟨w.heap.size, 0, none⟩) (.inl rfl) _).setCell (p := ⟨w.heap.size, 1, none⟩) (.inl rfl) _).setCell (p := ⟨w.heap.size, 2, none⟩) (.inl rfl) _).setCell (p := ⟨w.heap.size, 3, none⟩) (.inl rfl) _).setCell (p := ⟨w.heap.size, 4, none⟩) (.inl rfl) _).setCell (p := ⟨w.heap.size, 5, none⟩) (.inl rfl) _)
      obtain ⟨w8, hw8⟩ : ∃ y : World, y = (((((w7.setCell ⟨w.heap.size, 0, none⟩ (.slice A7 (S1.step T cn i).opens.length k7)).setCell ⟨w.heap.size, 1, none⟩ (.int .i64 (S1.step T cn i).under)).setCell ⟨w.heap.size, 2, none⟩ (.int .i64 (S1.step T cn i).inn)).setCell ⟨w.heap.size, 3, none⟩ (.bool (S1.step T cn i).comment)).setCell ⟨w.heap.size, 4, none⟩ (.int .i64 (S1.step T cn i).start) |>.setCell ⟨w.heap.size, 5, none⟩ (.bool (S1.step T cn i).quoted)) := ⟨_, rfl⟩
      rw [← hw8] at HZN HON ⊢
      have HSN := hide (show Sl w8 3 1 (.slice A7 (S1.step T cn i).opens.length k7) (S1.step T cn i).opens.length (zints (S1.step T cn i).opens) by
        rw [hw8]
        exact HS7.out.only (((((((Only.refl (· = w.heap.size) w7).setCell (p := ⟨w.heap.size, 0, none⟩) (.inl rfl) _).setCell (p := ⟨w.heap.size, 1, none⟩) (.inl rfl) _).setCell (p := ⟨w.heap.size, 2, none⟩) (.inl rfl) _).setCell (p := ⟨w.heap.size, 3, none⟩) (.inl rfl) _).setCell (p := ⟨w.heap.size, 4, none⟩) (.inl rfl) _).setCell (p := ⟨w.heap.size, 5, none⟩) (.inl rfl) _) fun g hg e => by
          subst e
          exact HS7.out.ne_blk HZ7.out (by decide) hg)
      clear hw8 r0 r1 r2 r3 r4 r5 q0 q1 q2 q3 q4 q5
      obtain ⟨S2, hS2⟩ : ∃ z, z = S1.step T cn i := ⟨_, rfl⟩
      have HSE := hide hS2
      have HLN2 := hide (show S2.opens.length ≤ 1001 by rw [hS2]; have h9 := step_len (T := T) S1 cn i; have := HL5.out; omega)
      have HUN2 := hide (show -9223372036854775808 ≤ S2.under ∧ S2.under ≤ 9223372036854775807 by rw [hS2]; exact step_up S1 cn i HU5.out)
      rw [← hS2] at HZN HSN
      have v0 := HZN.out.cell 0
      obtain ⟨l7, hl7⟩ : ∃ z, z = S2.opens.length := ⟨_, rfl⟩
      have HL7 := hide hl7
      have v0' : w8.cell? ⟨w.heap.size, 0, none⟩ = some (.slice A7 l7 k7) := by rw [hl7]; exact v0
      have hl79 : (l7 : Int) ≤ 1001 := by have := HLN2.out; omega
      clear v0 hS2 hl7
      have HM := hide (show ∃ m, e0 - i = m + 1 ∧ e0 - (i + 1) = m from ⟨e0 - (i + 1), by have := HLT.out; omega, rfl⟩)
      by_cases hdp : 200 < l7
      · have p1 : decide (200 < l7) = true := by simpa using hdp
        have p2 : decide ((200 : Int) < (l7 : Int)) = true := by simp; omega
        have p3 : (200 : Int) < (l7 : Int) := by omega
        have HEE := hide (show overZ T s i1 e0 S = (12, sta0) by
          obtain ⟨m, m1, m2⟩ := HM.out
          have h9 := HE.out
          rw [m1, overN_stop (S' := S2) (by rw [← HCN.out]; exact HSE.out.symm) (by rw [← HL7.out]; exact hdp)] at h9
          rw [HZE.out, ← h9]
          rfl)
        have HYN := hide (HY.out.only HON.out (by intro e; omega))
        have HBN := hide (HB2.out.trans (HON.out.below HB2.out.size fun k e => by rw [e]; exact Nat.le_refl _))
        have zz0 := HYN.out.zero.1
        have zz1 := HYN.out.zero.2.1
        have zz2 := HYN.out.zero.2.2.1
        have zz3 := HYN.out.zero.2.2.2.1
        have zz4 := HYN.out.zero.2.2.2.2.1
        have zz5 := HYN.out.zero.2.2.2.2.2.1
        have gg0 := HYN.out.frozen 0
        have gg1 := HYN.out.frozen 1
        have gg2 := HYN.out.frozen 2
        have gg3 := HYN.out.frozen 3
        have gg4 := HYN.out.frozen 4
        have gg5 := HYN.out.frozen 5
        clear hdp
        go_wp2_with fail
        refine bodyPost_ret (results_cell_tmp2 rfl _ _ (w.heap.size + 1) 50 _ (0, 0) _ rfl (HYN.out.row6 _ _ _ _ _ _) Tryd.underlying50 rfl (by kernel_rfl)) rfl ?_
        exact ⟨none, 0, by rw [HEE.out]; rfl, by rw [HEE.out]; exact Rd.nil _ _, below6 HBN.out (Nat.le_succ _) _ _ _ _ _ _⟩
      · have p1 : decide (200 < l7) = false := by simpa using hdp
        have p2 : decide ((200 : Int) < (l7 : Int)) = false := by simp; omega
        have p3 : ¬ (200 : Int) < (l7 : Int) := by omega
        have HNX := hide (show overN T L (e0 - (i + 1)) (i + 1) S2 = R by
          obtain ⟨m, m1, m2⟩ := HM.out
          have h9 := HE.out
          rw [m1, overN_go (S' := S2) (by rw [← HCN.out]; exact HSE.out.symm) (by rw [← HL7.out]; exact hdp)] at h9
          rw [m2]
          exact h9)
        have HLE := hide (show S2.opens.length ≤ 1000 by have := HL7.out; omega)
        clear hdp
        go_wp2_with fail
        go_roundw
        case rel => exact ⟨i + 1, S2, A7, k7, rfl, by have := HH1.out; omega, HLT.out, HNX.out, HZN.out, HSN.out, HLE.out, HUN2.out, HON.out⟩
        case measure => have := HLT.out; simp [intOf]; omega
    · obtain rfl : i = e0 := by omega
      have x1 : decide (i < i) = false := by simp
      have x2 : decide ((i : Int) < (i : Int)) = false := by simp
      have x3 : ¬ (i : Int) < (i : Int) := by omega
      have HEE := hide (show overZ T s i1 i S = (0, S1) by
        rw [Nat.sub_self] at he
        have h9 : some S1 = R := he
        rw [HZE.out, ← h9]
        rfl)
      have zz0 := HYR.out.zero.1
      have zz1 := HYR.out.zero.2.1
      have zz2 := HYR.out.zero.2.2.1
      have zz3 := HYR.out.zero.2.2.2.1
      have zz4 := HYR.out.zero.2.2.2.2.1
      have zz5 := HYR.out.zero.2.2.2.2.2.1
      have gg0 := HYR.out.frozen 0
      have gg1 := HYR.out.frozen 1
      have gg2 := HYR.out.frozen 2
      have gg3 := HYR.out.frozen 3
      have gg4 := HYR.out.frozen 4
      have gg5 := HYR.out.frozen 5
      clear h1 h2 he hz hs5 hl5 hu5 ho hl5' hlt
      go_wp2_with fail
      refine bodyPost_ret (results_cell_tmp2 rfl _ _ (w.heap.size + 1) 50 _ (0, 0) _ rfl (HYR.out.row6 _ _ _ _ _ _) Tryd.underlying50 rfl (by kernel_rfl)) rfl ?_
      refine ⟨A5, k5, by rw [HEE.out, HL5E.out]; rfl, ?_, below6 HBW.out (Nat.le_succ _) _ _ _ _ _ _⟩
      rw [HEE.out]
      exact (HSS.out.only (((((((Only.refl (· = w.heap.size + 1) wr).setCell (p := ⟨w.heap.size + 1, 0, none⟩) (.inl rfl) _).setCell (p := ⟨w.heap.size + 1, 1, none⟩) (.inl rfl) _).setCell (p := ⟨w.heap.size + 1, 2, none⟩) (.inl rfl) _).setCell (p := ⟨w.heap.size + 1, 3, none⟩) (.inl rfl) _).setCell (p := ⟨w.heap.size + 1, 4, none⟩) (.inl rfl) _).setCell (p := ⟨w.heap.size + 1, 5, none⟩) (.inl rfl) _) fun g hg e => by
        subst e
        exact HSS.out.ne_blk HYR.out (by decide) hg).rd
theorem rover_any (h : RT w r T) (s : ByteArray) (hs : s.size ≤ 1000000) (a b : Int) (ov : Value) (S : Sta) (hov : Rd w ov 1 S.opens.length (zints S.opens)) (hol : S.opens.length ≤ 1000) (hu : -9223372036854775808 ≤ S.under ∧ S.under ≤ 9223372036854775807) : Calls Tryd.prog 31 #[.pointer (some ⟨r, 0, none⟩), .string s, .int .i64 a, .int .i64 b, .agg #[ov, .int .i64 S.under, .int .i64 S.inn, .bool S.comment, .int .i64 S.start, .bool S.quoted]] w fun e w' => ∃ A c, e = .returned (.tuple #[staV A c (overZ T s a b S).2, .int .i64 (overZ T s a b S).1]) ∧ Rd w' (.slice A (overZ T s a b S).2.opens.length c) 1 (overZ T s a b S).2.opens.length (zints (overZ T s a b S).2.opens) ∧ Below w.heap.size w w' := by
  rcases overR_cases T s a b S with h1 | h1 | ⟨L, i0, e0, hc, h2, h3, h4, h5, h6⟩
  · exact rover_bad h s hs a b ov S hov hol (.inl h1)
  · exact rover_bad h s hs a b ov S hov hol (.inr h1)
  · exact rover_ok h s hs a b ov S hov hol hu hc h2 h3 h4 h5 h6
end
end Go.Proofs.YtdojcgefiekleaaDoor
