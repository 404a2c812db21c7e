/- The reference's Words and Symbol. No condition but those written. -/
import Derived.Test.YtdojcgefiekleaaDoorSec
import Derived.Test.YtdojcgefiekleaaDoorScr
import Derived.Test.YtdojcgefiekleaaDoorScj
namespace Go.Proofs.YtdojcgefiekleaaDoor
open Go.RowKit

section
variable {w : World} {r : Nat} {T : Tb}
theorem RSc.of {v : Value} {L : List Nat} (h : RT w r T) (hr : Rd w v 1 L.length (ints L)) (hl : L.length ≤ 1000000) : RSc w r T v L := ⟨h, hr, hl⟩
set_option maxRecDepth 100000 in
set_option maxHeartbeats 8000000 in
theorem rwords_bad (h : RT w r T) (s : ByteArray) (hs : s.size ≤ 1000000) (at_ n : Int) (hbad : (wordsR T s at_ n).2.2 ≠ 0) : Calls Tryd.prog 32 #[.pointer (some ⟨r, 0, none⟩), .string s, .int .i64 at_, .int .i64 n] w fun e w' => e = .returned (wrdV (wordsR T s at_ n)) ∧ Below w.heap.size w w' := by
  have HT := hide h
  cases hc : charsL s.data.toList with
  | none =>
    have HLN := hide (rl_none (w := w) (s := s) (by omega) hc)
    have HE := hide (show wordsR T s at_ n = (0, false, 5) by unfold wordsR; rw [hc])
    clear h hc hbad
    go_enter Tryd.func32, Tryd.ntmps32
    go_wp2_with (go_at_call 12; (with_reducible refine Calls.mono HLN.out ?_); rintro e w2 ⟨rfl, b2⟩; have HB2 := hide b2; clear b2)
    go_ret3
    exact ⟨by rw [HE.out]; rfl, HB2.out⟩
  | some L =>
    have HLS := hide (rl_some (w := w) (s := s) (by omega) hc)
    have HLEN := hide (show L.length ≤ 1000000 by have h9 : L.length ≤ s.size := chars_le _ _ hc; omega)
    have hb : at_ < 0 ∨ (L.length : Int) < at_ := by
      by_cases hb : at_ < 0 ∨ (L.length : Int) < at_
      · exact hb
      · exact absurd (show (wordsR T s at_ n).2.2 = 0 by unfold wordsR; rw [hc]; simp only []; rw [if_neg hb]) hbad
    have HE := hide (show wordsR T s at_ n = (0, false, 3) by unfold wordsR; rw [hc]; simp only []; rw [if_pos hb])
    have hl9 : (L.length : Int) ≤ 1000000 := by have := HLEN.out; omega
    clear h hc hbad
    rcases hb with hb | hb
    · have q1 : decide (at_ < 0) = true := by simpa using hb
      clear hb
      go_enter Tryd.func32, Tryd.ntmps32
      go_wp2_with (go_at_call 12; (with_reducible refine Calls.mono HLS.out ?_); rintro e w2 ⟨A, c, rfl, b2, r2⟩; have HB2 := hide b2; have HSC := hide (RSc.of (HT.out.below b2) r2 HLEN.out); clear b2 r2)
      go_ret3
      exact ⟨by rw [HE.out]; rfl, HB2.out⟩
    · have q1 : decide (at_ < 0) = false := by simp; omega
      have q2 : ¬ at_ < 0 := by omega
      have q3 : decide ((L.length : Int) < at_) = true := by simpa using hb
      clear hb
      go_enter Tryd.func32, Tryd.ntmps32
      go_wp2_with (go_at_call 12; (with_reducible refine Calls.mono HLS.out ?_); rintro e w2 ⟨A, c, rfl, b2, r2⟩; have HB2 := hide b2; have HSC := hide (RSc.of (HT.out.below b2) r2 HLEN.out); clear b2 r2)
      go_ret3
      exact ⟨by rw [HE.out]; rfl, HB2.out⟩
set_option maxRecDepth 100000 in
set_option maxHeartbeats 16000000 in
theorem rwordsF (h : RT w r T) (s : ByteArray) (hs : s.size ≤ 1000000) {L : List Nat} (hc : charsL s.data.toList = some L) (i0 N : Nat) (hi0 : i0 ≤ L.length) (hN : N ≤ 1000000) : Calls Tryd.prog 32 #[.pointer (some ⟨r, 0, none⟩), .string s, .int .i64 (i0 : Int), .int .i64 (N : Int)] w fun e w' => e = .returned (wrdV ((wordsF T L N i0).1, (wordsF T L N i0).2, 0)) ∧ Below w.heap.size w w' := by
  have HT := hide h
  have HLS := hide (rl_some (w := w) (s := s) (by omega) hc)
  have HLEN := hide (show L.length ≤ 1000000 by have h9 : L.length ≤ s.size := chars_le _ _ hc; omega)
  obtain ⟨n, hn⟩ : ∃ n, n = L.length := ⟨_, rfl⟩
  have HN := hide hn
  have hl9 : (n : Int) ≤ 1000000 := by have := HLEN.out; omega
  have hN9 : (N : Int) ≤ 1000000 := by omega
  have q1 : decide ((i0 : Int) < 0) = false := by simp
  have q2 : ¬ (i0 : Int) < 0 := by omega
  have q3 : decide ((n : Int) < (i0 : Int)) = false := by simp; omega
  have q4 : ¬ (n : Int) < (i0 : Int) := by omega
  have q5 : decide (n < i0) = false := by simp; omega
  have HI0 := hide (show i0 ≤ n by omega)
  rw [← hn] at HLS
  clear h hc hi0 hn hN
  go_enter Tryd.func32, Tryd.ntmps32
  go_wp2_with (go_at_call 12; (with_reducible refine Calls.mono HLS.out ?_); rintro e w2 ⟨A, c, rfl, b2, r2⟩; have HB2 := hide b2; have HSC := hide (RSc.of (HT.out.below b2) (by rw [← HN.out]; exact r2) HLEN.out); clear b2 r2)
  go_loopw [2, 13] (fun av kv wr => ∃ (a k : Nat), av = .int .i64 (a : Int) ∧ kv = .int .i64 ((k : Int)) ∧ k ≤ N ∧ a ≤ n ∧ wordsF T L (N - k) a = wordsF T L N i0 ∧ Below w2.heap.size w2 wr) (fun _ kv _ => N - (intOf kv).toNat)
  case atStart => exact ⟨i0, 0, rfl, rfl, Nat.zero_le _, HI0.out, rfl, Below.refl _ _⟩
  case round =>
    obtain ⟨a, k, rfl, rfl, hk, ha, he, hb⟩ := hrel
    have HB0 := hide hb
    have HE := hide he
    have HA := hide ha
    have hk9 : (k : Int) ≤ 1000000 := by omega
    have ha9 : (a : Int) ≤ 1000000 := by omega
    have wk : IntKind.i64.wrap ((k : Int) + 1) = ((k + 1 : Nat) : Int) := by rw [IntWalk.i64_in _ (by omega)]; omega
    by_cases hlt : k < N
    · have p1 : decide ((k : Int) < (N : Int)) = true := by simp; omega
      have p2 : (k : Int) < (N : Int) := by omega
      have HLT := hide hlt
      have HST := hide (show ∃ M, N - k = M + 1 ∧ N - (k + 1) = M from ⟨N - (k + 1), by omega, rfl⟩)
      clear hk ha he hb hlt
      go_wp2_with fail
      go_loopw [2] (fun jv wr => ∃ j : Nat, jv = .int .i64 (j : Int) ∧ j ≤ n ∧ wF T L j = wF T L a ∧ Below w2.heap.size w2 wr) (fun jv _ => n - (intOf jv).toNat)
      case atStart => exact ⟨a, rfl, HA.out, rfl, HB0.out⟩
      case round =>
        obtain ⟨j, rfl, hj, he, hb⟩ := hrel
        have HB := hide hb
        have HE2 := hide he
        have hj9 : (j : Int) ≤ 1000000 := by omega
        by_cases hl : j < n
        · have x1 : decide (j < n) = true := by simpa using hl
          have x2 : decide ((j : Int) < (n : Int)) = true := by simp; omega
          have x3 : (j : Int) < (n : Int) := by omega
          have wj : IntKind.i64.wrap ((j : Int) + 1) = ((j + 1 : Nat) : Int) := by rw [IntWalk.i64_in _ (by omega)]; omega
          have HJL := hide (show j < L.length by have := HN.out; omega)
          obtain ⟨g, off, ch, kj, eA, d0, hkj, hch, HC⟩ := (HSC.out.below hb).look (j := j) (by have := HN.out; omega)
          cases eA
          have HL := hide hl
          by_cases h1 : kj = 1
          · subst h1
            have HK1 := hide (show T.at_ L j = 1 from hkj.out.symm)
            clear hj he hb hl hkj hch
            have HWF := hide (show wF T L a = j by rw [← HE2.out, wF_stop HJL.out HK1.out])
            have HJ1L := HJL
            have e1 : decide (j = n) = false := by have := HL.out; simp; omega
            have e2 : ((j : Int) == (n : Int)) = false := by have := HL.out; simp; omega
            go_wp2_with (go_at_call 35; (with_reducible refine Calls.mono (HC.out _ (Below.refl _ _)) ?_); rintro e w3 ⟨rfl, b3⟩; have HK := hide (HB.out.trans (b3.mono HB.out.size)); clear b3)
            have HBJ := HK
            have HJ1 := hide (show j ≤ n from (Nat.le_of_lt HL.out))
            clear e1 e2 x1 x2 x3 wj d0 HC HK1 HE2 HL
            obtain ⟨j1, hj1⟩ : ∃ z, z = j := ⟨_, rfl⟩
            rw [← hj1] at HWF HJ1L HJ1 ⊢
            clear hj1
            go_loopw [2] (fun jv wr => ∃ j : Nat, jv = .int .i64 (j : Int) ∧ j ≤ n ∧ wE T L j = wE T L j1 ∧ Below w2.heap.size w2 wr) (fun jv _ => n - (intOf jv).toNat)
            case atStart => exact ⟨j1, rfl, HJ1.out, rfl, HBJ.out⟩
            case round =>
              obtain ⟨j, rfl, hj, he, hb⟩ := hrel
              have HB := hide hb
              have HE2 := hide he
              have hj9 : (j : Int) ≤ 1000000 := by omega
              by_cases hl : j < n
              · have x1 : decide (j < n) = true := by simpa using hl
                have x2 : decide ((j : Int) < (n : Int)) = true := by simp; omega
                have x3 : (j : Int) < (n : Int) := by omega
                have wj : IntKind.i64.wrap ((j : Int) + 1) = ((j + 1 : Nat) : Int) := by rw [IntWalk.i64_in _ (by omega)]; omega
                have HJL := hide (show j < L.length by have := HN.out; omega)
                obtain ⟨g, off, ch, kj, eA, d0, hkj, hch, HC⟩ := (HSC.out.below hb).look (j := j) (by have := HN.out; omega)
                cases eA
                have HL := hide hl
                by_cases h1 : kj = 1
                · subst h1
                  have HK1 := hide (show T.at_ L j = 1 from hkj.out.symm)
                  clear hj he hb hl hkj hch
                  have HNX := hide (show wE T L (j + 1) = wE T L j1 by rw [← HE2.out, wE_step HJL.out HK1.out])
                  go_wp2_with (go_at_call 35; (with_reducible refine Calls.mono (HC.out _ (Below.refl _ _)) ?_); rintro e w3 ⟨rfl, b3⟩; have HK := hide (HB.out.trans (b3.mono HB.out.size)); clear b3)
                  go_roundw
                  case rel => exact ⟨j + 1, rfl, HL.out, HNX.out, HK.out⟩
                  case measure => have := HL.out; simp [intOf]; omega
                · have g1 : (kj == 1) = false := by simpa using h1
                  have g2 : (kj != 1) = true := by simpa using h1
                  have HK1 := hide (show T.at_ L j ≠ 1 from by rw [← hkj.out]; exact h1)
                  clear hj he hb hl hkj hch h1
                  have HWE := hide (show wE T L j1 = j by rw [← HE2.out, wE_stop HJL.out HK1.out])
                  have WS := hide (show wordsF T L (N - (k + 1)) j = wordsF T L (N - k) a from by
                    obtain ⟨M, e1, e2⟩ := HST.out
                    rw [e1, e2]
                    show _ = if wF T L a = L.length then (wF T L a, false) else wordsF T L M (wE T L (wF T L a))
                    rw [if_neg (by rw [HWF.out]; exact (Nat.ne_of_lt HJ1L.out)), HWF.out, ← HWE.out])
                  go_wp2_with (go_at_call 35; (with_reducible refine Calls.mono (HC.out _ (Below.refl _ _)) ?_); rintro e w3 ⟨rfl, b3⟩; have HK := hide (HB.out.trans (b3.mono HB.out.size)); clear b3)
                  go_roundw
                  case rel => exact ⟨j, k + 1, rfl, rfl, HLT.out, (Nat.le_of_lt HL.out), by rw [← HE.out]; exact WS.out, HK.out⟩
                  case measure => have := HLT.out; simp [intOf]; omega
              · have x1 : decide (j < n) = false := by simpa using hl
                have x2 : decide ((j : Int) < (n : Int)) = false := by simp; omega
                have x3 : ¬ (j : Int) < (n : Int) := by omega
                have HJN := hide (show j = n by omega)
                clear hj he hb hl
                have HWE := hide (show wE T L j1 = j by rw [← HE2.out, wE_end (by have := HN.out; have := HJN.out; omega)])
                have WS := hide (show wordsF T L (N - (k + 1)) j = wordsF T L (N - k) a from by
                  obtain ⟨M, e1, e2⟩ := HST.out
                  rw [e1, e2]
                  show _ = if wF T L a = L.length then (wF T L a, false) else wordsF T L M (wE T L (wF T L a))
                  rw [if_neg (by rw [HWF.out]; exact (Nat.ne_of_lt HJ1L.out)), HWF.out, ← HWE.out])
                go_wp2_with fail
                go_roundw
                case rel => exact ⟨j, k + 1, rfl, rfl, HLT.out, by have := HJN.out; omega, by rw [← HE.out]; exact WS.out, HB.out⟩
                case measure => have := HLT.out; simp [intOf]; omega
          · have g1 : (kj == 1) = false := by simpa using h1
            have g2 : (kj != 1) = true := by simpa using h1
            have HK1 := hide (show T.at_ L j ≠ 1 from by rw [← hkj.out]; exact h1)
            clear hj he hb hl hkj hch h1
            have HNX := hide (show wF T L (j + 1) = wF T L a by rw [← HE2.out, wF_step HJL.out HK1.out])
            go_wp2_with (go_at_call 35; (with_reducible refine Calls.mono (HC.out _ (Below.refl _ _)) ?_); rintro e w3 ⟨rfl, b3⟩; have HK := hide (HB.out.trans (b3.mono HB.out.size)); clear b3)
            go_roundw
            case rel => exact ⟨j + 1, rfl, HL.out, HNX.out, HK.out⟩
            case measure => have := HL.out; simp [intOf]; omega
        · have x1 : decide (j < n) = false := by simpa using hl
          have x2 : decide ((j : Int) < (n : Int)) = false := by simp; omega
          have x3 : ¬ (j : Int) < (n : Int) := by omega
          have HJN := hide (show j = n by omega)
          clear hj he hb hl
          have e1 : decide (j = n) = true := by have := HJN.out; simp; omega
          have e2 : ((j : Int) == (n : Int)) = true := by have := HJN.out; simp; omega
          have HF := hide (show wordsF T L N i0 = (j, false) from by
            obtain ⟨M, e1, e2⟩ := HST.out
            have hw : wF T L a = j := by rw [← HE2.out, wF_end (by have := HN.out; have := HJN.out; omega)]
            rw [← HE.out, e1]
            show (if wF T L a = L.length then (wF T L a, false) else wordsF T L M (wE T L (wF T L a))) = _
            rw [if_pos (by have := HN.out; have := HJN.out; omega), hw])
          go_wp2_with fail
          go_ret3
          exact ⟨by rw [HF.out]; rfl, HB2.out.trans (HB.out.mono HB2.out.size)⟩
    · obtain rfl : k = N := by omega
      have p1 : decide ((k : Int) < (k : Int)) = false := by simp
      have p2 : ¬ (k : Int) < (k : Int) := by omega
      have HF := hide (show wordsF T L k i0 = (a, true) by rw [← he, Nat.sub_self]; rfl)
      clear hk ha he hb hlt
      go_wp2_with fail
      go_loopw [2, 14] (fun av kv wq => av = .int .i64 (a : Int) ∧ kv = .int .i64 0 ∧ wr = wq) (fun _ _ _ => 0)
      case atStart => exact ⟨rfl, rfl, rfl⟩
      case round =>
        obtain ⟨rfl, rfl, rfl⟩ := hrel
        have p3 : decide ((k : Int) < 0) = false := by simp
        have p4 : ¬ (k : Int) < 0 := by omega
        go_wp2_with fail
        go_ret3
        exact ⟨by rw [HF.out]; rfl, HB2.out.trans (HB0.out.mono HB2.out.size)⟩
set_option maxRecDepth 100000 in
set_option maxHeartbeats 16000000 in
theorem rwordsB (h : RT w r T) (s : ByteArray) (hs : s.size ≤ 1000000) {L : List Nat} (hc : charsL s.data.toList = some L) (i0 N : Nat) (hi0 : i0 ≤ L.length) (hN : N ≤ 1000000) : Calls Tryd.prog 32 #[.pointer (some ⟨r, 0, none⟩), .string s, .int .i64 (i0 : Int), .int .i64 (-(N : Int))] w fun e w' => e = .returned (wrdV ((wordsB T L N i0).1, (wordsB T L N i0).2, 0)) ∧ Below w.heap.size w w' := by
  have HT := hide h
  have HLS := hide (rl_some (w := w) (s := s) (by omega) hc)
  have HLEN := hide (show L.length ≤ 1000000 by have h9 : L.length ≤ s.size := chars_le _ _ hc; omega)
  obtain ⟨n, hn⟩ : ∃ n, n = L.length := ⟨_, rfl⟩
  have HN := hide hn
  have hl9 : (n : Int) ≤ 1000000 := by have := HLEN.out; omega
  have hN9 : (N : Int) ≤ 1000000 := by omega
  have q1 : decide ((i0 : Int) < 0) = false := by simp
  have q2 : ¬ (i0 : Int) < 0 := by omega
  have q3 : decide ((n : Int) < (i0 : Int)) = false := by simp; omega
  have q4 : ¬ (n : Int) < (i0 : Int) := by omega
  have q5 : decide (n < i0) = false := by simp; omega
  have HI0 := hide (show i0 ≤ n by omega)
  rw [← hn] at HLS
  clear h hc hi0 hn hN
  go_enter Tryd.func32, Tryd.ntmps32
  go_wp2_with (go_at_call 12; (with_reducible refine Calls.mono HLS.out ?_); rintro e w2 ⟨A, c, rfl, b2, r2⟩; have HB2 := hide b2; have HSC := hide (RSc.of (HT.out.below b2) (by rw [← HN.out]; exact r2) HLEN.out); clear b2 r2)
  go_loopw [2, 13] (fun av kv wr => av = .int .i64 (i0 : Int) ∧ kv = .int .i64 0 ∧ w2 = wr) (fun _ _ _ => 0)
  case atStart => exact ⟨rfl, rfl, rfl⟩
  case round =>
    obtain ⟨rfl, rfl, rfl⟩ := hrel
    have p1 : decide ((0 : Int) < -(N : Int)) = false := by simp
    have p2 : ¬ (0 : Int) < -(N : Int) := by omega
    go_wp2_with fail
    go_loopw [2, 14] (fun av kv wr => ∃ (a k : Nat), av = .int .i64 (a : Int) ∧ kv = .int .i64 (-(k : Int)) ∧ k ≤ N ∧ a ≤ n ∧ wordsB T L (N - k) a = wordsB T L N i0 ∧ Below w2.heap.size w2 wr) (fun _ kv _ => N - (-intOf kv).toNat)
    case atStart => exact ⟨i0, 0, rfl, rfl, Nat.zero_le _, HI0.out, rfl, Below.refl _ _⟩
    case round =>
      obtain ⟨a, k, rfl, rfl, hk, ha, he, hb⟩ := hrel
      have HB0 := hide hb
      have HE := hide he
      have HA := hide ha
      have hk9 : (k : Int) ≤ 1000000 := by omega
      have ha9 : (a : Int) ≤ 1000000 := by omega
      have wk : IntKind.i64.wrap (-(k : Int) - 1) = -((k + 1 : Nat) : Int) := by rw [IntWalk.i64_in _ (by omega)]; omega
      by_cases hlt : k < N
      · have p1 : decide (-(N : Int) < -(k : Int)) = true := by simp; omega
        have p2 : -(N : Int) < -(k : Int) := by omega
        have HLT := hide hlt
        have HST := hide (show ∃ M, N - k = M + 1 ∧ N - (k + 1) = M from ⟨N - (k + 1), by omega, rfl⟩)
        clear hk ha he hb hlt
        go_wp2_with fail
        go_loopw [2] (fun jv wr => ∃ i : Nat, jv = .int .i64 (i : Int) ∧ i ≤ n ∧ bN T L i = bN T L a ∧ Below w2.heap.size w2 wr) (fun jv _ => (intOf jv).toNat)
        case atStart => exact ⟨a, rfl, HA.out, rfl, HB0.out⟩
        case round =>
          obtain ⟨i, rfl, hj, he, hb⟩ := hrel
          have HB := hide hb
          have HE2 := hide he
          have hj9 : (i : Int) ≤ 1000000 := by omega
          by_cases hl : 0 < i
          · obtain ⟨j, rfl⟩ : ∃ j, i = j + 1 := ⟨i - 1, by omega⟩
            obtain ⟨z, hz⟩ : ∃ z : Nat, z = j + 1 := ⟨_, rfl⟩
            rw [← hz] at HE2 ⊢
            have HZ := hide hz
            have x1 : decide (0 < z) = true := by simp; omega
            have x2 : decide ((0 : Int) < (z : Int)) = true := by simp; omega
            have x3 : (0 : Int) < (z : Int) := by omega
            have wj : IntKind.i64.wrap ((z : Int) - 1) = (j : Int) := by rw [show (z : Int) - 1 = (j : Int) by omega]; exact IntWalk.i64_in _ (by omega)
            have y1 : decide (j < n) = true := by simp; omega
            have y2 : decide ((j : Int) < (n : Int)) = true := by simp; omega
            have y3 : (j : Int) < (n : Int) := by omega
            have HJ := hide (show j < n by omega)
            obtain ⟨g, off, ch, kj, eA, d0, hkj, hch, HC⟩ := (HSC.out.below hb).look (j := j) (by have := HN.out; omega)
            cases eA
            by_cases h1 : kj = 1
            · subst h1
              have HK1 := hide (show T.at_ L j = 1 from hkj.out.symm)
              clear hj he hb hl hkj hch hz
              have HWF := hide (show bN T L a = z by rw [← HE2.out, HZ.out, bN_stop HK1.out])
              have HJ1P := hide (show z ≠ 0 by have := HZ.out; omega)
              have e1 : decide (z = 0) = false := by have := HJ1P.out; simpa using this
              have e2 : ((z : Int) == 0) = false := by have := HJ1P.out; simp; omega
              go_wp2_with (go_at_call 35; (with_reducible refine Calls.mono (HC.out _ (Below.refl _ _)) ?_); rintro e w3 ⟨rfl, b3⟩; have HK := hide (HB.out.trans (b3.mono HB.out.size)); clear b3)
              have HBJ := HK
              have HJ1 := hide (show z ≤ n from by have := HJ.out; have := HZ.out; omega)
              obtain ⟨j1, hj1⟩ : ∃ y, y = z := ⟨_, rfl⟩
              rw [← hj1] at HWF HJ1P HJ1 ⊢
              clear hj1 e1 e2 x1 x2 x3 wj y1 y2 y3 d0 HC HK1 HE2 HJ HZ HK
              go_loopw [2] (fun jv wr => ∃ i : Nat, jv = .int .i64 (i : Int) ∧ i ≤ n ∧ bE T L i = bE T L j1 ∧ Below w2.heap.size w2 wr) (fun jv _ => (intOf jv).toNat)
              case atStart => exact ⟨j1, rfl, HJ1.out, rfl, HBJ.out⟩
              case round =>
                obtain ⟨i, rfl, hj, he, hb⟩ := hrel
                have HB := hide hb
                have HE2 := hide he
                have hj9 : (i : Int) ≤ 1000000 := by omega
                by_cases hl : 0 < i
                · obtain ⟨j, rfl⟩ : ∃ j, i = j + 1 := ⟨i - 1, by omega⟩
                  obtain ⟨z, hz⟩ : ∃ z : Nat, z = j + 1 := ⟨_, rfl⟩
                  rw [← hz] at HE2 ⊢
                  have HZ := hide hz
                  have x1 : decide (0 < z) = true := by simp; omega
                  have x2 : decide ((0 : Int) < (z : Int)) = true := by simp; omega
                  have x3 : (0 : Int) < (z : Int) := by omega
                  have wj : IntKind.i64.wrap ((z : Int) - 1) = (j : Int) := by rw [show (z : Int) - 1 = (j : Int) by omega]; exact IntWalk.i64_in _ (by omega)
                  have y1 : decide (j < n) = true := by simp; omega
                  have y2 : decide ((j : Int) < (n : Int)) = true := by simp; omega
                  have y3 : (j : Int) < (n : Int) := by omega
                  have HJ := hide (show j < n by omega)
                  obtain ⟨g, off, ch, kj, eA, d0, hkj, hch, HC⟩ := (HSC.out.below hb).look (j := j) (by have := HN.out; omega)
                  cases eA
                  by_cases h1 : kj = 1
                  · subst h1
                    have HK1 := hide (show T.at_ L j = 1 from hkj.out.symm)
                    clear hj he hb hl hkj hch hz
                    have HNX := hide (show bE T L j = bE T L j1 by rw [← HE2.out, HZ.out, bE_step HK1.out])
                    go_wp2_with (go_at_call 35; (with_reducible refine Calls.mono (HC.out _ (Below.refl _ _)) ?_); rintro e w3 ⟨rfl, b3⟩; have HK := hide (HB.out.trans (b3.mono HB.out.size)); clear b3)
                    go_roundw
                    case rel => exact ⟨j, rfl, (Nat.le_of_lt HJ.out), HNX.out, HK.out⟩
                    case measure => have := HZ.out; simp [intOf]; omega
                  · have g1 : (kj == 1) = false := by simpa using h1
                    have g2 : (kj != 1) = true := by simpa using h1
                    have HK1 := hide (show T.at_ L j ≠ 1 from by rw [← hkj.out]; exact h1)
                    clear hj he hb hl hkj hch h1 hz
                    have HWE := hide (show bE T L j1 = z by rw [← HE2.out, HZ.out, bE_stop HK1.out])
                    have WS := hide (show wordsB T L (N - (k + 1)) z = wordsB T L (N - k) a from by
                      obtain ⟨M, e1, e2⟩ := HST.out
                      rw [e1, e2]
                      show _ = if bN T L a = 0 then (0, false) else wordsB T L M (bE T L (bN T L a))
                      rw [if_neg (by rw [HWF.out]; exact HJ1P.out), HWF.out, ← HWE.out])
                    go_wp2_with (go_at_call 35; (with_reducible refine Calls.mono (HC.out _ (Below.refl _ _)) ?_); rintro e w3 ⟨rfl, b3⟩; have HK := hide (HB.out.trans (b3.mono HB.out.size)); clear b3)
                    go_roundw
                    case rel => exact ⟨z, k + 1, rfl, rfl, HLT.out, by have := HJ.out; have := HZ.out; omega, by rw [← HE.out]; exact WS.out, HK.out⟩
                    case measure => have := HLT.out; simp [intOf]; omega
                · obtain rfl : i = 0 := by omega
                  have x1 : decide ((0 : Int) < ((0 : Nat) : Int)) = false := by simp
                  clear hj he hb hl
                  have HWE := hide (show bE T L j1 = 0 by rw [← HE2.out]; rfl)
                  have WS := hide (show wordsB T L (N - (k + 1)) 0 = wordsB T L (N - k) a from by
                    obtain ⟨M, e1, e2⟩ := HST.out
                    rw [e1, e2]
                    show _ = if bN T L a = 0 then (0, false) else wordsB T L M (bE T L (bN T L a))
                    rw [if_neg (by rw [HWF.out]; exact HJ1P.out), HWF.out, ← HWE.out])
                  go_wp2_with fail
                  go_roundw
                  case rel => exact ⟨0, k + 1, rfl, rfl, HLT.out, Nat.zero_le _, by rw [← HE.out]; exact WS.out, HB.out⟩
                  case measure => have := HLT.out; simp [intOf]; omega
            · have g1 : (kj == 1) = false := by simpa using h1
              have g2 : (kj != 1) = true := by simpa using h1
              have HK1 := hide (show T.at_ L j ≠ 1 from by rw [← hkj.out]; exact h1)
              clear hj he hb hl hkj hch h1 hz
              have HNX := hide (show bN T L j = bN T L a by rw [← HE2.out, HZ.out, bN_step HK1.out])
              go_wp2_with (go_at_call 35; (with_reducible refine Calls.mono (HC.out _ (Below.refl _ _)) ?_); rintro e w3 ⟨rfl, b3⟩; have HK := hide (HB.out.trans (b3.mono HB.out.size)); clear b3)
              go_roundw
              case rel => exact ⟨j, rfl, (Nat.le_of_lt HJ.out), HNX.out, HK.out⟩
              case measure => have := HZ.out; simp [intOf]; omega
          · obtain rfl : i = 0 := by omega
            have x1 : decide ((0 : Int) < ((0 : Nat) : Int)) = false := by simp
            clear hj he hb hl
            have HF := hide (show wordsB T L N i0 = (0, false) from by
              obtain ⟨M, e1, e2⟩ := HST.out
              have hw : bN T L a = 0 := by rw [← HE2.out]; rfl
              rw [← HE.out, e1]
              show (if bN T L a = 0 then (0, false) else wordsB T L M (bE T L (bN T L a))) = _
              rw [if_pos hw])
            go_wp2_with fail
            go_ret3
            exact ⟨by rw [HF.out]; rfl, HB2.out.trans (HB.out.mono HB2.out.size)⟩
      · obtain rfl : k = N := by omega
        have p1 : decide (-(k : Int) < -(k : Int)) = false := by simp
        have p2 : ¬ -(k : Int) < -(k : Int) := by omega
        have HF := hide (show wordsB T L k i0 = (a, true) by rw [← he, Nat.sub_self]; rfl)
        clear hk ha he hb hlt
        go_wp2_with fail
        go_ret3
        exact ⟨by rw [HF.out]; rfl, HB2.out.trans (HB0.out.mono HB2.out.size)⟩
theorem rwords_any (h : RT w r T) (s : ByteArray) (hs : s.size ≤ 1000000) (at_ n : Int) (hn : -1000000 ≤ n) (hn2 : n ≤ 1000000) : Calls Tryd.prog 32 #[.pointer (some ⟨r, 0, none⟩), .string s, .int .i64 at_, .int .i64 n] w fun e w' => e = .returned (wrdV (wordsR T s at_ n)) ∧ Below w.heap.size w w' := by
  by_cases hb : (wordsR T s at_ n).2.2 = 0
  · cases hc : charsL s.data.toList with
    | none =>
      unfold wordsR at hb
      rw [hc] at hb
      simp at hb
    | some L =>
      by_cases hr : at_ < 0 ∨ (L.length : Int) < at_
      · unfold wordsR at hb
        rw [hc] at hb
        simp only [] at hb
        rw [if_pos hr] at hb
        simp at hb
      · have e : wordsR T s at_ n = ((words T L n at_.toNat).1, (words T L n at_.toNat).2, 0) := by
          unfold wordsR
          rw [hc]
          simp only []
          rw [if_neg hr]
        rw [e]
        obtain ⟨i0, rfl⟩ : ∃ i : Nat, at_ = (i : Int) := ⟨at_.toNat, by omega⟩
        rw [Int.toNat_natCast]
        unfold words
        by_cases h0 : n < 0
        · obtain ⟨N, rfl⟩ : ∃ N : Nat, n = -(N : Int) := ⟨(-n).toNat, by omega⟩
          rw [if_pos h0, Int.neg_neg, Int.toNat_natCast]
          exact rwordsB h s hs hc i0 N (by omega) (by omega)
        · obtain ⟨N, rfl⟩ : ∃ N : Nat, n = (N : Int) := ⟨n.toNat, by omega⟩
          rw [if_neg h0, Int.toNat_natCast]
          exact rwordsF h s hs hc i0 N (by omega) (by omega)
  · exact rwords_bad h s hs at_ n hb
end
end Go.Proofs.YtdojcgefiekleaaDoor
namespace Go.Proofs.YtdojcgefiekleaaDoor
open Go.RowKit

def symV (r : Nat × Nat × Bool) : Value := .tuple #[.int .i64 (r.1 : Int), .int .i64 (r.2.1 : Int), .bool r.2.2]
section
variable {w : World} {r : Nat} {T : Tb}
set_option maxRecDepth 100000 in
set_option maxHeartbeats 16000000 in
theorem rsymbol_any (h : RT w r T) (s : ByteArray) (hs : s.size ≤ 1000000) (at_ : Int) : Calls Tryd.prog 33 #[.pointer (some ⟨r, 0, none⟩), .string s, .int .i64 at_] w fun e w' => e = .returned (symV (symbR T s at_)) ∧ Below w.heap.size w w' := by
  have HT := hide h
  cases hc : charsL s.data.toList with
  | none =>
    have HLN := hide (rl_none (w := w) (s := s) (by omega) hc)
    have HE := hide (show symbR T s at_ = (0, 0, false) by unfold symbR; rw [hc])
    clear h hc
    go_enter Tryd.func33, Tryd.ntmps33
    go_wp2_with (go_at_call 12; (with_reducible refine Calls.mono HLN.out ?_); rintro e w2 ⟨rfl, b2⟩; have HB2 := hide b2; clear b2)
    go_ret3
    exact ⟨by rw [HE.out]; rfl, HB2.out⟩
  | some L =>
    have HLS := hide (rl_some (w := w) (s := s) (by omega) hc)
    have HLEN := hide (show L.length ≤ 1000000 by have h9 : L.length ≤ s.size := chars_le _ _ hc; omega)
    obtain ⟨n, hn⟩ : ∃ n, n = L.length := ⟨_, rfl⟩
    have HN := hide hn
    have hl9 : (n : Int) ≤ 1000000 := by have := HLEN.out; omega
    by_cases hb : at_ < 0 ∨ (L.length : Int) < at_
    · have HE := hide (show symbR T s at_ = (0, 0, false) by unfold symbR; rw [hc]; simp only []; rw [if_pos hb])
      rw [← hn] at HLS hb
      clear h hc hn
      rcases hb with hb | hb
      · have q1 : decide (at_ < 0) = true := by simpa using hb
        clear hb
        go_enter Tryd.func33, Tryd.ntmps33
        go_wp2_with (go_at_call 12; (with_reducible refine Calls.mono HLS.out ?_); rintro e w2 ⟨A, c, rfl, b2, r2⟩; have HB2 := hide b2; have HSC := hide (RSc.of (HT.out.below b2) (by rw [← HN.out]; exact r2) HLEN.out); clear b2 r2)
        go_ret3
        exact ⟨by rw [HE.out]; rfl, HB2.out⟩
      · have q1 : decide (at_ < 0) = false := by simp; omega
        have q2 : ¬ at_ < 0 := by omega
        have q3 : decide ((n : Int) < at_) = true := by simpa using hb
        clear hb
        go_enter Tryd.func33, Tryd.ntmps33
        go_wp2_with (go_at_call 12; (with_reducible refine Calls.mono HLS.out ?_); rintro e w2 ⟨A, c, rfl, b2, r2⟩; have HB2 := hide b2; have HSC := hide (RSc.of (HT.out.below b2) (by rw [← HN.out]; exact r2) HLEN.out); clear b2 r2)
        go_ret3
        exact ⟨by rw [HE.out]; rfl, HB2.out⟩
    · have HEQ := hide (show symbR T s at_ = symb T L at_.toNat by unfold symbR; rw [hc]; simp only []; rw [if_neg hb])
      obtain ⟨i0, rfl⟩ : ∃ i : Nat, at_ = (i : Int) := ⟨at_.toNat, by omega⟩
      rw [Int.toNat_natCast] at HEQ
      have HI0 := hide (show i0 ≤ n by omega)
      have q1 : decide ((i0 : Int) < 0) = false := by simp
      have q2 : ¬ (i0 : Int) < 0 := by omega
      have q3 : decide ((n : Int) < (i0 : Int)) = false := by simp; omega
      have q4 : ¬ (n : Int) < (i0 : Int) := by omega
      have q5 : decide (n < i0) = false := by simp; omega
      rw [← hn] at HLS
      clear h hc hn hb
      go_enter Tryd.func33, Tryd.ntmps33
      go_wp2_with (go_at_call 12; (with_reducible refine Calls.mono HLS.out ?_); rintro e w2 ⟨A, c, rfl, b2, r2⟩; have HB2 := hide b2; have HSC := hide (RSc.of (HT.out.below b2) (by rw [← HN.out]; exact r2) HLEN.out); clear b2 r2)
      go_loopw [11] (fun jv wr => ∃ i : Nat, jv = .int .i64 (i : Int) ∧ i ≤ n ∧ sB T L i = sB T L i0 ∧ Below w2.heap.size w2 wr) (fun jv _ => (intOf jv).toNat)
      case atStart => exact ⟨i0, rfl, HI0.out, rfl, Below.refl _ _⟩
      case round =>
        obtain ⟨i, rfl, hj, he, hb⟩ := hrel
        have HB := hide hb
        have HE2 := hide he
        have hj9 : (i : Int) ≤ 1000000 := by omega
        by_cases hl : 0 < i
        · obtain ⟨j, rfl⟩ : ∃ j, i = j + 1 := ⟨i - 1, by omega⟩
          obtain ⟨z, hz⟩ : ∃ z : Nat, z = j + 1 := ⟨_, rfl⟩
          rw [← hz] at HE2 ⊢
          have HZ := hide hz
          have x1 : decide (0 < z) = true := by simp; omega
          have x2 : decide ((0 : Int) < (z : Int)) = true := by simp; omega
          have x3 : (0 : Int) < (z : Int) := by omega
          have wj : IntKind.i64.wrap ((z : Int) - 1) = (j : Int) := by rw [show (z : Int) - 1 = (j : Int) by omega]; exact IntWalk.i64_in _ (by omega)
          have y1 : decide (j < n) = true := by simp; omega
          have y2 : decide ((j : Int) < (n : Int)) = true := by simp; omega
          have y3 : (j : Int) < (n : Int) := by omega
          have HJ := hide (show j < n by omega)
          obtain ⟨g, off, ch, kj, eA, d0, hkj, hch, HC⟩ := (HSC.out.below hb).look (j := j) (by have := HN.out; omega)
          cases eA
          by_cases h1 : kj = 1
          · subst h1
            have HP := hide (show isPart (T.at_ L j) = true by rw [← hkj.out]; rfl)
            clear hj he hb hl hkj hch hz
            have HNX := hide (show sB T L j = sB T L i0 by rw [← HE2.out, HZ.out, sB_step HP.out])
            go_wp2_with (go_at_call 35; (with_reducible refine Calls.mono (HC.out _ (Below.refl _ _)) ?_); rintro e w3 ⟨rfl, b3⟩; have HK := hide b3; have HK2 := hide (HB.out.trans (b3.mono HB.out.size)); have d1 := cell_keep d0 b3; clear b3)
            go_roundw
            case rel => exact ⟨j, rfl, Nat.le_of_lt HJ.out, HNX.out, HK2.out⟩
            case measure => have := HZ.out; simp [intOf]; omega
          · have g1 : (kj == 1) = false := by simpa using h1
            by_cases h2 : kj = 2
            · subst h2
              have HP := hide (show isPart (T.at_ L j) = true by rw [← hkj.out]; rfl)
              clear hj he hb hl hkj hch h1 hz
              have HNX := hide (show sB T L j = sB T L i0 by rw [← HE2.out, HZ.out, sB_step HP.out])
              go_wp2_with (first | (go_at_call 35; (with_reducible refine Calls.mono (HC.out _ (Below.refl _ _)) ?_); rintro e w3 ⟨rfl, b3⟩; have HK := hide b3; have HK2 := hide (HB.out.trans (b3.mono HB.out.size)); have d1 := cell_keep d0 b3; clear b3) | (go_at_call 35; (with_reducible refine Calls.mono (HC.out _ HK.out) ?_); rintro e w4 ⟨rfl, b4⟩; have HM := hide (HK2.out.trans (b4.mono HK2.out.size)); clear b4))
              go_roundw
              case rel => exact ⟨j, rfl, Nat.le_of_lt HJ.out, HNX.out, HM.out⟩
              case measure => have := HZ.out; simp [intOf]; omega
            · have g2 : (kj == 2) = false := by simpa using h2
              have HP := hide (show isPart (T.at_ L j) = false by rw [← hkj.out]; unfold isPart; simp; omega)
              clear hj he hb hl hkj hch h1 h2 hz
              have HSB := hide (show sB T L i0 = z by rw [← HE2.out, HZ.out, sB_stop HP.out])
              obtain ⟨f0, hf0⟩ : ∃ y : Nat, y = z := ⟨_, rfl⟩
              have hf9 : (f0 : Int) ≤ 1000001 := by have := HJ.out; have := HZ.out; omega
              go_wp2_with (first | (go_at_call 35; (with_reducible refine Calls.mono (HC.out _ (Below.refl _ _)) ?_); rintro e w3 ⟨rfl, b3⟩; have HK := hide b3; have HK2 := hide (HB.out.trans (b3.mono HB.out.size)); have d1 := cell_keep d0 b3; clear b3) | (go_at_call 35; (with_reducible refine Calls.mono (HC.out _ HK.out) ?_); rintro e w4 ⟨rfl, b4⟩; have HM := hide (HK2.out.trans (b4.mono HK2.out.size)); clear b4))
              rw [← hf0] at HSB ⊢
              clear hf0 x1 x2 x3 wj y1 y2 y3 d0 d1 HC HE2 HP HK
              go_loopw [12] (fun jv wr => ∃ j : Nat, jv = .int .i64 (j : Int) ∧ j ≤ n ∧ sF T L j = sF T L i0 ∧ Below w2.heap.size w2 wr) (fun jv _ => n - (intOf jv).toNat)
              case atStart => exact ⟨i0, rfl, HI0.out, rfl, HM.out⟩
              case round =>
                obtain ⟨j, rfl, hj, he, hb⟩ := hrel
                have HB := hide hb
                have HE2 := hide he
                have hj9 : (j : Int) ≤ 1000000 := by omega
                by_cases hl : j < n
                · have x1 : decide (j < n) = true := by simpa using hl
                  have x2 : decide ((j : Int) < (n : Int)) = true := by simp; omega
                  have x3 : (j : Int) < (n : Int) := by omega
                  have wj : IntKind.i64.wrap ((j : Int) + 1) = ((j + 1 : Nat) : Int) := by rw [IntWalk.i64_in _ (by omega)]; omega
                  have HJL := hide (show j < L.length by have := HN.out; omega)
                  obtain ⟨g, off, ch, kj, eA, d0, hkj, hch, HC⟩ := (HSC.out.below hb).look (j := j) (by have := HN.out; omega)
                  cases eA
                  have HL := hide hl
                  by_cases h1 : kj = 1
                  · subst h1
                    have HP := hide (show isPart (T.at_ L j) = true by rw [← hkj.out]; rfl)
                    clear hj he hb hl hkj hch
                    have HNX := hide (show sF T L (j + 1) = sF T L i0 by rw [← HE2.out, sF_step HJL.out HP.out])
                    go_wp2_with (go_at_call 35; (with_reducible refine Calls.mono (HC.out _ (Below.refl _ _)) ?_); rintro e w3 ⟨rfl, b3⟩; have HK := hide b3; have HK2 := hide (HB.out.trans (b3.mono HB.out.size)); have d1 := cell_keep d0 b3; clear b3)
                    go_roundw
                    case rel => exact ⟨j + 1, rfl, Nat.succ_le_of_lt HL.out, HNX.out, HK2.out⟩
                    case measure => have := HL.out; simp [intOf]; omega
                  · have g1 : (kj == 1) = false := by simpa using h1
                    by_cases h2 : kj = 2
                    · subst h2
                      have HP := hide (show isPart (T.at_ L j) = true by rw [← hkj.out]; rfl)
                      clear hj he hb hl hkj hch h1
                      have HNX := hide (show sF T L (j + 1) = sF T L i0 by rw [← HE2.out, sF_step HJL.out HP.out])
                      go_wp2_with (first | (go_at_call 35; (with_reducible refine Calls.mono (HC.out _ (Below.refl _ _)) ?_); rintro e w3 ⟨rfl, b3⟩; have HK := hide b3; have HK2 := hide (HB.out.trans (b3.mono HB.out.size)); have d1 := cell_keep d0 b3; clear b3) | (go_at_call 35; (with_reducible refine Calls.mono (HC.out _ HK.out) ?_); rintro e w4 ⟨rfl, b4⟩; have HM := hide (HK2.out.trans (b4.mono HK2.out.size)); clear b4))
                      go_roundw
                      case rel => exact ⟨j + 1, rfl, Nat.succ_le_of_lt HL.out, HNX.out, HM.out⟩
                      case measure => have := HL.out; simp [intOf]; omega
                    · have g2 : (kj == 2) = false := by simpa using h2
                      have HP := hide (show isPart (T.at_ L j) = false by rw [← hkj.out]; unfold isPart; simp; omega)
                      clear hj he hb hl hkj hch h1 h2
                      have HF := hide (show sF T L i0 = j by rw [← HE2.out, sF_stop HJL.out HP.out])
                      by_cases hft : f0 = j
                      · have e1 : decide (f0 = j) = true := by simpa using hft
                        have e2 : ((f0 : Int) == (j : Int)) = true := by simp; omega
                        have HE := hide (show symbR T s (i0 : Int) = (0, 0, false) by rw [HEQ.out]; unfold symb; rw [HSB.out, HF.out, if_pos hft])
                        clear hft
                        go_wp2_with (first | (go_at_call 35; (with_reducible refine Calls.mono (HC.out _ (Below.refl _ _)) ?_); rintro e w3 ⟨rfl, b3⟩; have HK := hide b3; have HK2 := hide (HB.out.trans (b3.mono HB.out.size)); have d1 := cell_keep d0 b3; clear b3) | (go_at_call 35; (with_reducible refine Calls.mono (HC.out _ HK.out) ?_); rintro e w4 ⟨rfl, b4⟩; have HM := hide (HK2.out.trans (b4.mono HK2.out.size)); clear b4))
                        go_ret3
                        exact ⟨by rw [HE.out]; rfl, HB2.out.trans (HM.out.mono HB2.out.size)⟩
                      · have e1 : decide (f0 = j) = false := by simpa using hft
                        have e2 : ((f0 : Int) == (j : Int)) = false := by simp; omega
                        have HE := hide (show symbR T s (i0 : Int) = (f0, j, true) by rw [HEQ.out]; unfold symb; rw [HSB.out, HF.out, if_neg hft])
                        clear hft
                        go_wp2_with (first | (go_at_call 35; (with_reducible refine Calls.mono (HC.out _ (Below.refl _ _)) ?_); rintro e w3 ⟨rfl, b3⟩; have HK := hide b3; have HK2 := hide (HB.out.trans (b3.mono HB.out.size)); have d1 := cell_keep d0 b3; clear b3) | (go_at_call 35; (with_reducible refine Calls.mono (HC.out _ HK.out) ?_); rintro e w4 ⟨rfl, b4⟩; have HM := hide (HK2.out.trans (b4.mono HK2.out.size)); clear b4))
                        go_ret3
                        exact ⟨by rw [HE.out]; rfl, HB2.out.trans (HM.out.mono HB2.out.size)⟩
                · have x1 : decide (j < n) = false := by simpa using hl
                  have x2 : decide ((j : Int) < (n : Int)) = false := by simp; omega
                  have x3 : ¬ (j : Int) < (n : Int) := by omega
                  have HJN := hide (show j = n by omega)
                  clear hj he hb hl
                  have HF := hide (show sF T L i0 = j by rw [← HE2.out, sF_end (by have := HN.out; have := HJN.out; omega)])
                  by_cases hft : f0 = j
                  · have e1 : decide (f0 = j) = true := by simpa using hft
                    have e2 : ((f0 : Int) == (j : Int)) = true := by simp; omega
                    have HE := hide (show symbR T s (i0 : Int) = (0, 0, false) by rw [HEQ.out]; unfold symb; rw [HSB.out, HF.out, if_pos hft])
                    clear hft
                    go_wp2_with fail
                    go_ret3
                    exact ⟨by rw [HE.out]; rfl, HB2.out.trans (HB.out.mono HB2.out.size)⟩
                  · have e1 : decide (f0 = j) = false := by simpa using hft
                    have e2 : ((f0 : Int) == (j : Int)) = false := by simp; omega
                    have HE := hide (show symbR T s (i0 : Int) = (f0, j, true) by rw [HEQ.out]; unfold symb; rw [HSB.out, HF.out, if_neg hft])
                    clear hft
                    go_wp2_with fail
                    go_ret3
                    exact ⟨by rw [HE.out]; rfl, HB2.out.trans (HB.out.mono HB2.out.size)⟩
        · obtain rfl : i = 0 := by omega
          have x1 : decide ((0 : Int) < ((0 : Nat) : Int)) = false := by simp
          have HSB := hide (show sB T L i0 = 0 by rw [← HE2.out]; rfl)
          clear hj he hb hl
          go_wp2_with fail
          obtain ⟨f0, hf0⟩ : ∃ y : Nat, y = 0 := ⟨_, rfl⟩
          have hf9 : (f0 : Int) ≤ 1000001 := by omega
          rw [show (Value.int .i64 ((0 : Nat) : Int)) = .int .i64 (f0 : Int) by rw [hf0]]
          rw [← hf0] at HSB
          clear hf0 x1
          go_loopw [12] (fun jv wr => ∃ j : Nat, jv = .int .i64 (j : Int) ∧ j ≤ n ∧ sF T L j = sF T L i0 ∧ Below w2.heap.size w2 wr) (fun jv _ => n - (intOf jv).toNat)
          case atStart => exact ⟨i0, rfl, HI0.out, rfl, HB.out⟩
          case round =>
            obtain ⟨j, rfl, hj, he, hb⟩ := hrel
            have HB := hide hb
            have HE2 := hide he
            have hj9 : (j : Int) ≤ 1000000 := by omega
            by_cases hl : j < n
            · have x1 : decide (j < n) = true := by simpa using hl
              have x2 : decide ((j : Int) < (n : Int)) = true := by simp; omega
              have x3 : (j : Int) < (n : Int) := by omega
              have wj : IntKind.i64.wrap ((j : Int) + 1) = ((j + 1 : Nat) : Int) := by rw [IntWalk.i64_in _ (by omega)]; omega
              have HJL := hide (show j < L.length by have := HN.out; omega)
              obtain ⟨g, off, ch, kj, eA, d0, hkj, hch, HC⟩ := (HSC.out.below hb).look (j := j) (by have := HN.out; omega)
              cases eA
              have HL := hide hl
              by_cases h1 : kj = 1
              · subst h1
                have HP := hide (show isPart (T.at_ L j) = true by rw [← hkj.out]; rfl)
                clear hj he hb hl hkj hch
                have HNX := hide (show sF T L (j + 1) = sF T L i0 by rw [← HE2.out, sF_step HJL.out HP.out])
                go_wp2_with (go_at_call 35; (with_reducible refine Calls.mono (HC.out _ (Below.refl _ _)) ?_); rintro e w3 ⟨rfl, b3⟩; have HK := hide b3; have HK2 := hide (HB.out.trans (b3.mono HB.out.size)); have d1 := cell_keep d0 b3; clear b3)
                go_roundw
                case rel => exact ⟨j + 1, rfl, Nat.succ_le_of_lt HL.out, HNX.out, HK2.out⟩
                case measure => have := HL.out; simp [intOf]; omega
              · have g1 : (kj == 1) = false := by simpa using h1
                by_cases h2 : kj = 2
                · subst h2
                  have HP := hide (show isPart (T.at_ L j) = true by rw [← hkj.out]; rfl)
                  clear hj he hb hl hkj hch h1
                  have HNX := hide (show sF T L (j + 1) = sF T L i0 by rw [← HE2.out, sF_step HJL.out HP.out])
                  go_wp2_with (first | (go_at_call 35; (with_reducible refine Calls.mono (HC.out _ (Below.refl _ _)) ?_); rintro e w3 ⟨rfl, b3⟩; have HK := hide b3; have HK2 := hide (HB.out.trans (b3.mono HB.out.size)); have d1 := cell_keep d0 b3; clear b3) | (go_at_call 35; (with_reducible refine Calls.mono (HC.out _ HK.out) ?_); rintro e w4 ⟨rfl, b4⟩; have HM := hide (HK2.out.trans (b4.mono HK2.out.size)); clear b4))
                  go_roundw
                  case rel => exact ⟨j + 1, rfl, Nat.succ_le_of_lt HL.out, HNX.out, HM.out⟩
                  case measure => have := HL.out; simp [intOf]; omega
                · have g2 : (kj == 2) = false := by simpa using h2
                  have HP := hide (show isPart (T.at_ L j) = false by rw [← hkj.out]; unfold isPart; simp; omega)
                  clear hj he hb hl hkj hch h1 h2
                  have HF := hide (show sF T L i0 = j by rw [← HE2.out, sF_stop HJL.out HP.out])
                  by_cases hft : f0 = j
                  · have e1 : decide (f0 = j) = true := by simpa using hft
                    have e2 : ((f0 : Int) == (j : Int)) = true := by simp; omega
                    have HE := hide (show symbR T s (i0 : Int) = (0, 0, false) by rw [HEQ.out]; unfold symb; rw [HSB.out, HF.out, if_pos hft])
                    clear hft
                    go_wp2_with (first | (go_at_call 35; (with_reducible refine Calls.mono (HC.out _ (Below.refl _ _)) ?_); rintro e w3 ⟨rfl, b3⟩; have HK := hide b3; have HK2 := hide (HB.out.trans (b3.mono HB.out.size)); have d1 := cell_keep d0 b3; clear b3) | (go_at_call 35; (with_reducible refine Calls.mono (HC.out _ HK.out) ?_); rintro e w4 ⟨rfl, b4⟩; have HM := hide (HK2.out.trans (b4.mono HK2.out.size)); clear b4))
                    go_ret3
                    exact ⟨by rw [HE.out]; rfl, HB2.out.trans (HM.out.mono HB2.out.size)⟩
                  · have e1 : decide (f0 = j) = false := by simpa using hft
                    have e2 : ((f0 : Int) == (j : Int)) = false := by simp; omega
                    have HE := hide (show symbR T s (i0 : Int) = (f0, j, true) by rw [HEQ.out]; unfold symb; rw [HSB.out, HF.out, if_neg hft])
                    clear hft
                    go_wp2_with (first | (go_at_call 35; (with_reducible refine Calls.mono (HC.out _ (Below.refl _ _)) ?_); rintro e w3 ⟨rfl, b3⟩; have HK := hide b3; have HK2 := hide (HB.out.trans (b3.mono HB.out.size)); have d1 := cell_keep d0 b3; clear b3) | (go_at_call 35; (with_reducible refine Calls.mono (HC.out _ HK.out) ?_); rintro e w4 ⟨rfl, b4⟩; have HM := hide (HK2.out.trans (b4.mono HK2.out.size)); clear b4))
                    go_ret3
                    exact ⟨by rw [HE.out]; rfl, HB2.out.trans (HM.out.mono HB2.out.size)⟩
            · have x1 : decide (j < n) = false := by simpa using hl
              have x2 : decide ((j : Int) < (n : Int)) = false := by simp; omega
              have x3 : ¬ (j : Int) < (n : Int) := by omega
              have HJN := hide (show j = n by omega)
              clear hj he hb hl
              have HF := hide (show sF T L i0 = j by rw [← HE2.out, sF_end (by have := HN.out; have := HJN.out; omega)])
              by_cases hft : f0 = j
              · have e1 : decide (f0 = j) = true := by simpa using hft
                have e2 : ((f0 : Int) == (j : Int)) = true := by simp; omega
                have HE := hide (show symbR T s (i0 : Int) = (0, 0, false) by rw [HEQ.out]; unfold symb; rw [HSB.out, HF.out, if_pos hft])
                clear hft
                go_wp2_with fail
                go_ret3
                exact ⟨by rw [HE.out]; rfl, HB2.out.trans (HB.out.mono HB2.out.size)⟩
              · have e1 : decide (f0 = j) = false := by simpa using hft
                have e2 : ((f0 : Int) == (j : Int)) = false := by simp; omega
                have HE := hide (show symbR T s (i0 : Int) = (f0, j, true) by rw [HEQ.out]; unfold symb; rw [HSB.out, HF.out, if_neg hft])
                clear hft
                go_wp2_with fail
                go_ret3
                exact ⟨by rw [HE.out]; rfl, HB2.out.trans (HB.out.mono HB2.out.size)⟩
end
end Go.Proofs.YtdojcgefiekleaaDoor
