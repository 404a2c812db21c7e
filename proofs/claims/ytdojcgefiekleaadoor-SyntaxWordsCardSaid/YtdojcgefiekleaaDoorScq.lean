/- SyntaxWords: the walk. No condition but those written. -/
import Derived.Test.YtdojcgefiekleaaDoorScp
namespace Go.Proofs.YtdojcgefiekleaaDoor
open Go.RowKit

set_option maxRecDepth 100000 in
set_option maxHeartbeats 4000000 in
theorem words_walk (lisp : Bool) (l : List (Int × Int × Int)) (lv : Value) (s : ByteArray) (a n : Int) (w : World) (hT : Tabs w) (hr : Rd w lv 3 l.length (rows clE l)) (hs : s.size < 9223372036854775807) : Calls Tryd.prog 3 #[.bool lisp, lv, .string s, .int .i64 a, .int .i64 n] w fun e w' => e = .returned (.bool true) ∧ Below w.heap.size w w' := by
  obtain ⟨A, cp, rfl⟩ : ∃ A c, lv = .slice A l.length c := by
    obtain ⟨A, c, h1, h2, _⟩ := hr
    exact ⟨A, c, h1⟩
  have HLV := hide (lives_any w hT)
  have HT := hide hT
  have HR := hide hr
  have HS := hide hs
  clear hT hr hs
  by_cases g1 : 20 < l.length
  · have y1 : decide ((20 : Int) < (l.length : Int)) = true := by simp; omega
    clear g1
    go_enter Tryd.func3, Tryd.ntmps3
    go_wp2_with (go_at_call 11; (with_reducible refine Calls.mono HLV.out ?_); rintro r w1 ⟨rfl, hb1⟩; have HB1 := hide hb1; clear hb1)
    go_ret
    exact ⟨rfl, HB1.out⟩
  have y1 : decide ((20 : Int) < (l.length : Int)) = false := by simp; omega
  by_cases g2 : 300 < s.size
  · have y2 : decide ((300 : Int) < (s.size : Int)) = true := by simp; omega
    clear g1 g2
    go_enter Tryd.func3, Tryd.ntmps3
    go_wp2_with (go_at_call 11; (with_reducible refine Calls.mono HLV.out ?_); rintro r w1 ⟨rfl, hb1⟩; have HB1 := hide hb1; clear hb1)
    go_ret
    exact ⟨rfl, HB1.out⟩
  have y2 : decide ((300 : Int) < (s.size : Int)) = false := by simp; omega
  by_cases g3 : n < -40
  · have y3 : decide (n < -40) = true := by simpa using g3
    clear g1 g2 g3
    go_enter Tryd.func3, Tryd.ntmps3
    go_wp2_with (go_at_call 11; (with_reducible refine Calls.mono HLV.out ?_); rintro r w1 ⟨rfl, hb1⟩; have HB1 := hide hb1; clear hb1)
    go_ret
    exact ⟨rfl, HB1.out⟩
  have y3 : decide (n < -40) = false := by simpa using g3
  by_cases g4 : 40 < n
  · have y4 : decide (40 < n) = true := by simpa using g4
    clear g1 g2 g3 g4
    go_enter Tryd.func3, Tryd.ntmps3
    go_wp2_with (go_at_call 11; (with_reducible refine Calls.mono HLV.out ?_); rintro r w1 ⟨rfl, hb1⟩; have HB1 := hide hb1; clear hb1)
    go_ret
    exact ⟨rfl, HB1.out⟩
  have y4 : decide (40 < n) = false := by simpa using g4
  obtain ⟨T, hTd⟩ : ∃ T, tabOf lisp l = T := ⟨_, rfl⟩
  have HTB := hide (fun W (hW : Below w.heap.size w W) => (show Calls Tryd.prog 13 #[.bool lisp, .slice A l.length cp] W (fun e w' => ∃ p r v, e = .returned (.tuple #[.pointer (some ⟨p.t, 0, none⟩), .pointer (some ⟨r, 0, none⟩), .bool true]) ∧ Two W w' p T r v (refOf l)) from hTd ▸ table_any W lisp l (.slice A l.length cp) (HR.out.belowN hW) (by omega)))
  clear hTd
  cases hc : charsL s.data.toList with
  | none =>
    have HLI := hide (fun W => rl_none (w := W) (s := s) (by omega) hc)
    have hSX : wordsR T s a n = (0, false, 5) := by
      unfold wordsR
      rw [hc]
    have HSX := hide (fun (W : World) (p : TL) (h : TabAt W p T) (hW : Below w.heap.size w W) => (show Calls Tryd.prog 14 #[.pointer (some ⟨p.t, 0, none⟩), .string s, .int .i64 a, .int .i64 n] W (fun r w' => r = .returned (.tuple #[.int .i64 0, .bool false, .int .i64 5]) ∧ Below W.heap.size W w') from by
      have h1 := words_any h s (by omega) (HT.out.below hW) a n (by omega) (by omega)
      rw [hSX] at h1
      exact h1))
    clear hc hSX g1 g2 g3 g4
    go_enter Tryd.func3, Tryd.ntmps3
    go_wp2_with (first | (go_at_call 11; (with_reducible refine Calls.mono HLV.out ?_); rintro r w1 ⟨rfl, hb1⟩; have HB1 := hide hb1; clear hb1) | (go_at_call 12; (with_reducible refine Calls.mono (HLI.out _) ?_); rintro r w2 ⟨rfl, hb2⟩; have HB2 := hide (HB1.out.trans (hb2.mono HB1.out.size)); clear hb2) | (go_at_call 13; (with_reducible refine Calls.mono (HTB.out _ HB2.out) ?_); rintro r w3 ⟨p, rr, v3, rfl, h3⟩; have HT3 := hide (h3.tab); have HB3 := hide (HB2.out.trans (h3.bel.mono HB2.out.size)); clear h3) | (go_at_call 14; (with_reducible refine Calls.mono (HSX.out _ p HT3.out HB3.out) ?_); rintro r w4 ⟨rfl, hb4⟩; have HB4 := hide (HB3.out.trans (hb4.mono HB3.out.size)); clear hb4))
    go_ret
    exact ⟨rfl, HB4.out⟩
  | some L =>
    have hL1 : L.length ≤ s.size := chars_le _ _ hc
    have hl : (L.length : Int) ≤ 300 := by omega
    have HLI := hide (fun W => rl_some (w := W) (s := s) (by omega) hc)
    obtain ⟨i0, hi0⟩ : ∃ i0 : Nat, pickZ a ((L.length : Int) + 1) = (i0 : Int) := ⟨(pickZ a ((L.length : Int) + 1)).toNat, by have := pickZ_ge (n := a) (k := (L.length : Int) + 1) (by omega); omega⟩
    have hi1 : i0 ≤ L.length := by have := pickZ_lt (n := a) (k := (L.length : Int) + 1) (by omega); omega
    have HPK := hide (fun W => pick_any a ((L.length : Int) + 1) W (by omega) (by omega))
    rw [hi0] at HPK
    obtain ⟨⟨E, O⟩, hR⟩ : ∃ x, words T L n i0 = x := ⟨_, rfl⟩
    have hSX : ∀ (i : Nat) (m : Int), i ≤ L.length → wordsR T s i m = ((words T L m i).1, (words T L m i).2, 0) := by
      intro i m hi
      unfold wordsR
      rw [hc]
      simp only []
      rw [if_neg (by omega), Int.toNat_natCast]
    have HSX := hide (fun (W : World) (p : TL) (h : TabAt W p T) (hW : Below w.heap.size w W) (i : Nat) (m : Int) (hi : i ≤ L.length) (hm : -1000000 ≤ m) (hm2 : m ≤ 1000000) => (hSX i m hi) ▸ words_any h s (by omega) (HT.out.below hW) (i : Int) m hm hm2)
    have HS1 := hide (fun (W : World) (p : TL) (h : TabAt W p T) (hW : Below w.heap.size w W) => (show Calls Tryd.prog 14 #[.pointer (some ⟨p.t, 0, none⟩), .string s, .int .i64 (i0 : Int), .int .i64 n] W (fun r w' => r = .returned (.tuple #[.int .i64 (E : Int), .bool O, .int .i64 0]) ∧ Below W.heap.size W w') from by
      have h1 := HSX.out W p h hW i0 n hi1 (by omega) (by omega)
      rw [hR] at h1
      exact h1))
    have HRR := hide hR
    have HI1 := hide hi1
    clear hc hL1 hi0 hR hSX g1 g2 hi1
    by_cases h0 : n < 0
    · have y5 : decide (n < 0) = true := by simpa using h0
      go_enter Tryd.func3, Tryd.ntmps3
      go_wp2_with (first | (go_at_call 11; (with_reducible refine Calls.mono HLV.out ?_); rintro r w1 ⟨rfl, hb1⟩; have HB1 := hide hb1; clear hb1) | (go_at_call 12; (with_reducible refine Calls.mono (HLI.out _) ?_); rintro r w2 ⟨B, cb, rfl, hb2, hrd⟩; have HB2 := hide (HB1.out.trans (hb2.mono HB1.out.size)); have HRD := hide hrd; clear hb2 hrd) | (go_at_call 13; (with_reducible refine Calls.mono (HTB.out _ HB2.out) ?_); rintro r w3 ⟨p, rr, v3, rfl, h3⟩; have HN3 := hide (show NSt w w3 p T (.slice B L.length cb) L from ⟨HB2.out.trans (h3.bel.mono HB2.out.size), h3.tab, HRD.out.belowN h3.bel, by omega⟩); clear h3) | (go_at_call 15; (with_reducible refine Calls.mono (HPK.out _) ?_); rintro r w' ⟨rfl, rfl⟩) | (go_at_call 14; (with_reducible refine Calls.mono (HS1.out _ p HN3.out.scan.tab HN3.out.bel) ?_); rintro r w5 ⟨rfl, hb5⟩; have HN5 := hide (HN3.out.below hb5); clear hb5))
      go_loopw [3, 23, 24] (fun tv av kv wr => ∃ (i j : Nat) (al : Bool), tv = .int .i64 (i : Int) ∧ av = .bool al ∧ kv = .int .i64 (j : Int) ∧ i ≤ L.length ∧ (j : Int) ≤ n * (-1) ∧ (if al then words T L (n - j * (-1)) i else (i, false)) = (E, O) ∧ NSt w wr p T (.slice B L.length cb) L) (fun _ _ kv _ => 41 - (intOf kv).toNat)
      case atStart => exact ⟨i0, 0, true, rfl, rfl, rfl, HI1.out, by omega, by simp only [if_true]; rw [← HRR.out]; congr 1; omega, HN5.out⟩
      case round =>
        obtain ⟨i, j, al, rfl, rfl, rfl, hi, hj, he, hm⟩ := hrel
        have HA := hide hm
        have HE := hide he
        clear he hm
        by_cases hk : (j : Int) < n * (-1) ∧ al = true
        · obtain ⟨hk, rfl⟩ := hk
          obtain ⟨⟨x, o⟩, h1⟩ : ∃ x, words T L (-1) i = x := ⟨_, rfl⟩
          have hw := word1_all (by omega) hi h1
          have hmo := words_more1 (m := n - j * (-1)) (by omega) (by omega) h1
          have he := HE.out
          simp only [if_true] at he
          rw [he] at hmo
          have HS2 := hide (show Calls Tryd.prog 14 #[.pointer (some ⟨p.t, 0, none⟩), .string s, .int .i64 (i : Int), .int .i64 (-1)] wr (fun r w' => r = .returned (.tuple #[.int .i64 (x : Int), .bool o, .int .i64 0]) ∧ Below wr.heap.size wr w') from by
            have h2 := HSX.out wr p HA.out.scan.tab HA.out.bel i (-1) hi (by omega) (by omega)
            rw [h1] at h2
            exact h2)
          have HW := hide hw
          have HMO := hide hmo
          have q1 : decide ((j : Int) < n * (-1)) = true := by simpa using hk
          have q2 : decide ((j : Int) < -n) = true := by simp; omega
          have hx1 : x ≤ L.length := hw.1
          have hlh : x ≤ i := hw.2.2.1 rfl
          have q3 : decide ((L.length : Int) < (x : Int)) = false := by simp; omega
          have q5 : decide (L.length < x) = false := by simp; omega
          have q4 : decide ((x : Int) < 0) = false := by simp
          have m1 : min (i : Int) (x : Int) = (x : Int) := by omega
          have m2 : max (i : Int) (x : Int) = (i : Int) := by omega
          clear hw hmo he h1
          go_wp2_with (go_at_call 14; (with_reducible refine Calls.mono HS2.out ?_); rintro r w6 ⟨rfl, hb6⟩; have HN6 := hide (HA.out.below hb6); clear hb6)
          go_loopw [28, 29, 30] (fun cv bv iv wr' => ∃ (q c : Nat) (b : Bool), cv = .int .i64 (c : Int) ∧ bv = .bool b ∧ iv = .int .i64 ((x + q : Nat) : Int) ∧ c ≤ q ∧ x + q ≤ i ∧ runs T L q x (0, false) = (c, b) ∧ NSt w wr' p T (.slice B L.length cb) L) (fun _ _ iv _ => 301 - (intOf iv).toNat)
          case atStart => exact ⟨0, 0, false, rfl, rfl, by simp; try omega, Nat.le_refl _, hlh, rfl, HN6.out⟩
          case round =>
            obtain ⟨q, c, b, rfl, rfl, rfl, hcq, hq, hrn, hn⟩ := hrel
            have hc3 : (c : Int) ≤ 300 := by omega
            have HN := hide hn
            have HRN := hide hrn
            clear hn hrn
            obtain ⟨u, hu⟩ : ∃ u, u = x + q := ⟨_, rfl⟩
            have HU := hide hu
            rw [← hu] at hq ⊢
            clear hu
            by_cases hqi : u < i
            · obtain ⟨bb, off, c', hv, hcell⟩ := HN.out.scan.at_ (i := u) (by omega)
              injection hv with g1 _ g3
              subst g1 g3
              obtain ⟨ch, hch⟩ : ∃ ch : Int, ch = ((L.getD u 0 : Nat) : Int) := ⟨_, rfl⟩
              have HCC := hide (HN.out.class_ u ch hch)
              have d0 := hcell _ (Below.refl _ _) u (by omega)
              rw [← hch] at d0
              have r1 : decide ((u : Int) < (i : Int)) = true := by simp; omega
              have r2 : (u : Int) < (L.length : Int) := by omega
              have r3 : (u : Int) ≤ 300 := by omega
              clear hcell hch
              cases hcl : (T.at_ L u == 1) <;> cases b
              all_goals go_wp2_with (go_at_call 16; (with_reducible refine Calls.mono HCC.out ?_); rintro r w7 ⟨rfl, hb7⟩; have HN7 := hide (HN.out.below hb7); clear hb7)
              all_goals have hrs := runs_snoc HRN.out
              all_goals rw [← HU.out] at hrs
              · exact ⟨⟨q + 1, c, false, rfl, rfl, by rw [HU.out]; simp; omega, by omega, by have := HU.out; omega, by rw [hrs, if_neg (fun h => by simp [h.1] at hcl)]; simpa using hcl, HN7.out⟩, by simp [intOf]; omega⟩
              · exact ⟨⟨q + 1, c, false, rfl, rfl, by rw [HU.out]; simp; omega, by omega, by have := HU.out; omega, by rw [hrs, if_neg (fun h => by simp [h.1] at hcl)]; simpa using hcl, HN7.out⟩, by simp [intOf]; omega⟩
              · exact ⟨⟨q + 1, c + 1, true, by simp, rfl, by rw [HU.out]; simp; omega, by omega, by have := HU.out; omega, by rw [hrs, if_pos ⟨by simpa using hcl, rfl⟩]; simpa using hcl, HN7.out⟩, by simp [intOf]; omega⟩
              · exact ⟨⟨q + 1, c, true, rfl, rfl, by rw [HU.out]; simp; omega, by omega, by have := HU.out; omega, by rw [hrs, if_neg (fun h => by simp at h)]; simpa using hcl, HN7.out⟩, by simp [intOf]; omega⟩
            · have hu2 : u = i := by omega
              have hq2 : q = max i x - min i x := by have := HU.out; omega
              have hlo : x = min i x := by omega
              have hw := HW.out
              have hrn := HRN.out
              rw [hlo, hq2] at hrn
              rw [hrn] at hw
              simp only [] at hw
              have r1 : decide ((u : Int) < (i : Int)) = false := by simp; omega
              have HW2 := hide hw
              clear hw hrn hq2 hlo hu2
              cases o
              · obtain ⟨rfl, hx⟩ := HW2.out.2.2.2.1 rfl
                have HX := hide hx
                clear hx
                by_cases x0 : x = 0
                · have s1 : ((x : Int) != 0) = false := by simp [x0]
                  have s2 : ((x : Int) == 0) = true := by simp [x0]
                  clear x0
                  go_wp2
                  exact ⟨⟨x, j + 1, false, rfl, rfl, by simp, hx1, by omega, by simpa using HMO.out.symm, HN.out⟩, by simp [intOf]; omega⟩
                · have hxl : x = L.length := HX.out.resolve_left x0
                  have s1 : ((x : Int) != 0) = true := by simp [x0]
                  have s2 : ((x : Int) == 0) = false := by simp [x0]
                  have s3 : ((x : Int) != (L.length : Int)) = false := by simp [hxl]
                  have s4 : ((x : Int) == (L.length : Int)) = true := by simp [hxl]
                  clear x0 hxl
                  go_wp2
                  exact ⟨⟨x, j + 1, false, rfl, rfl, by simp, hx1, by omega, by simpa using HMO.out.symm, HN.out⟩, by simp [intOf]; omega⟩
              · obtain ⟨rfl, hxd⟩ := HW2.out.2.2.2.2 rfl
                have hxd := hxd.2 (by first | trivial | rfl)
                obtain ⟨bb, off, c', hv, hcell⟩ := HN.out.scan.at_ (i := x) (by omega)
                injection hv with g1 _ g3
                subst g1 g3
                have hmo := HMO.out
                simp only [if_true] at hmo
                have HMO2 := hide hmo
                clear hmo
                have hj2 : (j : Int) + 1 ≤ n * (-1) := by omega
                obtain ⟨ca, hca⟩ : ∃ ca : Int, ca = ((L.getD (x) 0 : Nat) : Int) := ⟨_, rfl⟩
                have HCA := hide (fun (W : World) (h : NSt w W p T (.slice (some ⟨bb, off, none⟩) L.length cb) L) => h.class_ (x) ca hca)
                have hcl : (T.at_ L (x) == 1) = true := by simp [hxd.2.1]
                have hcl2 : (T.at_ L (x) != 1) = false := by simp [hxd.2.1]
                have e1 : (0 : Int) ≤ (x : Int) - 1 ∨ True := .inr trivial
                have s0 : (x : Int) < (L.length : Int) := by omega
                have d0 := hcell _ (Below.refl _ _) (x) (by omega)
                rw [← hca] at d0
                by_cases hx2 : 0 < x
                · obtain ⟨cb2, hcb⟩ : ∃ ca : Int, ca = ((L.getD (x - 1) 0 : Nat) : Int) := ⟨_, rfl⟩
                  have HCB := hide (fun (W : World) (h : NSt w W p T (.slice (some ⟨bb, off, none⟩) L.length cb) L) => h.class_ (x - 1) cb2 hcb)
                  have hcl3 : (T.at_ L (x - 1) == 1) = false := by simpa using hxd.2.2 hx2
                  have HCL := hide (show ∀ W, Below wr.heap.size wr W → W.cell? ⟨bb, off + (x - 1), none⟩ = some (.int .i64 cb2) from fun W hW => (hcell W hW (x - 1) (by omega)).trans (by rw [hcb]))
                  have s1 : decide ((0 : Int) < (x : Int)) = true := by simp; omega
                  have s9 : decide (0 < x) = true := by simpa using hx2
                  have s3 : (0 : Int) ≤ (x : Int) - 1 := by omega
                  have s4 : (x : Int) - 1 < (L.length : Int) := by omega
                  clear hcell hca hcb hxd hx2 e1
                  go_wp2_with (first | (go_at_call 16; (with_reducible refine Calls.mono (HCA.out _ HN.out) ?_); rintro r w7 ⟨rfl, hb7⟩; have HN7 := hide (HN.out.below hb7); have d1 := HCL.out _ hb7; clear hb7) | (go_at_call 16; (with_reducible refine Calls.mono (HCB.out _ HN7.out) ?_); rintro r w8 ⟨rfl, hb8⟩; have HN8 := hide (HN7.out.below hb8); clear hb8))
                  exact ⟨⟨x, j + 1, true, rfl, rfl, by simp, hx1, by simpa using hj2, by simp only [if_true]; rw [HMO2.out]; congr 1; simp; omega, HN8.out⟩, by simp [intOf]; omega⟩
                · have s1 : decide ((0 : Int) < (x : Int)) = false := by simp; omega
                  have s9 : decide (0 < x) = false := by simpa using hx2
                  have s10 : ¬ 0 < x := hx2
                  clear hcell hca hxd hx2 e1
                  go_wp2_with (go_at_call 16; (with_reducible refine Calls.mono (HCA.out _ HN.out) ?_); rintro r w7 ⟨rfl, hb7⟩; have HN7 := hide (HN.out.below hb7); clear hb7)
                  exact ⟨⟨x, j + 1, true, rfl, rfl, by simp, hx1, by simpa using hj2, by simp only [if_true]; rw [HMO2.out]; congr 1; simp; omega, HN7.out⟩, by simp [intOf]; omega⟩
        · cases al
          · have he := HE.out
            simp only [Bool.false_eq_true, if_false, Prod.mk.injEq] at he
            obtain ⟨rfl, rfl⟩ := he
            by_cases hk2 : (j : Int) < n * (-1)
            · have q1 : decide ((j : Int) < n * (-1)) = true := by simpa using hk2
              have q2 : decide ((j : Int) < -n) = true := by simp; omega
              clear hk hk2
              go_wp2
              go_ret
              exact ⟨by simp, HA.out.bel⟩
            · have q1 : decide ((j : Int) < n * (-1)) = false := by simpa using hk2
              have q2 : decide ((j : Int) < -n) = false := by simp; omega
              clear hk hk2
              go_wp2
              go_ret
              exact ⟨by simp, HA.out.bel⟩
          · have hk2 : ¬ (j : Int) < n * (-1) := fun h => hk ⟨h, rfl⟩
            have q1 : decide ((j : Int) < n * (-1)) = false := by simpa using hk2
            have q2 : decide ((j : Int) < -n) = false := by simp; omega
            have he := HE.out
            simp only [if_true] at he
            rw [show n - (j : Int) * (-1) = 0 by omega, words_zero] at he
            simp only [Prod.mk.injEq] at he
            obtain ⟨rfl, rfl⟩ := he
            clear hk hk2
            go_wp2
            go_ret
            exact ⟨by simp, HA.out.bel⟩
    · have y5 : decide (n < 0) = false := by simpa using h0
      go_enter Tryd.func3, Tryd.ntmps3
      go_wp2_with (first | (go_at_call 11; (with_reducible refine Calls.mono HLV.out ?_); rintro r w1 ⟨rfl, hb1⟩; have HB1 := hide hb1; clear hb1) | (go_at_call 12; (with_reducible refine Calls.mono (HLI.out _) ?_); rintro r w2 ⟨B, cb, rfl, hb2, hrd⟩; have HB2 := hide (HB1.out.trans (hb2.mono HB1.out.size)); have HRD := hide hrd; clear hb2 hrd) | (go_at_call 13; (with_reducible refine Calls.mono (HTB.out _ HB2.out) ?_); rintro r w3 ⟨p, rr, v3, rfl, h3⟩; have HN3 := hide (show NSt w w3 p T (.slice B L.length cb) L from ⟨HB2.out.trans (h3.bel.mono HB2.out.size), h3.tab, HRD.out.belowN h3.bel, by omega⟩); clear h3) | (go_at_call 15; (with_reducible refine Calls.mono (HPK.out _) ?_); rintro r w' ⟨rfl, rfl⟩) | (go_at_call 14; (with_reducible refine Calls.mono (HS1.out _ p HN3.out.scan.tab HN3.out.bel) ?_); rintro r w5 ⟨rfl, hb5⟩; have HN5 := hide (HN3.out.below hb5); clear hb5))
      go_loopw [3, 23, 24] (fun tv av kv wr => ∃ (i j : Nat) (al : Bool), tv = .int .i64 (i : Int) ∧ av = .bool al ∧ kv = .int .i64 (j : Int) ∧ i ≤ L.length ∧ (j : Int) ≤ n * 1 ∧ (if al then words T L (n - j * 1) i else (i, false)) = (E, O) ∧ NSt w wr p T (.slice B L.length cb) L) (fun _ _ kv _ => 41 - (intOf kv).toNat)
      case atStart => exact ⟨i0, 0, true, rfl, rfl, rfl, HI1.out, by omega, by simp only [if_true]; rw [← HRR.out]; congr 1; omega, HN5.out⟩
      case round =>
        obtain ⟨i, j, al, rfl, rfl, rfl, hi, hj, he, hm⟩ := hrel
        have HA := hide hm
        have HE := hide he
        clear he hm
        by_cases hk : (j : Int) < n * 1 ∧ al = true
        · obtain ⟨hk, rfl⟩ := hk
          obtain ⟨⟨x, o⟩, h1⟩ : ∃ x, words T L 1 i = x := ⟨_, rfl⟩
          have hw := word1_all (by omega) hi h1
          have hmo := words_more1 (m := n - j * 1) (by omega) (by omega) h1
          have he := HE.out
          simp only [if_true] at he
          rw [he] at hmo
          have HS2 := hide (show Calls Tryd.prog 14 #[.pointer (some ⟨p.t, 0, none⟩), .string s, .int .i64 (i : Int), .int .i64 1] wr (fun r w' => r = .returned (.tuple #[.int .i64 (x : Int), .bool o, .int .i64 0]) ∧ Below wr.heap.size wr w') from by
            have h2 := HSX.out wr p HA.out.scan.tab HA.out.bel i 1 hi (by omega) (by omega)
            rw [h1] at h2
            exact h2)
          have HW := hide hw
          have HMO := hide hmo
          have q1 : decide ((j : Int) < n * 1) = true := by simpa using hk
          have q2 : decide ((j : Int) < n) = true := by simp; omega
          have hx1 : x ≤ L.length := hw.1
          have hlh : i ≤ x := hw.2.1 rfl
          have q3 : decide ((L.length : Int) < (x : Int)) = false := by simp; omega
          have q5 : decide (L.length < x) = false := by simp; omega
          have q4 : decide ((x : Int) < 0) = false := by simp
          have m1 : min (i : Int) (x : Int) = (i : Int) := by omega
          have m2 : max (i : Int) (x : Int) = (x : Int) := by omega
          clear hw hmo he h1
          go_wp2_with (go_at_call 14; (with_reducible refine Calls.mono HS2.out ?_); rintro r w6 ⟨rfl, hb6⟩; have HN6 := hide (HA.out.below hb6); clear hb6)
          go_loopw [28, 29, 30] (fun cv bv iv wr' => ∃ (q c : Nat) (b : Bool), cv = .int .i64 (c : Int) ∧ bv = .bool b ∧ iv = .int .i64 ((i + q : Nat) : Int) ∧ c ≤ q ∧ i + q ≤ x ∧ runs T L q i (0, false) = (c, b) ∧ NSt w wr' p T (.slice B L.length cb) L) (fun _ _ iv _ => 301 - (intOf iv).toNat)
          case atStart => exact ⟨0, 0, false, rfl, rfl, by simp; try omega, Nat.le_refl _, hlh, rfl, HN6.out⟩
          case round =>
            obtain ⟨q, c, b, rfl, rfl, rfl, hcq, hq, hrn, hn⟩ := hrel
            have hc3 : (c : Int) ≤ 300 := by omega
            have HN := hide hn
            have HRN := hide hrn
            clear hn hrn
            obtain ⟨u, hu⟩ : ∃ u, u = i + q := ⟨_, rfl⟩
            have HU := hide hu
            rw [← hu] at hq ⊢
            clear hu
            by_cases hqi : u < x
            · obtain ⟨bb, off, c', hv, hcell⟩ := HN.out.scan.at_ (i := u) (by omega)
              injection hv with g1 _ g3
              subst g1 g3
              obtain ⟨ch, hch⟩ : ∃ ch : Int, ch = ((L.getD u 0 : Nat) : Int) := ⟨_, rfl⟩
              have HCC := hide (HN.out.class_ u ch hch)
              have d0 := hcell _ (Below.refl _ _) u (by omega)
              rw [← hch] at d0
              have r1 : decide ((u : Int) < (x : Int)) = true := by simp; omega
              have r2 : (u : Int) < (L.length : Int) := by omega
              have r3 : (u : Int) ≤ 300 := by omega
              clear hcell hch
              cases hcl : (T.at_ L u == 1) <;> cases b
              all_goals go_wp2_with (go_at_call 16; (with_reducible refine Calls.mono HCC.out ?_); rintro r w7 ⟨rfl, hb7⟩; have HN7 := hide (HN.out.below hb7); clear hb7)
              all_goals have hrs := runs_snoc HRN.out
              all_goals rw [← HU.out] at hrs
              · exact ⟨⟨q + 1, c, false, rfl, rfl, by rw [HU.out]; simp; omega, by omega, by have := HU.out; omega, by rw [hrs, if_neg (fun h => by simp [h.1] at hcl)]; simpa using hcl, HN7.out⟩, by simp [intOf]; omega⟩
              · exact ⟨⟨q + 1, c, false, rfl, rfl, by rw [HU.out]; simp; omega, by omega, by have := HU.out; omega, by rw [hrs, if_neg (fun h => by simp [h.1] at hcl)]; simpa using hcl, HN7.out⟩, by simp [intOf]; omega⟩
              · exact ⟨⟨q + 1, c + 1, true, by simp, rfl, by rw [HU.out]; simp; omega, by omega, by have := HU.out; omega, by rw [hrs, if_pos ⟨by simpa using hcl, rfl⟩]; simpa using hcl, HN7.out⟩, by simp [intOf]; omega⟩
              · exact ⟨⟨q + 1, c, true, rfl, rfl, by rw [HU.out]; simp; omega, by omega, by have := HU.out; omega, by rw [hrs, if_neg (fun h => by simp at h)]; simpa using hcl, HN7.out⟩, by simp [intOf]; omega⟩
            · have hu2 : u = x := by omega
              have hq2 : q = max i x - min i x := by have := HU.out; omega
              have hlo : i = min i x := by omega
              have hw := HW.out
              have hrn := HRN.out
              rw [hlo, hq2] at hrn
              rw [hrn] at hw
              simp only [] at hw
              have r1 : decide ((u : Int) < (x : Int)) = false := by simp; omega
              have HW2 := hide hw
              clear hw hrn hq2 hlo hu2
              cases o
              · obtain ⟨rfl, hx⟩ := HW2.out.2.2.2.1 rfl
                have HX := hide hx
                clear hx
                by_cases x0 : x = 0
                · have s1 : ((x : Int) != 0) = false := by simp [x0]
                  have s2 : ((x : Int) == 0) = true := by simp [x0]
                  clear x0
                  go_wp2
                  exact ⟨⟨x, j + 1, false, rfl, rfl, by simp, hx1, by omega, by simpa using HMO.out.symm, HN.out⟩, by simp [intOf]; omega⟩
                · have hxl : x = L.length := HX.out.resolve_left x0
                  have s1 : ((x : Int) != 0) = true := by simp [x0]
                  have s2 : ((x : Int) == 0) = false := by simp [x0]
                  have s3 : ((x : Int) != (L.length : Int)) = false := by simp [hxl]
                  have s4 : ((x : Int) == (L.length : Int)) = true := by simp [hxl]
                  clear x0 hxl
                  go_wp2
                  exact ⟨⟨x, j + 1, false, rfl, rfl, by simp, hx1, by omega, by simpa using HMO.out.symm, HN.out⟩, by simp [intOf]; omega⟩
              · obtain ⟨rfl, hxd⟩ := HW2.out.2.2.2.2 rfl
                have hxd := hxd.1 (by first | trivial | rfl)
                obtain ⟨bb, off, c', hv, hcell⟩ := HN.out.scan.at_ (i := x - 1) (by omega)
                injection hv with g1 _ g3
                subst g1 g3
                have hmo := HMO.out
                simp only [if_true] at hmo
                have HMO2 := hide hmo
                clear hmo
                have hj2 : (j : Int) + 1 ≤ n * 1 := by omega
                obtain ⟨ca, hca⟩ : ∃ ca : Int, ca = ((L.getD (x - 1) 0 : Nat) : Int) := ⟨_, rfl⟩
                have HCA := hide (fun (W : World) (h : NSt w W p T (.slice (some ⟨bb, off, none⟩) L.length cb) L) => h.class_ (x - 1) ca hca)
                have hcl : (T.at_ L (x - 1) == 1) = true := by simp [hxd.2.1]
                have hcl2 : (T.at_ L (x - 1) != 1) = false := by simp [hxd.2.1]
                have e1 : (0 : Int) ≤ (x : Int) - 1 ∨ True := .inr trivial
                have s0 : (x : Int) - 1 < (L.length : Int) := by omega
                have s00 : (0 : Int) ≤ (x : Int) - 1 := by omega
                have d0 := hcell _ (Below.refl _ _) (x - 1) (by omega)
                rw [← hca] at d0
                by_cases hx2 : x < L.length
                · obtain ⟨cb2, hcb⟩ : ∃ ca : Int, ca = ((L.getD (x) 0 : Nat) : Int) := ⟨_, rfl⟩
                  have HCB := hide (fun (W : World) (h : NSt w W p T (.slice (some ⟨bb, off, none⟩) L.length cb) L) => h.class_ (x) cb2 hcb)
                  have hcl3 : (T.at_ L (x) == 1) = false := by simpa using hxd.2.2 hx2
                  have HCL := hide (show ∀ W, Below wr.heap.size wr W → W.cell? ⟨bb, off + (x), none⟩ = some (.int .i64 cb2) from fun W hW => (hcell W hW (x) (by omega)).trans (by rw [hcb]))
                  have s1 : decide ((x : Int) < (L.length : Int)) = true := by simp; omega
                  have s2 : (x : Int) < (L.length : Int) := by omega
                  have s3 : decide (x < L.length) = true := by simpa using hx2
                  clear hcell hca hcb hxd hx2 e1
                  go_wp2_with (first | (go_at_call 16; (with_reducible refine Calls.mono (HCA.out _ HN.out) ?_); rintro r w7 ⟨rfl, hb7⟩; have HN7 := hide (HN.out.below hb7); have d1 := HCL.out _ hb7; clear hb7) | (go_at_call 16; (with_reducible refine Calls.mono (HCB.out _ HN7.out) ?_); rintro r w8 ⟨rfl, hb8⟩; have HN8 := hide (HN7.out.below hb8); clear hb8))
                  exact ⟨⟨x, j + 1, true, rfl, rfl, by simp, hx1, by simpa using hj2, by simp only [if_true]; rw [HMO2.out]; congr 1; simp; omega, HN8.out⟩, by simp [intOf]; omega⟩
                · have s1 : decide ((x : Int) < (L.length : Int)) = false := by simp; omega
                  have s3 : decide (x < L.length) = false := by simpa using hx2
                  clear hcell hca hxd hx2 e1
                  go_wp2_with (go_at_call 16; (with_reducible refine Calls.mono (HCA.out _ HN.out) ?_); rintro r w7 ⟨rfl, hb7⟩; have HN7 := hide (HN.out.below hb7); clear hb7)
                  exact ⟨⟨x, j + 1, true, rfl, rfl, by simp, hx1, by simpa using hj2, by simp only [if_true]; rw [HMO2.out]; congr 1; simp; omega, HN7.out⟩, by simp [intOf]; omega⟩
        · cases al
          · have he := HE.out
            simp only [Bool.false_eq_true, if_false, Prod.mk.injEq] at he
            obtain ⟨rfl, rfl⟩ := he
            by_cases hk2 : (j : Int) < n * 1
            · have q1 : decide ((j : Int) < n * 1) = true := by simpa using hk2
              have q2 : decide ((j : Int) < n) = true := by simp; omega
              clear hk hk2
              go_wp2
              go_ret
              exact ⟨by simp, HA.out.bel⟩
            · have q1 : decide ((j : Int) < n * 1) = false := by simpa using hk2
              have q2 : decide ((j : Int) < n) = false := by simp; omega
              clear hk hk2
              go_wp2
              go_ret
              exact ⟨by simp, HA.out.bel⟩
          · have hk2 : ¬ (j : Int) < n * 1 := fun h => hk ⟨h, rfl⟩
            have q1 : decide ((j : Int) < n * 1) = false := by simpa using hk2
            have q2 : decide ((j : Int) < n) = false := by simp; omega
            have he := HE.out
            simp only [if_true] at he
            rw [show n - (j : Int) * 1 = 0 by omega, words_zero] at he
            simp only [Prod.mk.injEq] at he
            obtain ⟨rfl, rfl⟩ := he
            clear hk hk2
            go_wp2
            go_ret
            exact ⟨by simp, HA.out.bel⟩
end Go.Proofs.YtdojcgefiekleaaDoor
