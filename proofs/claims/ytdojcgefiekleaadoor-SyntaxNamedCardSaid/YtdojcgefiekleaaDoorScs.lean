/- SyntaxNamed: the walk. No condition but those written. -/
import Derived.Test.YtdojcgefiekleaaDoorScr
namespace Go.Proofs.YtdojcgefiekleaaDoor
open Go.RowKit

theorem named_any {w0 w : World} {p : TL} {T : Tb} {A : Option Addr} {c : Nat} {L : List Nat} (h : NSt w0 w p T (.slice A L.length c) L) (i : Int) : Calls Tryd.prog 21 #[.pointer (some ⟨p.t, 0, none⟩), .slice A L.length c, .int .i64 i] w fun e w' => e = .returned (.bool (namedAt T L i)) ∧ Below w.heap.size w w' := by
  have hl := h.scan.len
  have hl2 : (L.length : Int) ≤ 1000000000000 := by omega
  by_cases h0 : 0 ≤ i ∧ i < (L.length : Int)
  · obtain ⟨j, rfl⟩ : ∃ j : Nat, i = (j : Int) := ⟨i.toNat, by omega⟩
    have hj : j < L.length := by omega
    obtain ⟨bb, off, c', hv, hcell⟩ := h.scan.at_ hj
    injection hv with g1 _ g3
    subst g1 g3
    obtain ⟨ch, hch⟩ : ∃ ch : Int, ch = ((L.getD j 0 : Nat) : Int) := ⟨_, rfl⟩
    have HA := hide h
    have HCC := hide (fun (W : World) (h : NSt w0 W p T (.slice (some ⟨bb, off, none⟩) L.length c) L) => h.class_ j ch hch)
    have HCL := hide (show ∀ W, Below w.heap.size w W → W.cell? ⟨bb, off + j, none⟩ = some (.int .i64 ch) from fun W hW => (hcell W hW j hj).trans (by rw [hch]))
    have d0 := HCL.out _ (Below.refl _ _)
    have q1 : decide ((j : Int) < (L.length : Int)) = true := by simp; omega
    have q2 : (j : Int) < (L.length : Int) := by omega
    have q3 : decide (j < L.length) = true := by simpa using hj
    have HN := hide (show namedAt T L (j : Int) = isPart (T.at_ L j) from by unfold namedAt; rw [decide_eq_true (show (0 : Int) ≤ (j : Int) ∧ (j : Int) < (L.length : Int) by omega), Int.toNat_natCast]; rfl)
    rw [HN.out]
    obtain ⟨k, hk⟩ : ∃ k, T.at_ L j = k := ⟨_, rfl⟩
    rw [hk] at HCC ⊢
    clear h hcell hch hk h0
    by_cases k1 : k = 1
    · subst k1
      go_enter Tryd.func21, Tryd.ntmps21
      go_wp2_with (go_at_call 16; (with_reducible refine Calls.mono (HCC.out _ HA.out) ?_); rintro r w2 ⟨rfl, hb⟩)
      go_ret
      exact ⟨rfl, hb⟩
    · have r1 : (k == 1) = false := by simpa using k1
      by_cases k2 : k = 2
      · subst k2
        clear k1 r1
        go_enter Tryd.func21, Tryd.ntmps21
        go_wp2_with (first | (go_at_call 16; (with_reducible refine Calls.mono (HCC.out _ HA.out) ?_); rintro r w2 ⟨rfl, hb2⟩; have HA2 := hide (HA.out.below hb2); have HB2 := hide hb2; have d1 := HCL.out _ hb2; clear hb2) | (go_at_call 16; (with_reducible refine Calls.mono (HCC.out _ HA2.out) ?_); rintro r w3 ⟨rfl, hb3⟩))
        go_ret
        exact ⟨rfl, HB2.out.trans (hb3.mono HB2.out.size)⟩
      · have r2 : (k == 2) = false := by simpa using k2
        have HF := hide (show isPart k = false by unfold isPart; simp [k1, k2])
        clear k1 k2
        go_enter Tryd.func21, Tryd.ntmps21
        go_wp2_with (first | (go_at_call 16; (with_reducible refine Calls.mono (HCC.out _ HA.out) ?_); rintro r w2 ⟨rfl, hb2⟩; have HA2 := hide (HA.out.below hb2); have HB2 := hide hb2; have d1 := HCL.out _ hb2; clear hb2) | (go_at_call 16; (with_reducible refine Calls.mono (HCC.out _ HA2.out) ?_); rintro r w3 ⟨rfl, hb3⟩))
        go_ret
        exact ⟨by rw [HF.out]; simp, HB2.out.trans (hb3.mono HB2.out.size)⟩
  · have HN := hide (show namedAt T L i = false from by unfold namedAt; rw [decide_eq_false h0]; rfl)
    rw [HN.out]
    clear h
    by_cases h1 : 0 ≤ i
    · have q1 : decide (0 ≤ i) = true := by simpa using h1
      have q2 : decide (i < (L.length : Int)) = false := by simp; omega
      clear h0
      go_enter Tryd.func21, Tryd.ntmps21
      go_wp2
      go_ret
      exact ⟨rfl, Below.refl _ _⟩
    · have q1 : decide (0 ≤ i) = false := by simpa using h1
      clear h0
      go_enter Tryd.func21, Tryd.ntmps21
      go_wp2
      go_ret
      exact ⟨rfl, Below.refl _ _⟩
theorem NSt.named {w0 w : World} {p : TL} {T : Tb} {A : Option Addr} {c : Nat} {L : List Nat} (h : NSt w0 w p T (.slice A L.length c) L) {i : Int} {b : Bool} (hb : namedAt T L i = b) : Calls Tryd.prog 21 #[.pointer (some ⟨p.t, 0, none⟩), .slice A L.length c, .int .i64 i] w fun e w' => e = .returned (.bool b) ∧ Below w.heap.size w w' := hb ▸ named_any h i
set_option maxRecDepth 100000 in
set_option maxHeartbeats 4000000 in
theorem named_walk (lisp : Bool) (l : List (Int × Int × Int)) (lv : Value) (s : ByteArray) (a : Int) (w : World) (hT : Tabs w) (hr : Rd w lv 3 l.length (rows clE l)) (hs : s.size < 9223372036854775807) : Calls Tryd.prog 5 #[.bool lisp, lv, .string s, .int .i64 a] w fun e w' => e = .returned (.bool true) ∧ Below w.heap.size w w' := by
  obtain ⟨A, cp, rfl⟩ : ∃ A c, lv = .slice A l.length c := by
    obtain ⟨A, c, h1, h2, _⟩ := hr
    exact ⟨A, c, h1⟩
  have HLV := hide (lives_any w hT)
  have HT := hide hT
  have HR := hide hr
  have HS := hide hs
  clear hT hr hs
  by_cases g1 : 20 < l.length
  · have y1 : decide ((20 : Int) < (l.length : Int)) = true := by simp; omega
    clear g1
    go_enter Tryd.func5, Tryd.ntmps5
    go_wp2_with (go_at_call 11; (with_reducible refine Calls.mono HLV.out ?_); rintro r w1 ⟨rfl, hb1⟩; have HB1 := hide hb1; clear hb1)
    go_ret
    exact ⟨rfl, HB1.out⟩
  have y1 : decide ((20 : Int) < (l.length : Int)) = false := by simp; omega
  by_cases g2 : 300 < s.size
  · have y2 : decide ((300 : Int) < (s.size : Int)) = true := by simp; omega
    clear g1 g2
    go_enter Tryd.func5, Tryd.ntmps5
    go_wp2_with (go_at_call 11; (with_reducible refine Calls.mono HLV.out ?_); rintro r w1 ⟨rfl, hb1⟩; have HB1 := hide hb1; clear hb1)
    go_ret
    exact ⟨rfl, HB1.out⟩
  have y2 : decide ((300 : Int) < (s.size : Int)) = false := by simp; omega
  obtain ⟨T, hTd⟩ : ∃ T, tabOf lisp l = T := ⟨_, rfl⟩
  have HTB := hide (fun W (hW : Below w.heap.size w W) => (show Calls Tryd.prog 13 #[.bool lisp, .slice A l.length cp] W (fun e w' => ∃ p r v, e = .returned (.tuple #[.pointer (some ⟨p.t, 0, none⟩), .pointer (some ⟨r, 0, none⟩), .bool true]) ∧ Two W w' p T r v (refOf l)) from hTd ▸ table_any W lisp l (.slice A l.length cp) (HR.out.belowN hW) (by omega)))
  clear hTd
  have HSY := hide (fun (W : World) (p : TL) (h : TabAt W p T) (hW : Below w.heap.size w W) => symbol_any h s (by omega) (HT.out.below hW) a)
  cases hc : charsL s.data.toList with
  | none =>
    have HLI := hide (fun W => rl_none (w := W) (s := s) (by omega) hc)
    have hSX : symbR T s a = (0, 0, false) := by
      unfold symbR
      rw [hc]
    rw [hSX] at HSY
    clear hc hSX g1 g2
    go_enter Tryd.func5, Tryd.ntmps5
    go_wp2_with (first | (go_at_call 11; (with_reducible refine Calls.mono HLV.out ?_); rintro r w1 ⟨rfl, hb1⟩; have HB1 := hide hb1; clear hb1) | (go_at_call 13; (with_reducible refine Calls.mono (HTB.out _ HB1.out) ?_); rintro r w3 ⟨p, rr, v3, rfl, h3⟩; have HT3 := hide (h3.tab); have HB3 := hide (HB1.out.trans (h3.bel.mono HB1.out.size)); clear h3) | (go_at_call 12; (with_reducible refine Calls.mono (HLI.out _) ?_); rintro r w4 ⟨rfl, hb4⟩; have HB4 := hide (HB3.out.trans (hb4.mono HB3.out.size)); have HT4 := hide (HT3.out.below hb4); clear hb4) | (go_at_call 20; (with_reducible refine Calls.mono (HSY.out _ p HT4.out HB4.out) ?_); rintro r w5 ⟨rfl, hb5⟩; have HB5 := hide (HB4.out.trans (hb5.mono HB4.out.size)); clear hb5))
    go_ret
    exact ⟨rfl, HB5.out⟩
  | some L =>
    have hL1 : L.length ≤ s.size := chars_le _ _ hc
    have hl : (L.length : Int) ≤ 300 := by omega
    have HLI := hide (fun W => rl_some (w := W) (s := s) (by omega) hc)
    by_cases hr : a < 0 ∨ (L.length : Int) < a
    · have hSX : symbR T s a = (0, 0, false) := by
        unfold symbR
        rw [hc]
        simp only []
        rw [if_pos hr]
      rw [hSX] at HSY
      clear hc hSX g1 g2
      by_cases q1 : a < 0
      · clear hr
        go_enter Tryd.func5, Tryd.ntmps5
        go_wp2_with (first | (go_at_call 11; (with_reducible refine Calls.mono HLV.out ?_); rintro r w1 ⟨rfl, hb1⟩; have HB1 := hide hb1; clear hb1) | (go_at_call 13; (with_reducible refine Calls.mono (HTB.out _ HB1.out) ?_); rintro r w3 ⟨p, rr, v3, rfl, h3⟩; have HT3 := hide (h3.tab); have HB3 := hide (HB1.out.trans (h3.bel.mono HB1.out.size)); clear h3) | (go_at_call 12; (with_reducible refine Calls.mono (HLI.out _) ?_); rintro r w4 ⟨B, cb, rfl, hb4, hrd⟩; have HN4 := hide (show NSt w w4 p T (.slice B L.length cb) L from ⟨HB3.out.trans (hb4.mono HB3.out.size), HT3.out.below hb4, hrd, by omega⟩); clear hb4 hrd) | (go_at_call 20; (with_reducible refine Calls.mono (HSY.out _ p HN4.out.scan.tab HN4.out.bel) ?_); rintro r w5 ⟨rfl, hb5⟩; have HB5 := hide (HN4.out.bel.trans (hb5.mono HN4.out.bel.size)); clear hb5))
        go_ret
        exact ⟨rfl, HB5.out⟩
      · have q2 : (L.length : Int) < a := hr.resolve_left q1
        clear hr
        go_enter Tryd.func5, Tryd.ntmps5
        go_wp2_with (first | (go_at_call 11; (with_reducible refine Calls.mono HLV.out ?_); rintro r w1 ⟨rfl, hb1⟩; have HB1 := hide hb1; clear hb1) | (go_at_call 13; (with_reducible refine Calls.mono (HTB.out _ HB1.out) ?_); rintro r w3 ⟨p, rr, v3, rfl, h3⟩; have HT3 := hide (h3.tab); have HB3 := hide (HB1.out.trans (h3.bel.mono HB1.out.size)); clear h3) | (go_at_call 12; (with_reducible refine Calls.mono (HLI.out _) ?_); rintro r w4 ⟨B, cb, rfl, hb4, hrd⟩; have HN4 := hide (show NSt w w4 p T (.slice B L.length cb) L from ⟨HB3.out.trans (hb4.mono HB3.out.size), HT3.out.below hb4, hrd, by omega⟩); clear hb4 hrd) | (go_at_call 20; (with_reducible refine Calls.mono (HSY.out _ p HN4.out.scan.tab HN4.out.bel) ?_); rintro r w5 ⟨rfl, hb5⟩; have HB5 := hide (HN4.out.bel.trans (hb5.mono HN4.out.bel.size)); clear hb5))
        go_ret
        exact ⟨rfl, HB5.out⟩
    · obtain ⟨i, rfl⟩ : ∃ i : Nat, a = (i : Int) := ⟨a.toNat, by omega⟩
      have hi : i ≤ L.length := by omega
      have hSX : symbR T s (i : Int) = symb T L i := by
        unfold symbR
        rw [hc]
        simp only []
        rw [if_neg hr, Int.toNat_natCast]
      rw [hSX] at HSY
      have q1 : decide ((i : Int) < 0) = false := by simp
      have q2 : decide ((L.length : Int) < (i : Int)) = false := by simp; omega
      have q3 : decide (L.length < i) = false := by simp; omega
      have q4 : (i : Int) ≤ 300 := by omega
      have hno := symb_none (T := T) hi
      have hso := symb_some (T := T) hi
      obtain ⟨⟨f, t, o⟩, hsy⟩ : ∃ x, symb T L i = x := ⟨_, rfl⟩
      rw [hsy] at HSY hno hso
      clear hc hSX g1 g2 hr hsy
      cases o
      · obtain ⟨rfl, rfl, hn1, hn2⟩ := hno rfl
        have HN1 := hide hn1
        have HN2 := hide hn2
        clear hno hso hn1 hn2
        go_enter Tryd.func5, Tryd.ntmps5
        go_wp2_with (first | (go_at_call 11; (with_reducible refine Calls.mono HLV.out ?_); rintro r w1 ⟨rfl, hb1⟩; have HB1 := hide hb1; clear hb1) | (go_at_call 13; (with_reducible refine Calls.mono (HTB.out _ HB1.out) ?_); rintro r w3 ⟨p, rr, v3, rfl, h3⟩; have HT3 := hide (h3.tab); have HB3 := hide (HB1.out.trans (h3.bel.mono HB1.out.size)); clear h3) | (go_at_call 12; (with_reducible refine Calls.mono (HLI.out _) ?_); rintro r w4 ⟨B, cb, rfl, hb4, hrd⟩; have HN4 := hide (show NSt w w4 p T (.slice B L.length cb) L from ⟨HB3.out.trans (hb4.mono HB3.out.size), HT3.out.below hb4, hrd, by omega⟩); clear hb4 hrd) | (go_at_call 20; (with_reducible refine Calls.mono (HSY.out _ p HN4.out.scan.tab HN4.out.bel) ?_); rintro r w5 ⟨rfl, hb5⟩; have HN5 := hide (HN4.out.below hb5); clear hb5) | (go_at_call 21; (with_reducible refine Calls.mono (HN5.out.named HN1.out) ?_); rintro r w6 ⟨rfl, hb6⟩; have HN6 := hide (HN5.out.below hb6); clear hb6) | (go_at_call 21; (with_reducible refine Calls.mono (HN6.out.named HN2.out) ?_); rintro r w7 ⟨rfl, hb7⟩; have HN7 := hide (HN6.out.below hb7); clear hb7))
        go_ret
        exact ⟨rfl, HN7.out.bel⟩
      · have HSO := hide (hso rfl)
        clear hno hso
        go_enter Tryd.func5, Tryd.ntmps5
        go_wp2_with (first | (go_at_call 11; (with_reducible refine Calls.mono HLV.out ?_); rintro r w1 ⟨rfl, hb1⟩; have HB1 := hide hb1; clear hb1) | (go_at_call 13; (with_reducible refine Calls.mono (HTB.out _ HB1.out) ?_); rintro r w3 ⟨p, rr, v3, rfl, h3⟩; have HT3 := hide (h3.tab); have HB3 := hide (HB1.out.trans (h3.bel.mono HB1.out.size)); clear h3) | (go_at_call 12; (with_reducible refine Calls.mono (HLI.out _) ?_); rintro r w4 ⟨B, cb, rfl, hb4, hrd⟩; have HN4 := hide (show NSt w w4 p T (.slice B L.length cb) L from ⟨HB3.out.trans (hb4.mono HB3.out.size), HT3.out.below hb4, hrd, by omega⟩); clear hb4 hrd) | (go_at_call 20; (with_reducible refine Calls.mono (HSY.out _ p HN4.out.scan.tab HN4.out.bel) ?_); rintro r w5 ⟨rfl, hb5⟩; have HN5 := hide (HN4.out.below hb5); clear hb5))
        go_loopw [17] (fun iv wr => ∃ k : Nat, iv = .int .i64 (k : Int) ∧ f ≤ k ∧ k ≤ t ∧ NSt w wr p T (.slice B L.length cb) L) (fun iv _ => 301 - (intOf iv).toNat)
        case atStart => exact ⟨f, rfl, Nat.le_refl _, Nat.le_of_lt HSO.out.1, HN5.out⟩
        case round =>
          obtain ⟨k, rfl, hk1, hk2, hn⟩ := hrel
          have HA := hide hn
          clear hn
          have b1 : f < t := HSO.out.1
          have b2 : t ≤ L.length := HSO.out.2.1
          have b3 : f ≤ i := HSO.out.2.2.1
          have b4 : i ≤ t := HSO.out.2.2.2.1
          have b5 : (t : Int) ≤ 300 := by omega
          have b6 : (k : Int) ≤ 300 := by omega
          by_cases hg : k < t
          · have HNK := hide (HSO.out.2.2.2.2.1 k hk1 hg)
            have r1 : decide ((k : Int) < (t : Int)) = true := by simp; omega
            go_wp2_with (go_at_call 21; (with_reducible refine Calls.mono (HA.out.named HNK.out) ?_); rintro r w6 ⟨rfl, hb6⟩; have HN6 := hide (HA.out.below hb6); clear hb6)
            exact ⟨⟨k + 1, by simp, by omega, by omega, HN6.out⟩, by simp [intOf]; omega⟩
          · have r1 : decide ((k : Int) < (t : Int)) = false := by simp; omega
            have s1 : decide ((f : Int) < (t : Int)) = true := by simp; omega
            have s2 : decide ((t : Int) ≤ (L.length : Int)) = true := by simp; omega
            have s3 : decide ((f : Int) ≤ (i : Int)) = true := by simp; omega
            have s4 : decide ((i : Int) ≤ (t : Int)) = true := by simp; omega
            have HNF := hide HSO.out.2.2.2.2.2.1
            have HNT := hide HSO.out.2.2.2.2.2.2
            have s5 : decide (f < t) = true := by simpa using b1
            have s6 : decide (t ≤ L.length) = true := by simpa using b2
            have s7 : decide (f ≤ i) = true := by simpa using b3
            have s8 : decide (i ≤ t) = true := by simpa using b4
            go_wp2_with (first | (go_at_call 21; (with_reducible refine Calls.mono (HA.out.named HNF.out) ?_); rintro r w6 ⟨rfl, hb6⟩; have HN6 := hide (HA.out.below hb6); clear hb6) | (go_at_call 21; (with_reducible refine Calls.mono (HN6.out.named HNT.out) ?_); rintro r w7 ⟨rfl, hb7⟩; have HN7 := hide (HN6.out.below hb7); clear hb7))
            go_ret
            exact ⟨rfl, HN7.out.bel⟩
end Go.Proofs.YtdojcgefiekleaaDoor
