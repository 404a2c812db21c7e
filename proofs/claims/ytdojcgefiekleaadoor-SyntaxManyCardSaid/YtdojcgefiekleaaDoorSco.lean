/- SyntaxMany: the walk. No condition but those written. -/
import Derived.Test.YtdojcgefiekleaaDoorScn
namespace Go.Proofs.YtdojcgefiekleaaDoor
open Go.RowKit

/-- Within SyntaxMany's loop: the table, the first answer's fault. -/
structure MSt (w0 w : World) (p : TL) (T : Tb) (g : Nat) (e f : Int) : Prop where
  bel : Below w0.heap.size w0 w
  tab : TabAt w p T
  flt : Blk w g 40 #[.int .i64 e, .int .i64 f]
theorem MSt.below {w0 w w' : World} {p : TL} {T : Tb} {g : Nat} {e f : Int} (h : MSt w0 w p T g e f) (hb : Below w.heap.size w w') : MSt w0 w' p T g e f := ⟨h.bel.trans (hb.mono h.bel.size), h.tab.below hb, h.flt.below hb h.flt.lt⟩
theorem MSt.c0 {w0 w : World} {p : TL} {T : Tb} {g : Nat} {e f : Int} (h : MSt w0 w p T g e f) : w.cell? ⟨g, 0, none⟩ = some (.int .i64 e) := (h.flt.cell 0).trans rfl
theorem MSt.c1 {w0 w : World} {p : TL} {T : Tb} {g : Nat} {e f : Int} (h : MSt w0 w p T g e f) : w.cell? ⟨g, 1, none⟩ = some (.int .i64 f) := (h.flt.cell 1).trans rfl
set_option maxRecDepth 100000 in
set_option maxHeartbeats 4000000 in
theorem many_walk (lisp : Bool) (l : List (Int × Int × Int)) (lv : Value) (s : ByteArray) (a n : Int) (w : World) (hT : Tabs w) (hr : Rd w lv 3 l.length (rows clE l)) (hs : s.size < 9223372036854775807) : Calls Tryd.prog 4 #[.bool lisp, lv, .string s, .int .i64 a, .int .i64 n] w fun e w' => e = .returned (.bool true) ∧ Below w.heap.size w w' := by
  obtain ⟨A, cp, rfl⟩ : ∃ A c, lv = .slice A l.length c := by
    obtain ⟨A, c, h1, h2, _⟩ := hr
    exact ⟨A, c, h1⟩
  have HLV := hide (lives_any w hT)
  have HT := hide hT
  have HR := hide hr
  have HS := hide hs
  clear hT hr hs
  by_cases g1 : 20 < l.length
  · have y1 : decide ((20 : Int) < (l.length : Int)) = true := by simp; omega
    clear g1
    go_enter Tryd.func4, Tryd.ntmps4
    go_wp2_with (go_at_call 11; (with_reducible refine Calls.mono HLV.out ?_); rintro r w1 ⟨rfl, hb1⟩; have HB1 := hide hb1; clear hb1)
    go_ret
    exact ⟨rfl, HB1.out⟩
  have y1 : decide ((20 : Int) < (l.length : Int)) = false := by simp; omega
  by_cases g2 : 300 < s.size
  · have y2 : decide ((300 : Int) < (s.size : Int)) = true := by simp; omega
    clear g1 g2
    go_enter Tryd.func4, Tryd.ntmps4
    go_wp2_with (go_at_call 11; (with_reducible refine Calls.mono HLV.out ?_); rintro r w1 ⟨rfl, hb1⟩; have HB1 := hide hb1; clear hb1)
    go_ret
    exact ⟨rfl, HB1.out⟩
  have y2 : decide ((300 : Int) < (s.size : Int)) = false := by simp; omega
  by_cases g3 : n < -40
  · have y3 : decide (n < -40) = true := by simpa using g3
    clear g1 g2 g3
    go_enter Tryd.func4, Tryd.ntmps4
    go_wp2_with (go_at_call 11; (with_reducible refine Calls.mono HLV.out ?_); rintro r w1 ⟨rfl, hb1⟩; have HB1 := hide hb1; clear hb1)
    go_ret
    exact ⟨rfl, HB1.out⟩
  have y3 : decide (n < -40) = false := by simpa using g3
  by_cases g4 : 40 < n
  · have y4 : decide (40 < n) = true := by simpa using g4
    clear g1 g2 g3 g4
    go_enter Tryd.func4, Tryd.ntmps4
    go_wp2_with (go_at_call 11; (with_reducible refine Calls.mono HLV.out ?_); rintro r w1 ⟨rfl, hb1⟩; have HB1 := hide hb1; clear hb1)
    go_ret
    exact ⟨rfl, HB1.out⟩
  have y4 : decide (40 < n) = false := by simpa using g4
  have HVA := hide (fun W => refvalid_any s W (by omega))
  cases hc : charsL s.data.toList with
  | none =>
    have hv : validS s = false := by unfold validS; rw [hc]; rfl
    rw [hv] at HVA
    clear g1 g2 g3 g4 hc hv
    go_enter Tryd.func4, Tryd.ntmps4
    go_wp2_with (first | (go_at_call 11; (with_reducible refine Calls.mono HLV.out ?_); rintro r w1 ⟨rfl, hb1⟩; have HB1 := hide hb1; clear hb1) | (go_at_call 17; (with_reducible refine Calls.mono (HVA.out w1) ?_); rintro r w2 ⟨rfl, hb2⟩; have HB2 := hide (HB1.out.trans (hb2.mono HB1.out.size)); clear hb2))
    go_ret
    exact ⟨rfl, HB2.out⟩
  | some L =>
    have hv : validS s = true := by unfold validS; rw [hc]; rfl
    rw [hv] at HVA
    have hL1 : L.length ≤ s.size := chars_le _ _ hc
    have hl : (L.length : Int) ≤ 300 := by omega
    have HLE := hide (fun W => reflen_any s W (by omega))
    rw [show lenS s = L.length by unfold lenS; rw [hc]; rfl] at HLE
    obtain ⟨i0, hi0⟩ : ∃ i0 : Nat, pickZ a ((L.length : Int) + 1) = (i0 : Int) := ⟨(pickZ a ((L.length : Int) + 1)).toNat, by have := pickZ_ge (n := a) (k := (L.length : Int) + 1) (by omega); omega⟩
    have hi1 : i0 ≤ L.length := by have := pickZ_lt (n := a) (k := (L.length : Int) + 1) (by omega); omega
    have HPK := hide (fun W => pick_any a ((L.length : Int) + 1) W (by omega) (by omega))
    rw [hi0] at HPK
    obtain ⟨T, hTd⟩ : ∃ T, tabOf lisp l = T := ⟨_, rfl⟩
    have HTB := hide (fun W (hW : Below w.heap.size w W) => (show Calls Tryd.prog 13 #[.bool lisp, .slice A l.length cp] W (fun e w' => ∃ p r v, e = .returned (.tuple #[.pointer (some ⟨p.t, 0, none⟩), .pointer (some ⟨r, 0, none⟩), .bool true]) ∧ Two W w' p T r v (refOf l)) from hTd ▸ table_any W lisp l (.slice A l.length cp) (HR.out.belowN hW) (by omega)))
    obtain ⟨⟨E, e, f⟩, hR⟩ : ∃ x, sexps T L n i0 = x := ⟨_, rfl⟩
    have hSX : ∀ (i : Nat) (m : Int), i ≤ L.length → sexpsR T s i m = sexps T L m i := by
      intro i m hi
      unfold sexpsR
      rw [hc]
      simp only []
      rw [if_neg (by omega), Int.toNat_natCast]
    have HSX := hide (fun (W : World) (p : TL) (h : TabAt W p T) (hW : Below w.heap.size w W) (i : Nat) (m : Int) (hi : i ≤ L.length) (hm : -1000000 ≤ m) (hm2 : m ≤ 1000000) => (hSX i m hi) ▸ sexps_any h s (by omega) (HT.out.below hW) (i : Int) m hm hm2)
    have HS1 := hide (fun (W : World) (p : TL) (h : TabAt W p T) (hW : Below w.heap.size w W) => (show Calls Tryd.prog 19 #[.pointer (some ⟨p.t, 0, none⟩), .string s, .int .i64 (i0 : Int), .int .i64 n] W (fun r w' => r = .returned (.tuple #[.int .i64 (E : Int), .agg #[.int .i64 e, .int .i64 f]]) ∧ Below W.heap.size W w') from by
      have h1 := HSX.out W p h hW i0 n hi1 (by omega) (by omega)
      rw [hR] at h1
      exact h1))
    have HRR := hide hR
    have HI1 := hide hi1
    clear hc hv hL1 hi0 hTd hR hSX g1 g2 hi1
    have eqf := eq_flt
    by_cases h0 : n < 0
    · have y5 : decide (n < 0) = true := by simpa using h0
      go_enter Tryd.func4, Tryd.ntmps4
      go_wp2_with (first | (go_at_call 11; (with_reducible refine Calls.mono HLV.out ?_); rintro r w1 ⟨rfl, hb1⟩; have HB1 := hide hb1; clear hb1) | (go_at_call 17; (with_reducible refine Calls.mono (HVA.out w1) ?_); rintro r w2 ⟨rfl, hb2⟩; have HB2 := hide (HB1.out.trans (hb2.mono HB1.out.size)); clear hb2) | (go_at_call 13; (with_reducible refine Calls.mono (HTB.out _ HB2.out) ?_); rintro r w3 ⟨p, rr, v3, rfl, h3⟩; have HT3 := hide (h3.tab); have HB3 := hide (HB2.out.trans (h3.bel.mono HB2.out.size)); clear h3) | (go_at_call 18; (with_reducible refine Calls.mono (HLE.out _) ?_); rintro r w4 ⟨rfl, hb4⟩; have HB4 := hide (HB3.out.trans (hb4.mono HB3.out.size)); have HT4 := hide (HT3.out.below hb4); clear hb4) | (go_at_call 15; (with_reducible refine Calls.mono (HPK.out _) ?_); rintro r w' ⟨rfl, rfl⟩) | (go_at_call 19; (with_reducible refine Calls.mono (HS1.out _ p HT4.out HB4.out) ?_); rintro r w5 ⟨rfl, hb5⟩; have HM := hide (show MSt w (w5.alloc (.cells #[.int .i64 e, .int .i64 f] 40)) p T w5.heap.size e f from ⟨(HB4.out.trans (hb5.mono HB4.out.size)).alloc (HB4.out.trans (hb5.mono HB4.out.size)).size _, (HT4.out.below hb5).alloc _, Blk.new _ _ _⟩); clear hb5))
      go_loopw [3, 17] (fun tv kv wr => ∃ (i j : Nat), tv = .int .i64 (i : Int) ∧ kv = .int .i64 (j : Int) ∧ i ≤ L.length ∧ (j : Int) ≤ n * (-1) ∧ sexps T L (n - j * (-1)) i = (E, e, f) ∧ MSt w wr p T w5.heap.size e f) (fun _ kv _ => 41 - (intOf kv).toNat)
      case atStart => exact ⟨i0, 0, rfl, rfl, HI1.out, by omega, by rw [← HRR.out]; congr 1; omega, HM.out⟩
      case round =>
        obtain ⟨i, j, rfl, rfl, hi, hj, he, hm⟩ := hrel
        have HA := hide hm
        have HE := hide he
        have c0 := hm.c0
        have c1 := hm.c1
        clear he hm
        by_cases hk : (j : Int) < n * (-1)
        · obtain ⟨⟨x, y, z⟩, h1⟩ : ∃ x, sexps T L (-1) i = x := ⟨_, rfl⟩
          have hg := sexps_goes HA.out.tab.ok hi (by omega) h1
          have hmo := sexps_more (m := n - j * (-1)) (by omega) (by omega) h1
          rw [HE.out] at hmo
          have HS2 := hide (show Calls Tryd.prog 19 #[.pointer (some ⟨p.t, 0, none⟩), .string s, .int .i64 (i : Int), .int .i64 (-1)] wr (fun r w' => r = .returned (.tuple #[.int .i64 (x : Int), .agg #[.int .i64 y, .int .i64 z]]) ∧ Below wr.heap.size wr w') from by
            have h2 := HSX.out wr p HA.out.tab HA.out.bel i (-1) hi (by omega) (by omega)
            rw [h1] at h2
            exact h2)
          have q1 : decide ((j : Int) < n * (-1)) = true := by simpa using hk
          have q2 : decide ((j : Int) < -n) = true := by simp; omega
          by_cases y0 : y = 0
          · obtain ⟨rfl, hx, hxi⟩ := hg.1 y0
            subst y0
            rw [if_pos rfl] at hmo
            have HMO := hide hmo
            have q3 : decide (((x : Int) - i) * (-1) ≤ 0) = false := decide_eq_false (by omega)
            clear hg hmo h1
            go_wp2_with (go_at_call 19; (with_reducible refine Calls.mono HS2.out ?_); rintro r w6 ⟨rfl, hb6⟩; have HM6 := hide ((HA.out.below hb6).below ((Below.refl w6.heap.size w6).alloc (Nat.le_refl _) (.cells #[.int .i64 0, .int .i64 0] 40))); clear hb6)
            exact ⟨⟨x, j + 1, rfl, by simp, hx, by omega, by rw [HMO.out]; congr 1; simp; omega, HM6.out⟩, by simp [intOf]; omega⟩
          · have hx0 := hg.2 y0
            rw [if_neg y0] at hmo
            simp only [Prod.mk.injEq] at hmo
            obtain ⟨rfl, rfl, rfl⟩ := hmo
            subst hx0
            have q3 : (e != 0) = true := by simpa using y0
            have q4 : (e == 0) = false := by simpa using y0
            clear hg h1
            go_wp2_with (go_at_call 19; (with_reducible refine Calls.mono HS2.out ?_); rintro r w6 ⟨rfl, hb6⟩; have HM6 := hide ((HA.out.below hb6).below ((Below.refl w6.heap.size w6).alloc (Nat.le_refl _) (.cells #[.int .i64 e, .int .i64 f] 40))); have d0 := HM6.out.c0; have d1 := HM6.out.c1; clear hb6)
            go_ret
            exact ⟨by simp, HM6.out.bel⟩
        · have q1 : decide ((j : Int) < n * (-1)) = false := by simpa using hk
          have q2 : decide ((j : Int) < -n) = false := by simp; omega
          have h0 : n - j * (-1) = 0 := by omega
          have he := HE.out
          rw [h0, show sexps T L 0 i = (i, 0, 0) from rfl] at he
          simp only [Prod.mk.injEq] at he
          obtain ⟨rfl, rfl, rfl⟩ := he
          go_wp2
          go_ret
          exact ⟨by simp, HA.out.bel⟩
    · have y5 : decide (n < 0) = false := by simpa using h0
      go_enter Tryd.func4, Tryd.ntmps4
      go_wp2_with (first | (go_at_call 11; (with_reducible refine Calls.mono HLV.out ?_); rintro r w1 ⟨rfl, hb1⟩; have HB1 := hide hb1; clear hb1) | (go_at_call 17; (with_reducible refine Calls.mono (HVA.out w1) ?_); rintro r w2 ⟨rfl, hb2⟩; have HB2 := hide (HB1.out.trans (hb2.mono HB1.out.size)); clear hb2) | (go_at_call 13; (with_reducible refine Calls.mono (HTB.out _ HB2.out) ?_); rintro r w3 ⟨p, rr, v3, rfl, h3⟩; have HT3 := hide (h3.tab); have HB3 := hide (HB2.out.trans (h3.bel.mono HB2.out.size)); clear h3) | (go_at_call 18; (with_reducible refine Calls.mono (HLE.out _) ?_); rintro r w4 ⟨rfl, hb4⟩; have HB4 := hide (HB3.out.trans (hb4.mono HB3.out.size)); have HT4 := hide (HT3.out.below hb4); clear hb4) | (go_at_call 15; (with_reducible refine Calls.mono (HPK.out _) ?_); rintro r w' ⟨rfl, rfl⟩) | (go_at_call 19; (with_reducible refine Calls.mono (HS1.out _ p HT4.out HB4.out) ?_); rintro r w5 ⟨rfl, hb5⟩; have HM := hide (show MSt w (w5.alloc (.cells #[.int .i64 e, .int .i64 f] 40)) p T w5.heap.size e f from ⟨(HB4.out.trans (hb5.mono HB4.out.size)).alloc (HB4.out.trans (hb5.mono HB4.out.size)).size _, (HT4.out.below hb5).alloc _, Blk.new _ _ _⟩); clear hb5))
      go_loopw [3, 17] (fun tv kv wr => ∃ (i j : Nat), tv = .int .i64 (i : Int) ∧ kv = .int .i64 (j : Int) ∧ i ≤ L.length ∧ (j : Int) ≤ n * 1 ∧ sexps T L (n - j * 1) i = (E, e, f) ∧ MSt w wr p T w5.heap.size e f) (fun _ kv _ => 41 - (intOf kv).toNat)
      case atStart => exact ⟨i0, 0, rfl, rfl, HI1.out, by omega, by rw [← HRR.out]; congr 1; omega, HM.out⟩
      case round =>
        obtain ⟨i, j, rfl, rfl, hi, hj, he, hm⟩ := hrel
        have HA := hide hm
        have HE := hide he
        have c0 := hm.c0
        have c1 := hm.c1
        clear he hm
        by_cases hk : (j : Int) < n * 1
        · obtain ⟨⟨x, y, z⟩, h1⟩ : ∃ x, sexps T L 1 i = x := ⟨_, rfl⟩
          have hg := sexps_goes HA.out.tab.ok hi (by omega) h1
          have hmo := sexps_more (m := n - j * 1) (by omega) (by omega) h1
          rw [HE.out] at hmo
          have HS2 := hide (show Calls Tryd.prog 19 #[.pointer (some ⟨p.t, 0, none⟩), .string s, .int .i64 (i : Int), .int .i64 1] wr (fun r w' => r = .returned (.tuple #[.int .i64 (x : Int), .agg #[.int .i64 y, .int .i64 z]]) ∧ Below wr.heap.size wr w') from by
            have h2 := HSX.out wr p HA.out.tab HA.out.bel i 1 hi (by omega) (by omega)
            rw [h1] at h2
            exact h2)
          have q1 : decide ((j : Int) < n * 1) = true := by simpa using hk
          have q2 : decide ((j : Int) < n) = true := by simp; omega
          by_cases y0 : y = 0
          · obtain ⟨rfl, hx, hxi⟩ := hg.1 y0
            subst y0
            rw [if_pos rfl] at hmo
            have HMO := hide hmo
            have q3 : decide (((x : Int) - i) * 1 ≤ 0) = false := decide_eq_false (by omega)
            clear hg hmo h1
            go_wp2_with (go_at_call 19; (with_reducible refine Calls.mono HS2.out ?_); rintro r w6 ⟨rfl, hb6⟩; have HM6 := hide ((HA.out.below hb6).below ((Below.refl w6.heap.size w6).alloc (Nat.le_refl _) (.cells #[.int .i64 0, .int .i64 0] 40))); clear hb6)
            exact ⟨⟨x, j + 1, rfl, by simp, hx, by omega, by rw [HMO.out]; congr 1; simp; omega, HM6.out⟩, by simp [intOf]; omega⟩
          · have hx0 := hg.2 y0
            rw [if_neg y0] at hmo
            simp only [Prod.mk.injEq] at hmo
            obtain ⟨rfl, rfl, rfl⟩ := hmo
            subst hx0
            have q3 : (e != 0) = true := by simpa using y0
            have q4 : (e == 0) = false := by simpa using y0
            clear hg h1
            go_wp2_with (go_at_call 19; (with_reducible refine Calls.mono HS2.out ?_); rintro r w6 ⟨rfl, hb6⟩; have HM6 := hide ((HA.out.below hb6).below ((Below.refl w6.heap.size w6).alloc (Nat.le_refl _) (.cells #[.int .i64 e, .int .i64 f] 40))); have d0 := HM6.out.c0; have d1 := HM6.out.c1; clear hb6)
            go_ret
            exact ⟨by simp, HM6.out.bel⟩
        · have q1 : decide ((j : Int) < n * 1) = false := by simpa using hk
          have q2 : decide ((j : Int) < n) = false := by simp; omega
          have h0 : n - j * 1 = 0 := by omega
          have he := HE.out
          rw [h0, show sexps T L 0 i = (i, 0, 0) from rfl] at he
          simp only [Prod.mk.injEq] at he
          obtain ⟨rfl, rfl, rfl⟩ := he
          go_wp2
          go_ret
          exact ⟨by simp, HA.out.bel⟩
end Go.Proofs.YtdojcgefiekleaaDoor
