/- SyntaxOver: the walk. No condition but those written. -/
import Derived.Test.YtdojcgefiekleaaDoorSde
namespace Go.Proofs.YtdojcgefiekleaaDoor
open Go.RowKit

theorem eqe (a b : Int) (w : World) : (binOp .eql 25 (.int .i64 a) (.int .i64 b)).run Tryd.prog w = .ok (.bool (a == b)) w := by kernel_rfl
set_option maxRecDepth 100000 in
set_option maxHeartbeats 8000000 in
theorem over_walk (lisp : Bool) (l : List (Int × Int × Int)) (lv : Value) (s : ByteArray) (a b c : Int) (sA : Option Addr) (sc : Nat) (S : Sta) (w : World) (hT : Tabs w) (hr : Rd w lv 3 l.length (rows clE l)) (hs : s.size < 9223372036854775807) (hS : Rd w (.slice sA S.opens.length sc) 1 S.opens.length (zints S.opens)) (hSl : S.opens.length ≤ maxLen) : Calls Tryd.prog 7 #[.bool lisp, lv, .string s, .int .i64 a, .int .i64 b, .int .i64 c, .agg #[.slice sA S.opens.length sc, .int .i64 S.under, .int .i64 S.inn, .bool S.comment, .int .i64 S.start, .bool S.quoted]] w fun e w' => e = .returned (.bool true) ∧ Below w.heap.size w w' := by
  obtain ⟨A, cp, rfl⟩ : ∃ A c, lv = .slice A l.length c := by
    obtain ⟨A, c, h1, h2, _⟩ := hr
    exact ⟨A, c, h1⟩
  have HLV := hide (fun W (hW : Below w.heap.size w W) => lives_any W (hT.below hW))
  have HT := hide hT
  have HR := hide hr
  have HS := hide hs
  have hbx := UOt.mk1 hS
  obtain ⟨a0, a1, a2, a3, a4, a5⟩ := hbx.st.six
  unfold staC at hbx a0 a1 a2 a3 a4 a5
  have HBX := hide hbx
  unfold maxLen at hSl
  clear hT hr hs hS hbx a0 a1 a2 a3 a4 a5
  by_cases g1 : 20 < l.length
  · have y1 : decide ((20 : Int) < (l.length : Int)) = true := by simp; omega
    clear g1
    go_enter Tryd.func7, Tryd.ntmps7
    go_wp2_with (go_at_call 11; (with_reducible refine Calls.mono (HLV.out _ HBX.out.bel) ?_); rintro r w1 ⟨rfl, hb1⟩; have HB1 := hide (HBX.out.below hb1); obtain ⟨a0, a1, a2, a3, a4, a5⟩ := (HBX.out.below hb1).st.six; clear hb1)
    go_ret
    exact ⟨rfl, HB1.out.bel⟩
  have y1 : decide ((20 : Int) < (l.length : Int)) = false := by simp; omega
  by_cases g2 : 300 < s.size
  · have y2 : decide ((300 : Int) < (s.size : Int)) = true := by simp; omega
    clear g1 g2
    go_enter Tryd.func7, Tryd.ntmps7
    go_wp2_with (go_at_call 11; (with_reducible refine Calls.mono (HLV.out _ HBX.out.bel) ?_); rintro r w1 ⟨rfl, hb1⟩; have HB1 := hide (HBX.out.below hb1); obtain ⟨a0, a1, a2, a3, a4, a5⟩ := (HBX.out.below hb1).st.six; clear hb1)
    go_ret
    exact ⟨rfl, HB1.out.bel⟩
  have y2 : decide ((300 : Int) < (s.size : Int)) = false := by simp; omega
  by_cases g3 : 50 < S.opens.length
  · have y3 : decide ((50 : Int) < (S.opens.length : Int)) = true := by simp; omega
    clear g1 g2 g3
    go_enter Tryd.func7, Tryd.ntmps7
    go_wp2_with (go_at_call 11; (with_reducible refine Calls.mono (HLV.out _ HBX.out.bel) ?_); rintro r w1 ⟨rfl, hb1⟩; have HB1 := hide (HBX.out.below hb1); obtain ⟨a0, a1, a2, a3, a4, a5⟩ := (HBX.out.below hb1).st.six; clear hb1)
    go_ret
    exact ⟨rfl, HB1.out.bel⟩
  have y3 : decide ((50 : Int) < (S.opens.length : Int)) = false := by simp; omega
  have HVA := hide (fun W => refvalid_any s W (by omega))
  cases hc : charsL s.data.toList with
  | none =>
    have hv : validS s = false := by unfold validS; rw [hc]; rfl
    rw [hv] at HVA
    clear g1 g2 g3 hc hv
    go_enter Tryd.func7, Tryd.ntmps7
    go_wp2_with (first | (go_at_call 11; (with_reducible refine Calls.mono (HLV.out _ HBX.out.bel) ?_); rintro r w1 ⟨rfl, hb1⟩; have HB1 := hide (HBX.out.below hb1); obtain ⟨a0, a1, a2, a3, a4, a5⟩ := (HBX.out.below hb1).st.six; clear hb1) | (go_at_call 17; (with_reducible refine Calls.mono (HVA.out w1) ?_); rintro r w2 ⟨rfl, hb2⟩; have HB2 := hide (HB1.out.below hb2); obtain ⟨b0, b1, b2, b3, b4, b5⟩ := (HB1.out.below hb2).st.six; clear hb2))
    go_ret
    exact ⟨rfl, HB2.out.bel⟩
  | some L =>
    have hv : validS s = true := by unfold validS; rw [hc]; rfl
    rw [hv] at HVA
    by_cases g4 : S.under < 0
    · have y4 : decide (S.under < 0) = true := by simpa using g4
      clear g1 g2 g3 g4 hc hv
      go_enter Tryd.func7, Tryd.ntmps7
      go_wp2_with (first | (go_at_call 11; (with_reducible refine Calls.mono (HLV.out _ HBX.out.bel) ?_); rintro r w1 ⟨rfl, hb1⟩; have HB1 := hide (HBX.out.below hb1); obtain ⟨a0, a1, a2, a3, a4, a5⟩ := (HBX.out.below hb1).st.six; clear hb1) | (go_at_call 17; (with_reducible refine Calls.mono (HVA.out w1) ?_); rintro r w2 ⟨rfl, hb2⟩; have HB2 := hide (HB1.out.below hb2); obtain ⟨b0, b1, b2, b3, b4, b5⟩ := (HB1.out.below hb2).st.six; clear hb2))
      go_ret
      exact ⟨rfl, HB2.out.bel⟩
    have y4 : decide (S.under < 0) = false := by simpa using g4
    by_cases g5 : 1099511627776 < S.under
    · have y5 : decide (1099511627776 < S.under) = true := by simpa using g5
      clear g1 g2 g3 g4 g5 hc hv
      go_enter Tryd.func7, Tryd.ntmps7
      go_wp2_with (first | (go_at_call 11; (with_reducible refine Calls.mono (HLV.out _ HBX.out.bel) ?_); rintro r w1 ⟨rfl, hb1⟩; have HB1 := hide (HBX.out.below hb1); obtain ⟨a0, a1, a2, a3, a4, a5⟩ := (HBX.out.below hb1).st.six; clear hb1) | (go_at_call 17; (with_reducible refine Calls.mono (HVA.out w1) ?_); rintro r w2 ⟨rfl, hb2⟩; have HB2 := hide (HB1.out.below hb2); obtain ⟨b0, b1, b2, b3, b4, b5⟩ := (HB1.out.below hb2).st.six; clear hb2))
      go_ret
      exact ⟨rfl, HB2.out.bel⟩
    have y5 : decide (1099511627776 < S.under) = false := by simpa using g5
    have hL1 : L.length ≤ s.size := chars_le _ _ hc
    have hl : (L.length : Int) ≤ 300 := by omega
    have HLE := hide (fun W => reflen_any s W (by omega))
    rw [show lenS s = L.length by unfold lenS; rw [hc]; rfl] at HLE
    obtain ⟨i0, hi0⟩ : ∃ i0 : Nat, pickZ a ((L.length : Int) + 1) = (i0 : Int) := ⟨(pickZ a ((L.length : Int) + 1)).toNat, by have := pickZ_ge (n := a) (k := (L.length : Int) + 1) (by omega); omega⟩
    have hi1 : i0 ≤ L.length := by have := pickZ_lt (n := a) (k := (L.length : Int) + 1) (by omega); omega
    have HPA := hide (fun W => pick_any a ((L.length : Int) + 1) W (by omega) (by omega))
    rw [hi0] at HPA
    obtain ⟨j0, hj0⟩ : ∃ j0 : Nat, pickZ b ((L.length : Int) + 1 - (i0 : Int)) = (j0 : Int) := ⟨(pickZ b ((L.length : Int) + 1 - (i0 : Int))).toNat, by have := pickZ_ge (n := b) (k := (L.length : Int) + 1 - (i0 : Int)) (by omega); omega⟩
    have hj1 : i0 + j0 ≤ L.length := by have := pickZ_lt (n := b) (k := (L.length : Int) + 1 - (i0 : Int)) (by omega); omega
    have HPB := hide (fun W => pick_any b ((L.length : Int) + 1 - (i0 : Int)) W (by omega) (by omega))
    rw [hj0] at HPB
    obtain ⟨k0, hk0⟩ : ∃ k0 : Nat, pickZ c ((L.length : Int) + 1 - ((i0 : Int) + (j0 : Int))) = (k0 : Int) := ⟨(pickZ c ((L.length : Int) + 1 - ((i0 : Int) + (j0 : Int)))).toNat, by have := pickZ_ge (n := c) (k := (L.length : Int) + 1 - ((i0 : Int) + (j0 : Int))) (by omega); omega⟩
    have hk1 : i0 + j0 + k0 ≤ L.length := by have := pickZ_lt (n := c) (k := (L.length : Int) + 1 - ((i0 : Int) + (j0 : Int))) (by omega); omega
    have HPC := hide (fun W => pick_any c ((L.length : Int) + 1 - ((i0 : Int) + (j0 : Int))) W (by omega) (by omega))
    rw [hk0] at HPC
    have z1 : (i0 : Int) ≤ 300 := by omega
    have z2 : (j0 : Int) ≤ 300 := by omega
    have z3 : (k0 : Int) ≤ 300 := by omega
    have z4 : (i0 : Int) + (j0 : Int) ≤ 300 := by omega
    have z5 : (i0 : Int) + (j0 : Int) + (k0 : Int) ≤ 300 := by omega
    have z6 : (i0 : Int) + (j0 : Int) ≤ (L.length : Int) := by omega
    obtain ⟨T, hTd⟩ : ∃ T, tabOf lisp l = T := ⟨_, rfl⟩
    have HTB := hide (fun W (hW : Below w.heap.size w W) => (show Calls Tryd.prog 13 #[.bool lisp, .slice A l.length cp] W (fun e w' => ∃ p r v, e = .returned (.tuple #[.pointer (some ⟨p.t, 0, none⟩), .pointer (some ⟨r, 0, none⟩), .bool true]) ∧ Two W w' p T r v (refOf l)) from hTd ▸ table_any W lisp l (.slice A l.length cp) (HR.out.belowN hW) (by omega)))
    have hOV := fun {W : World} {p : TL} {X X1 : Sta} {k : Int} {B : Option Addr} {d i e : Nat} {x y : Int} (hW : Below w.heap.size w W) (h : TabAt W p T) => over_in (T := T) (S := X) (S1 := X1) (k := k) (A := B) (c := d) (i := i) (e := e) (x := x) (y := y) HT.out hW h (by omega) hc
    have hSu : -9223372036854775808 ≤ S.under ∧ S.under ≤ 9223372036854775807 := by omega
    have hSo : S.opens.length ≤ 1000 := by omega
    have h00 : ((0 : Int), S) = (match overN T L (i0 - i0) i0 S with | none => (12, sta0) | some S' => (0, S')) := by
      rw [Nat.sub_self]
      rfl
    have HO4 := hide (fun (W : World) (p : TL) (hW : Below w.heap.size w W) (h : TabAt W p T) B d (hr : Rd W (.slice B S.opens.length d) 1 S.opens.length (zints S.opens)) => hOV hW h rfl rfl (Nat.le_refl i0) hi1 hr hSo hSu h00)
    cases hR1 : overN T L j0 i0 S with
    | none =>
      have h01 : ((12 : Int), sta0) = (match overN T L (i0 + j0 - i0) i0 S with | none => (12, sta0) | some S' => (0, S')) := by
        rw [Nat.add_sub_cancel_left, hR1]
      have h02 : ((12 : Int), sta0) = (match overN T L (i0 + j0 + k0 - i0) i0 S with | none => (12, sta0) | some S' => (0, S')) := by
        rw [show i0 + j0 + k0 - i0 = j0 + k0 by omega, overN_add, hR1]
        rfl
      have HO1 := hide (fun (W : World) (p : TL) (hW : Below w.heap.size w W) (h : TabAt W p T) B d (hr : Rd W (.slice B S.opens.length d) 1 S.opens.length (zints S.opens)) => hOV hW h rfl (show (i0 : Int) + (j0 : Int) = ((i0 + j0 : Nat) : Int) by simp) (Nat.le_add_right i0 j0) hj1 hr hSo hSu h01)
      have HO2 := hide (fun (W : World) (p : TL) (hW : Below w.heap.size w W) (h : TabAt W p T) B d (hr : Rd W (.slice B S.opens.length d) 1 S.opens.length (zints S.opens)) => hOV hW h rfl (show (i0 : Int) + (j0 : Int) + (k0 : Int) = ((i0 + j0 + k0 : Nat) : Int) by simp) (show i0 ≤ i0 + j0 + k0 by omega) hk1 hr hSo hSu h02)
      clear g1 g2 g3 g4 g5 hc hv hL1 hi0 hi1 hj0 hj1 hk0 hk1 hTd hOV hSu hSo h00 h01 h02 hR1 HO4
      go_enter Tryd.func7, Tryd.ntmps7
      go_wp2_with (first | (go_at_call 11; (with_reducible refine Calls.mono (HLV.out _ HBX.out.bel) ?_); rintro r w1 ⟨rfl, hb1⟩; have HB1 := hide (HBX.out.below hb1); obtain ⟨a0, a1, a2, a3, a4, a5⟩ := (HBX.out.below hb1).st.six; clear hb1) | (go_at_call 17; (with_reducible refine Calls.mono (HVA.out w1) ?_); rintro r w2 ⟨rfl, hb2⟩; have HB2 := hide (HB1.out.below hb2); obtain ⟨b0, b1, b2, b3, b4, b5⟩ := (HB1.out.below hb2).st.six; clear hb2) | (go_at_call 13; (with_reducible refine Calls.mono (HTB.out _ HB2.out.bel) ?_); rintro r w3 ⟨p, rr, v3, rfl, h3⟩; have HV3 := hide (show VOt w w3 p T sA sc S from ⟨(HB2.out.below h3.bel).bel, h3.tab, (HB2.out.below h3.bel).st, (HB2.out.below h3.bel).rd⟩); clear h3) | (go_at_call 18; (with_reducible refine Calls.mono (HLE.out _) ?_); rintro r w4 ⟨rfl, hb4⟩; have HV4 := hide (HV3.out.below hb4); obtain ⟨c0, c1, c2, c3, c4, c5⟩ := (HV3.out.below hb4).st.six; clear hb4) | (go_at_call 15; (with_reducible refine Calls.mono (HPA.out _) ?_); rintro r w' ⟨rfl, rfl⟩) | (go_at_call 15; (with_reducible refine Calls.mono (HPB.out _) ?_); rintro r w' ⟨rfl, rfl⟩) | (go_at_call 15; (with_reducible refine Calls.mono (HPC.out _) ?_); rintro r w' ⟨rfl, rfl⟩) | (go_at_call 25; (with_reducible refine Calls.mono (HO1.out _ p HV4.out.bel HV4.out.tab _ _ HV4.out.rd) ?_); rintro r w5 ⟨A5, c5_, rfl, hr5, hb5⟩; have HV5 := hide ((HV4.out.below hb5).below (below_box _ (.cells #[.slice A5 sta0.opens.length c5_, .int .i64 sta0.under, .int .i64 sta0.inn, .bool sta0.comment, .int .i64 sta0.start, .bool sta0.quoted] 50))); have HW5 := hide (WOt.new hr5); obtain ⟨e0, e1, e2, e3, e4, e5⟩ := HV5.out.st.six; obtain ⟨f0, f1, f2, f3, f4, f5⟩ := HW5.out.st.six; clear hr5 hb5) | (go_at_call 25; (with_reducible refine Calls.mono (HO2.out _ p HV5.out.bel HV5.out.tab _ _ HV5.out.rd) ?_); rintro r w6 ⟨A6, c6_, rfl, hr6, hb6⟩; have HV6 := hide ((HV5.out.below hb6).below (below_box _ (.cells #[.slice A6 sta0.opens.length c6_, .int .i64 sta0.under, .int .i64 sta0.inn, .bool sta0.comment, .int .i64 sta0.start, .bool sta0.quoted] 50))); have HW6 := hide (WOt.new hr6); obtain ⟨g0, g1, g2, g3, g4, g5⟩ := HV6.out.st.six; obtain ⟨h0, h1, h2, h3, h4, h5⟩ := HW6.out.st.six; clear hr6 hb6))
      go_ret
      exact ⟨rfl, HV6.out.bel⟩
    | some S1 =>
      have d1 := overN_deep j0 i0 S S1 (by omega) hR1
      have d2 := overN_under j0 i0 S S1 (by omega) hR1
      obtain ⟨⟨k2, S2⟩, hk2⟩ : ∃ x, x = (match overN T L k0 (i0 + j0) S1 with | none => ((12 : Int), sta0) | some S' => (0, S')) := ⟨_, rfl⟩
      have d3 : S2.opens.length ≤ 200 := by
        cases hR2 : overN T L k0 (i0 + j0) S1 with
        | none =>
          rw [hR2] at hk2
          injection hk2 with _ e2
          rw [e2]
          exact Nat.zero_le _
        | some S' =>
          rw [hR2] at hk2
          injection hk2 with _ e2
          rw [e2]
          exact overN_deep k0 (i0 + j0) S1 S' d1 hR2
      have h01 : ((0 : Int), S1) = (match overN T L (i0 + j0 - i0) i0 S with | none => (12, sta0) | some S' => (0, S')) := by
        rw [Nat.add_sub_cancel_left, hR1]
      have h02 : (k2, S2) = (match overN T L (i0 + j0 + k0 - i0) i0 S with | none => (12, sta0) | some S' => (0, S')) := by
        rw [show i0 + j0 + k0 - i0 = j0 + k0 by omega, overN_add, hR1]
        exact hk2
      have h03 : (k2, S2) = (match overN T L (i0 + j0 + k0 - (i0 + j0)) (i0 + j0) S1 with | none => (12, sta0) | some S' => (0, S')) := by
        rw [show i0 + j0 + k0 - (i0 + j0) = k0 by omega]
        exact hk2
      have HO1 := hide (fun (W : World) (p : TL) (hW : Below w.heap.size w W) (h : TabAt W p T) B d (hr : Rd W (.slice B S.opens.length d) 1 S.opens.length (zints S.opens)) => hOV hW h rfl (show (i0 : Int) + (j0 : Int) = ((i0 + j0 : Nat) : Int) by simp) (Nat.le_add_right i0 j0) hj1 hr hSo hSu h01)
      have HO2 := hide (fun (W : World) (p : TL) (hW : Below w.heap.size w W) (h : TabAt W p T) B d (hr : Rd W (.slice B S.opens.length d) 1 S.opens.length (zints S.opens)) => hOV hW h rfl (show (i0 : Int) + (j0 : Int) + (k0 : Int) = ((i0 + j0 + k0 : Nat) : Int) by simp) (show i0 ≤ i0 + j0 + k0 by omega) hk1 hr hSo hSu h02)
      have HO3 := hide (fun (W : World) (p : TL) (hW : Below w.heap.size w W) (h : TabAt W p T) B d (hr : Rd W (.slice B S1.opens.length d) 1 S1.opens.length (zints S1.opens)) => hOV hW h (show (i0 : Int) + (j0 : Int) = ((i0 + j0 : Nat) : Int) by simp) (show (i0 : Int) + (j0 : Int) + (k0 : Int) = ((i0 + j0 + k0 : Nat) : Int) by simp) (Nat.le_add_right (i0 + j0) k0) hk1 hr (by omega) (by omega) h03)
      have HD3 := hide d3
      have v1 : decide ((S1.opens.length : Int) ≤ 200) = true := by simp; omega
      have v2 : decide ((200 : Int) < (S.opens.length : Int)) = false := by simp; omega
      have v3 : decide (S.under ≤ S1.under) = true := by simp; omega
      have HSO := hide hSo
      clear g1 g2 g3 g4 g5 hc hv hL1 hi0 hi1 hj0 hj1 hk0 hk1 hTd hOV hSu hSo h00 h01 h02 h03 hR1 hk2 d1 d2 d3
      go_enter Tryd.func7, Tryd.ntmps7
      go_wp2_with (first | (go_at_call 11; (with_reducible refine Calls.mono (HLV.out _ HBX.out.bel) ?_); rintro r w1 ⟨rfl, hb1⟩; have HB1 := hide (HBX.out.below hb1); obtain ⟨a0, a1, a2, a3, a4, a5⟩ := (HBX.out.below hb1).st.six; clear hb1) | (go_at_call 17; (with_reducible refine Calls.mono (HVA.out w1) ?_); rintro r w2 ⟨rfl, hb2⟩; have HB2 := hide (HB1.out.below hb2); obtain ⟨b0, b1, b2, b3, b4, b5⟩ := (HB1.out.below hb2).st.six; clear hb2) | (go_at_call 13; (with_reducible refine Calls.mono (HTB.out _ HB2.out.bel) ?_); rintro r w3 ⟨p, rr, v3, rfl, h3⟩; have HV3 := hide (show VOt w w3 p T sA sc S from ⟨(HB2.out.below h3.bel).bel, h3.tab, (HB2.out.below h3.bel).st, (HB2.out.below h3.bel).rd⟩); clear h3) | (go_at_call 18; (with_reducible refine Calls.mono (HLE.out _) ?_); rintro r w4 ⟨rfl, hb4⟩; have HV4 := hide (HV3.out.below hb4); obtain ⟨c0, c1, c2, c3, c4, c5⟩ := (HV3.out.below hb4).st.six; clear hb4) | (go_at_call 15; (with_reducible refine Calls.mono (HPA.out _) ?_); rintro r w' ⟨rfl, rfl⟩) | (go_at_call 15; (with_reducible refine Calls.mono (HPB.out _) ?_); rintro r w' ⟨rfl, rfl⟩) | (go_at_call 15; (with_reducible refine Calls.mono (HPC.out _) ?_); rintro r w' ⟨rfl, rfl⟩) | (go_at_call 25; (with_reducible refine Calls.mono (HO1.out _ p HV4.out.bel HV4.out.tab _ _ HV4.out.rd) ?_); rintro r w5 ⟨A5, c5_, rfl, hr5, hb5⟩; have HV5 := hide ((HV4.out.below hb5).below (below_box _ (.cells #[.slice A5 S1.opens.length c5_, .int .i64 S1.under, .int .i64 S1.inn, .bool S1.comment, .int .i64 S1.start, .bool S1.quoted] 50))); have HW5 := hide (WOt.new hr5); obtain ⟨e0, e1, e2, e3, e4, e5⟩ := HV5.out.st.six; obtain ⟨f0, f1, f2, f3, f4, f5⟩ := HW5.out.st.six; clear hr5 hb5) | (go_at_call 25; (with_reducible refine Calls.mono (HO2.out _ p HV5.out.bel HV5.out.tab _ _ HV5.out.rd) ?_); rintro r w6 ⟨A6, c6_, rfl, hr6, hb6⟩; have HV6 := hide ((HV5.out.below hb6).below (below_box _ (.cells #[.slice A6 S2.opens.length c6_, .int .i64 S2.under, .int .i64 S2.inn, .bool S2.comment, .int .i64 S2.start, .bool S2.quoted] 50))); have HW6 := hide (WOt.new hr6); obtain ⟨g0, g1, g2, g3, g4, g5⟩ := HV6.out.st.six; obtain ⟨h0, h1, h2, h3, h4, h5⟩ := HW6.out.st.six; have HX5_6 := hide ((HW5.out.below hb6).below (below_box _ (.cells #[.slice A6 S2.opens.length c6_, .int .i64 S2.under, .int .i64 S2.inn, .bool S2.comment, .int .i64 S2.start, .bool S2.quoted] 50))); obtain ⟨i0, i1, i2, i3, i4, i5⟩ := HX5_6.out.st.six; clear hr6 hb6) | (go_at_call 25; (with_reducible refine Calls.mono (HO3.out _ p HV6.out.bel HV6.out.tab _ _ HX5_6.out.rd) ?_); rintro r w7 ⟨A7, c7_, rfl, hr7, hb7⟩; have HV7 := hide ((HV6.out.below hb7).below (below_box _ (.cells #[.slice A7 S2.opens.length c7_, .int .i64 S2.under, .int .i64 S2.inn, .bool S2.comment, .int .i64 S2.start, .bool S2.quoted] 50))); have HW7 := hide (WOt.new hr7); obtain ⟨j0, j1, j2, j3, j4, j5⟩ := HV7.out.st.six; obtain ⟨k0, k1, k2, k3, k4, k5⟩ := HW7.out.st.six; have HX5_7 := hide ((HX5_6.out.below hb7).below (below_box _ (.cells #[.slice A7 S2.opens.length c7_, .int .i64 S2.under, .int .i64 S2.inn, .bool S2.comment, .int .i64 S2.start, .bool S2.quoted] 50))); obtain ⟨m0, m1, m2, m3, m4, m5⟩ := HX5_7.out.st.six; have HX6_7 := hide ((HW6.out.below hb7).below (below_box _ (.cells #[.slice A7 S2.opens.length c7_, .int .i64 S2.under, .int .i64 S2.inn, .bool S2.comment, .int .i64 S2.start, .bool S2.quoted] 50))); obtain ⟨n0, n1, n2, n3, n4, n5⟩ := HX6_7.out.st.six; clear hr7 hb7) | (go_at_call 25; (with_reducible refine Calls.mono (HO4.out _ p HV7.out.bel HV7.out.tab _ _ HV7.out.rd) ?_); rintro r w8 ⟨A8, c8_, rfl, hr8, hb8⟩; have HV8 := hide ((HV7.out.below hb8).below (below_box _ (.cells #[.slice A8 S.opens.length c8_, .int .i64 S.under, .int .i64 S.inn, .bool S.comment, .int .i64 S.start, .bool S.quoted] 50))); have HW8 := hide (WOt.new hr8); obtain ⟨o0, o1, o2, o3, o4, o5⟩ := HV8.out.st.six; obtain ⟨q0, q1, q2, q3, q4, q5⟩ := HW8.out.st.six; have HX5_8 := hide ((HX5_7.out.below hb8).below (below_box _ (.cells #[.slice A8 S.opens.length c8_, .int .i64 S.under, .int .i64 S.inn, .bool S.comment, .int .i64 S.start, .bool S.quoted] 50))); obtain ⟨r0, r1, r2, r3, r4, r5⟩ := HX5_8.out.st.six; have HX6_8 := hide ((HX6_7.out.below hb8).below (below_box _ (.cells #[.slice A8 S.opens.length c8_, .int .i64 S.under, .int .i64 S.inn, .bool S.comment, .int .i64 S.start, .bool S.quoted] 50))); obtain ⟨s0, s1, s2, s3, s4, s5⟩ := HX6_8.out.st.six; have HX7_8 := hide ((HW7.out.below hb8).below (below_box _ (.cells #[.slice A8 S.opens.length c8_, .int .i64 S.under, .int .i64 S.inn, .bool S.comment, .int .i64 S.start, .bool S.quoted] 50))); obtain ⟨t0, t1, t2, t3, t4, t5⟩ := HX7_8.out.st.six; clear hr8 hb8) | (go_at_call 27; (with_reducible refine Calls.mono (same_sta _ S2 _ _ _ _ HX7_8.out.rd HX6_8.out.rd (by have := HD3.out; omega)) ?_); rintro r w9 ⟨rfl, hb9⟩; have HV9 := hide (HV8.out.below hb9); obtain ⟨aa0, aa1, aa2, aa3, aa4, aa5⟩ := (HV8.out.below hb9).st.six; obtain ⟨ab0, ab1, ab2, ab3, ab4, ab5⟩ := (HX5_8.out.below hb9).st.six; obtain ⟨ac0, ac1, ac2, ac3, ac4, ac5⟩ := (HW8.out.below hb9).st.six; have HX5_9 := hide (HX5_8.out.below hb9); have HW9 := hide (HW8.out.below hb9); clear hb9) | (go_at_call 27; (with_reducible refine Calls.mono (same_sta _ S _ _ _ _ HW9.out.rd HV9.out.rd (by have := HSO.out; omega)) ?_); rintro r w10 ⟨rfl, hb10⟩; have HV10 := hide (HV9.out.below hb10); obtain ⟨ba0, ba1, ba2, ba3, ba4, ba5⟩ := (HV9.out.below hb10).st.six; obtain ⟨bb0, bb1, bb2, bb3, bb4, bb5⟩ := (HX5_9.out.below hb10).st.six; clear hb10))
      go_ret
      exact ⟨rfl, HV10.out.bel⟩
end Go.Proofs.YtdojcgefiekleaaDoor
