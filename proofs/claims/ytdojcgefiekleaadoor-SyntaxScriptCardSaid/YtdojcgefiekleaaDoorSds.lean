/- SyntaxScript: the walk. No condition but those written. -/
import Derived.Test.YtdojcgefiekleaaDoorSel
import Derived.Test.YtdojcgefiekleaaDoorSde
namespace Go.Proofs.YtdojcgefiekleaaDoor
open Go.RowKit

theorem tab_own (l : List (Int × Int × Int)) (lisp : Bool) : (tabOf lisp l).own = (refOf l).reverse ∧ (tabOf lisp l).Ok ∧ (tabOf lisp l).lisp = lisp := by
  have key : ∀ (l : List (Int × Int × Int)) (T : Tb) (r : List (Int × Int × Int)), T.own = r.reverse → T.Ok → T.lisp = lisp →
      (l.foldl (fun T x => T.set x.1 x.2.1 x.2.2) T).own = (l.foldl (fun r x => rset r x.1 x.2.1 x.2.2) r).reverse ∧ (l.foldl (fun T x => T.set x.1 x.2.1 x.2.2) T).Ok ∧ (l.foldl (fun T x => T.set x.1 x.2.1 x.2.2) T).lisp = lisp := by
    intro l
    induction l with
    | nil => intro T r h1 h2 h3; exact ⟨h1, h2, h3⟩
    | cons x l ih =>
      intro T r h1 h2 h3
      refine ih _ _ ?_ (h2.set _ _ _) (by rw [set_lisp, h3])
      show (T.set x.1 x.2.1 x.2.2).own = (rset r x.1 x.2.1 x.2.2).reverse
      unfold Tb.set rset
      split
      · simp [h1]
      · exact h1
  exact key l ⟨lisp, []⟩ [] rfl (fun x hx => by simp at hx) rfl
theorem Two.rt {w0 w : World} {p : TL} {r : Nat} {v : Value} {lisp : Bool} {l : List (Int × Int × Int)} (h : Two w0 w p (tabOf lisp l) r v (refOf l)) (hl : l.length ≤ 20) : RT w r (tabOf lisp l) :=
  ⟨v, refOf l, h.ref.blk, h.ref.row, (tab_own l lisp).1, by have := refOf_len l; omega, (tab_own l lisp).2.1⟩
theorem overN_len {T : Tb} {L : List Nat} : ∀ (m i : Nat) (S S' : Sta), overN T L m i S = some S' → S'.opens.length ≤ max S.opens.length 200
  | 0, i, S, S', h => by
      unfold overN at h
      injection h with h
      subst h
      omega
  | m + 1, i, S, S', h => by
      unfold overN at h
      split at h
      · cases h
      · have := overN_len m (i + 1) _ S' h
        omega
theorem overZ_len {T : Tb} {s : ByteArray} {a b : Int} {S : Sta} : (overZ T s a b S).2.opens.length ≤ max S.opens.length 200 := by
  rcases overR_cases T s a b S with ⟨h1, _⟩ | ⟨h1, _⟩ | ⟨L, i0, e0, hc, h2, h3, h4, h5, h6⟩
  · rw [overZ_bad h1]
    exact Nat.zero_le _
  · rw [overZ_bad h1]
    exact Nat.zero_le _
  · unfold overZ
    rw [h6]
    cases hN : overN T L (e0 - i0) i0 S with
    | none => exact Nat.zero_le _
    | some S' => exact overN_len _ _ _ _ hN
theorem own_int {w : World} {v : Value} {n : Nat} {xs : List Value} (h : Rd w v 1 n xs) (h1 : ∀ u ∈ xs, u.oneCell' = true) (hn : n ≤ 1000000) : Calls Tryd.prog 30 #[v] w fun e w' => ∃ A c, e = .returned (.slice A n c) ∧ Sl w' 3 1 (.slice A n c) n xs ∧ Below w.heap.size w w' := by
  obtain ⟨A, c, rfl, _⟩ := id h
  have hb := below_box w (.cells #[] 3)
  have HR := hide (h.belowN hb)
  have HO := hide h1
  have HEM := hide (show Sl (w.alloc (.cells #[] 3)) 3 1 (.slice (some ⟨w.heap.size, 0, none⟩) 0 0) 0 [] by simpa using Sl.new w 3 1 #[] 0 0 (Nat.le_refl _) (by simp [maxLen]) (by simp))
  obtain ⟨i0, hi, hi1, hi2, hi3⟩ := info_parts info_nt2
  have HI := hide hi
  have HI1 := hide hi1
  have HI2 := hide hi2
  have HI3 := hide hi3
  clear h h1 hb hi hi1 hi2 hi3
  go_enter Tryd.func30, Tryd.ntmps30
  go_wp2_with (at_builtin; refine wpList_append_sl rfl (.tmp 3) (.tmp 4) 24 rfl 3 i0 (.int .i64 0) 1 8 Tryd.underlying24 HI.out HI1.out HI2.out HI3.out rfl (.slice (some ⟨w.heap.size, 0, none⟩) 0 0) 0 [] rfl HEM.out _ rfl n xs HR.out HO.out ?b1 ?b2 ?_)
  case b1 => unfold maxLen; omega
  case b2 => omega
  intro v2 w2 hs2 ho2 hv2
  have hf := fresh_step (below_box w (.cells #[] 3)) (by intro g hg; cases hg; exact Nat.le_refl _) ho2 (by rw [World.size_alloc]; exact hv2)
  have HF := hide hf.1
  have HS := hide (show Sl w2 3 1 v2 n xs by simpa using hs2)
  obtain ⟨A2, c2, rfl, _, _⟩ := HS.out.form
  clear hs2 ho2 hv2 hf
  go_wp2_with fail
  go_ret
  exact ⟨A2, c2, rfl, HS.out, HF.out⟩
set_option maxRecDepth 100000 in
set_option maxHeartbeats 64000000 in
theorem script_walk (lisp : Bool) (l : List (Int × Int × Int)) (lv : Value) (s : ByteArray) (fr en n : Int) (sA : Option Addr) (sc : Nat) (S : Sta) (w : World) (hT : Tabs w) (hr : Rd w lv 3 l.length (rows clE l)) (hs : s.size < 9223372036854775807) (hS : Rd w (.slice sA S.opens.length sc) 1 S.opens.length (zints S.opens)) (hSl : S.opens.length ≤ maxLen) (hu : -9223372036854775808 ≤ S.under ∧ S.under ≤ 9223372036854775807) : Calls Tryd.prog 9 #[.bool lisp, lv, .string s, .int .i64 fr, .int .i64 en, .int .i64 n, .agg #[.slice sA S.opens.length sc, .int .i64 S.under, .int .i64 S.inn, .bool S.comment, .int .i64 S.start, .bool S.quoted]] w fun e w' => e = .returned (.bool true) ∧ Below w.heap.size w w' := by
  obtain ⟨A, cp, rfl⟩ : ∃ A c, lv = .slice A l.length c := by
    obtain ⟨A, c, h1, h2, _⟩ := hr
    exact ⟨A, c, h1⟩
  have HLV := hide (fun W (hW : Below w.heap.size w W) => lives_any W (hT.below hW))
  have HT := hide hT
  have HR := hide hr
  have HS := hide hS
  have HU := hide hu
  obtain ⟨ol, hol⟩ : ∃ z, z = S.opens.length := ⟨_, rfl⟩
  have HOL := hide hol
  obtain ⟨ll, hll⟩ : ∃ z, z = l.length := ⟨_, rfl⟩
  have HLL := hide hll
  rw [← hol] at HS hSl ⊢
  rw [← hll] at HR ⊢
  have hb0 := below_box w (.cells #[.slice sA ol sc, .int .i64 S.under, .int .i64 S.inn, .bool S.comment, .int .i64 S.start, .bool S.quoted] 50)
  have HB0 := hide hb0
  have HX0 := hide (Blk.new w 50 #[.slice sA ol sc, .int .i64 S.under, .int .i64 S.inn, .bool S.comment, .int .i64 S.start, .bool S.quoted])
  obtain ⟨w0, hw0⟩ : ∃ y : World, y = w.alloc (.cells #[.slice sA ol sc, .int .i64 S.under, .int .i64 S.inn, .bool S.comment, .int .i64 S.start, .bool S.quoted] 50) := ⟨_, rfl⟩
  have HW0 := hide hw0
  rw [← hw0] at HB0 HX0
  unfold maxLen at hSl
  clear hT hr hS hb0 hw0 hol hll hu
  by_cases g1 : 20 < ll
  · have y1 : decide ((20 : Int) < (ll : Int)) = true := by simp; omega
    clear g1 hs hSl
    go_enter Tryd.func9, Tryd.ntmps9
    go_wp2_with (rw [← HW0.out]; (go_at_call 11; (with_reducible refine Calls.mono (HLV.out _ HB0.out) ?_); rintro r w1 ⟨rfl, b1⟩; have HB1 := hide (HB0.out.trans (b1.mono HB0.out.size)); have HX := hide (HX0.out.below b1 HX0.out.lt); have k0 := HX.out.cell 0; have k1 := HX.out.cell 1; have k2 := HX.out.cell 2; have k3 := HX.out.cell 3; have k4 := HX.out.cell 4; have k5 := HX.out.cell 5; clear b1))
    go_ret
    exact ⟨rfl, HB1.out⟩
  have y1 : decide ((20 : Int) < (ll : Int)) = false := by simp; omega
  have y1' : ¬ (20 : Int) < (ll : Int) := by omega
  by_cases g2 : 300 < s.size
  · have y2 : decide ((300 : Int) < (s.size : Int)) = true := by simp; omega
    clear g1 g2 hs hSl
    go_enter Tryd.func9, Tryd.ntmps9
    go_wp2_with (rw [← HW0.out]; (go_at_call 11; (with_reducible refine Calls.mono (HLV.out _ HB0.out) ?_); rintro r w1 ⟨rfl, b1⟩; have HB1 := hide (HB0.out.trans (b1.mono HB0.out.size)); have HX := hide (HX0.out.below b1 HX0.out.lt); have k0 := HX.out.cell 0; have k1 := HX.out.cell 1; have k2 := HX.out.cell 2; have k3 := HX.out.cell 3; have k4 := HX.out.cell 4; have k5 := HX.out.cell 5; clear b1))
    go_ret
    exact ⟨rfl, HB1.out⟩
  have y2 : decide ((300 : Int) < (s.size : Int)) = false := by simp; omega
  have y2' : ¬ (300 : Int) < (s.size : Int) := by omega
  by_cases g3 : n < -40
  · have y3 : decide (n < -40) = true := by simpa using g3
    clear g1 g2 g3 hs hSl
    go_enter Tryd.func9, Tryd.ntmps9
    go_wp2_with (rw [← HW0.out]; (go_at_call 11; (with_reducible refine Calls.mono (HLV.out _ HB0.out) ?_); rintro r w1 ⟨rfl, b1⟩; have HB1 := hide (HB0.out.trans (b1.mono HB0.out.size)); have HX := hide (HX0.out.below b1 HX0.out.lt); have k0 := HX.out.cell 0; have k1 := HX.out.cell 1; have k2 := HX.out.cell 2; have k3 := HX.out.cell 3; have k4 := HX.out.cell 4; have k5 := HX.out.cell 5; clear b1))
    go_ret
    exact ⟨rfl, HB1.out⟩
  have y3 : decide (n < -40) = false := by simpa using g3
  by_cases g4 : 40 < n
  · have y4 : decide (40 < n) = true := by simpa using g4
    clear g1 g2 g3 g4 hs hSl
    go_enter Tryd.func9, Tryd.ntmps9
    go_wp2_with (rw [← HW0.out]; (go_at_call 11; (with_reducible refine Calls.mono (HLV.out _ HB0.out) ?_); rintro r w1 ⟨rfl, b1⟩; have HB1 := hide (HB0.out.trans (b1.mono HB0.out.size)); have HX := hide (HX0.out.below b1 HX0.out.lt); have k0 := HX.out.cell 0; have k1 := HX.out.cell 1; have k2 := HX.out.cell 2; have k3 := HX.out.cell 3; have k4 := HX.out.cell 4; have k5 := HX.out.cell 5; clear b1))
    go_ret
    exact ⟨rfl, HB1.out⟩
  have y4 : decide (40 < n) = false := by simpa using g4
  by_cases g5 : 50 < ol
  · have y5 : decide ((50 : Int) < (ol : Int)) = true := by simp; omega
    clear g1 g2 g3 g4 g5 hs hSl
    go_enter Tryd.func9, Tryd.ntmps9
    go_wp2_with (rw [← HW0.out]; (go_at_call 11; (with_reducible refine Calls.mono (HLV.out _ HB0.out) ?_); rintro r w1 ⟨rfl, b1⟩; have HB1 := hide (HB0.out.trans (b1.mono HB0.out.size)); have HX := hide (HX0.out.below b1 HX0.out.lt); have k0 := HX.out.cell 0; have k1 := HX.out.cell 1; have k2 := HX.out.cell 2; have k3 := HX.out.cell 3; have k4 := HX.out.cell 4; have k5 := HX.out.cell 5; clear b1))
    go_ret
    exact ⟨rfl, HB1.out⟩
  have y5 : decide ((50 : Int) < (ol : Int)) = false := by simp; omega
  have y5' : ¬ (50 : Int) < (ol : Int) := by omega
  have HS300 := hide (show s.size ≤ 300 by omega)
  have HN1 := hide (show -40 ≤ n by omega)
  have HN2 := hide (show n ≤ 40 by omega)
  have HOL50 := hide (show ol ≤ 50 by omega)
  have HL20 := hide (show l.length ≤ 20 by have := HLL.out; omega)
  have HTA := hide (fun (y : World) (hb : Below w.heap.size w y) => (show Calls Tryd.prog 13 #[.bool lisp, .slice A ll cp] y (TabRes y lisp l) from by
    have h9 := table_any y lisp l (.slice A ll cp) (by rw [← HLL.out]; exact HR.out.belowN hb) HL20.out
    exact h9))
  clear g1 g2 g3 g4 g5 hs hSl
  go_enter Tryd.func9, Tryd.ntmps9
  go_wp2_with (rw [← HW0.out]; (go_at_call 11; (with_reducible refine Calls.mono (HLV.out _ HB0.out) ?_); rintro r w1 ⟨rfl, b1⟩; have HB1 := hide (HB0.out.trans (b1.mono HB0.out.size)); have HX := hide (HX0.out.below b1 HX0.out.lt); have k0 := HX.out.cell 0; have k1 := HX.out.cell 1; have k2 := HX.out.cell 2; have k3 := HX.out.cell 3; have k4 := HX.out.cell 4; have k5 := HX.out.cell 5; clear b1))
  refine (Calls.mono (HTA.out _ HB1.out)) ?_
  rintro e w2 ⟨p, r, v, rfl, h2⟩
  have HB2 := hide (HB1.out.trans (h2.bel.mono HB1.out.size))
  obtain ⟨T, hTT⟩ : ∃ T, T = tabOf lisp l := ⟨_, rfl⟩
  have HTB := hide (show TabAt w2 p T by rw [hTT]; exact h2.tab)
  have HRT := hide (show RT w2 r T by rw [hTT]; exact h2.rt HL20.out)
  have HX2 := hide (HX.out.below h2.bel HX.out.lt)
  clear k0 k1 k2 k3 k4 k5 h2 hTT
  have k0 : w2.cell? ⟨w.heap.size, 0, none⟩ = some (.slice sA ol sc) := HX2.out.cell 0
  have k1 : w2.cell? ⟨w.heap.size, 1, none⟩ = some (.int .i64 S.under) := HX2.out.cell 1
  have k2 : w2.cell? ⟨w.heap.size, 2, none⟩ = some (.int .i64 S.inn) := HX2.out.cell 2
  have k3 : w2.cell? ⟨w.heap.size, 3, none⟩ = some (.bool S.comment) := HX2.out.cell 3
  have k4 : w2.cell? ⟨w.heap.size, 4, none⟩ = some (.int .i64 S.start) := HX2.out.cell 4
  have k5 : w2.cell? ⟨w.heap.size, 5, none⟩ = some (.bool S.quoted) := HX2.out.cell 5
  have HBA := hide (below_box w2 (.cells #[.slice sA ol sc, .int .i64 S.under, .int .i64 S.inn, .bool S.comment, .int .i64 S.start, .bool S.quoted] 50))
  have HXA := hide (HX2.out.alloc (.cells #[.slice sA ol sc, .int .i64 S.under, .int .i64 S.inn, .bool S.comment, .int .i64 S.start, .bool S.quoted] 50))
  have HY0 := hide (Blk.new w2 50 #[.slice sA ol sc, .int .i64 S.under, .int .i64 S.inn, .bool S.comment, .int .i64 S.start, .bool S.quoted])
  have m0 := HXA.out.cell 0
  have HOWN := hide (own_int ((HS.out.belowN HB2.out).belowN HBA.out) (by rw [show zints S.opens = zints S.opens from rfl]; exact zints_one _) (by have := HOL50.out; omega))
  go_wp2_with fail
  refine (Calls.mono HOWN.out) ?_
  rintro e w3 ⟨A3, c3, rfl, s3, b3⟩
  have HB3 := hide (HBA.out.trans (b3.mono HBA.out.size))
  have HY3 := hide (HY0.out.below b3 HY0.out.lt)
  have HX3 := hide (HXA.out.below b3 HXA.out.lt)
  have HS3 := hide s3
  have n0f := HY3.out.frozen 0
  have h0 : w3.cell? ⟨w.heap.size, 0, none⟩ = some (.slice sA ol sc) := HX3.out.cell 0
  have h1 : w3.cell? ⟨w.heap.size, 1, none⟩ = some (.int .i64 S.under) := HX3.out.cell 1
  have h2 : w3.cell? ⟨w.heap.size, 2, none⟩ = some (.int .i64 S.inn) := HX3.out.cell 2
  have h3 : w3.cell? ⟨w.heap.size, 3, none⟩ = some (.bool S.comment) := HX3.out.cell 3
  have h4 : w3.cell? ⟨w.heap.size, 4, none⟩ = some (.int .i64 S.start) := HX3.out.cell 4
  have h5 : w3.cell? ⟨w.heap.size, 5, none⟩ = some (.bool S.quoted) := HX3.out.cell 5
  have n0 : w3.cell? ⟨w2.heap.size, 0, none⟩ = some (.slice sA ol sc) := HY3.out.cell 0
  have n1 : w3.cell? ⟨w2.heap.size, 1, none⟩ = some (.int .i64 S.under) := HY3.out.cell 1
  have n2 : w3.cell? ⟨w2.heap.size, 2, none⟩ = some (.int .i64 S.inn) := HY3.out.cell 2
  have n3 : w3.cell? ⟨w2.heap.size, 3, none⟩ = some (.bool S.comment) := HY3.out.cell 3
  have n4 : w3.cell? ⟨w2.heap.size, 4, none⟩ = some (.int .i64 S.start) := HY3.out.cell 4
  have n5 : w3.cell? ⟨w2.heap.size, 5, none⟩ = some (.bool S.quoted) := HY3.out.cell 5
  clear b3 s3 HOWN m0 k0 k1 k2 k3 k4 k5
  obtain ⟨w4, hw4⟩ : ∃ y : World, y = w3.setCell ⟨w2.heap.size, 0, none⟩ (.slice A3 ol c3) := ⟨_, rfl⟩
  have HW4 := hide hw4
  have HB4 := hide (show Below w2.heap.size w2 w4 by rw [hw4]; exact HB3.out.setCell (p := ⟨w2.heap.size, 0, none⟩) (Nat.le_refl _) _)
  have HY4 := hide (show Blk w4 w2.heap.size 50 #[.slice A3 ol c3, .int .i64 S.under, .int .i64 S.inn, .bool S.comment, .int .i64 S.start, .bool S.quoted] by rw [hw4]; exact HY3.out.set_ 0 _)
  have HX4 := hide (HX2.out.below HB4.out HX2.out.lt)
  have HS4 := hide (show Rd w4 (.slice A3 S.opens.length c3) 1 S.opens.length (zints S.opens) by
    rw [hw4, ← HOL.out]
    exact (HS3.out.far (p := ⟨w2.heap.size, 0, none⟩) (HS3.out.ne_blk HY3.out (by decide)) _).rd)
  clear hw4
  have k0 : w4.cell? ⟨w.heap.size, 0, none⟩ = some (.slice sA ol sc) := HX4.out.cell 0
  have k1 : w4.cell? ⟨w.heap.size, 1, none⟩ = some (.int .i64 S.under) := HX4.out.cell 1
  have k2 : w4.cell? ⟨w.heap.size, 2, none⟩ = some (.int .i64 S.inn) := HX4.out.cell 2
  have k3 : w4.cell? ⟨w.heap.size, 3, none⟩ = some (.bool S.comment) := HX4.out.cell 3
  have k4 : w4.cell? ⟨w.heap.size, 4, none⟩ = some (.int .i64 S.start) := HX4.out.cell 4
  have k5 : w4.cell? ⟨w.heap.size, 5, none⟩ = some (.bool S.quoted) := HX4.out.cell 5
  have m0 : w4.cell? ⟨w2.heap.size, 0, none⟩ = some (.slice A3 ol c3) := HY4.out.cell 0
  have m1 : w4.cell? ⟨w2.heap.size, 1, none⟩ = some (.int .i64 S.under) := HY4.out.cell 1
  have m2 : w4.cell? ⟨w2.heap.size, 2, none⟩ = some (.int .i64 S.inn) := HY4.out.cell 2
  have m3 : w4.cell? ⟨w2.heap.size, 3, none⟩ = some (.bool S.comment) := HY4.out.cell 3
  have m4 : w4.cell? ⟨w2.heap.size, 4, none⟩ = some (.int .i64 S.start) := HY4.out.cell 4
  have m5 : w4.cell? ⟨w2.heap.size, 5, none⟩ = some (.bool S.quoted) := HY4.out.cell 5
  obtain ⟨⟨z1, zo, zu, zi, zc, zs, zq⟩, hZ⟩ : ∃ Z, Z = overZ T s fr en S := ⟨_, rfl⟩
  have HOV := hide (over_any (HTB.out.below HB4.out) s (by have := HS300.out; omega) (HT.out.below (HB2.out.trans (HB4.out.mono HB2.out.size))) fr en (.slice A3 S.opens.length c3) S HS4.out (by have := HOL50.out; have := HOL.out; omega) HU.out)
  rw [← hZ] at HOV
  rw [← HOL.out] at HOV
  have HRO := hide (fun (y : World) (hb : Below w2.heap.size w2 y) => rover_any (HRT.out.below hb) s (by have := HS300.out; omega) fr en (.slice sA S.opens.length sc) S (by rw [← HOL.out]; exact (HS.out.belowN HB2.out).belowN hb) (by have := HOL50.out; have := HOL.out; omega) HU.out)
  rw [← hZ] at HRO
  rw [← HOL.out] at HRO
  have HWD := hide (fun (y : World) (hb : Below w2.heap.size w2 y) => words_any (HTB.out.below hb) s (by have := HS300.out; omega) (HT.out.below (HB2.out.trans (hb.mono HB2.out.size))) fr n (by have := HN1.out; omega) (by have := HN2.out; omega))
  have HWR := hide (fun (y : World) (hb : Below w2.heap.size w2 y) => rwords_any (HRT.out.below hb) s (by have := HS300.out; omega) fr n (by have := HN1.out; omega) (by have := HN2.out; omega))
  obtain ⟨⟨q1, q2, q3⟩, hQ⟩ : ∃ Z, Z = wordsR T s fr n := ⟨_, rfl⟩
  rw [← hQ, show wrdV (q1, q2, q3) = .tuple #[.int .i64 (q1 : Int), .bool q2, .int .i64 q3] from rfl] at HWD HWR
  have HSY := hide (fun (y : World) (hb : Below w2.heap.size w2 y) => symbol_any (HTB.out.below hb) s (by have := HS300.out; omega) (HT.out.below (HB2.out.trans (hb.mono HB2.out.size))) fr)
  have HSR := hide (fun (y : World) (hb : Below w2.heap.size w2 y) => rsymbol_any (HRT.out.below hb) s (by have := HS300.out; omega) fr)
  obtain ⟨⟨u1, u2, u3⟩, hV⟩ : ∃ Z, Z = symbR T s fr := ⟨_, rfl⟩
  rw [← hV] at HSY HSR
  rw [show symV (u1, u2, u3) = .tuple #[.int .i64 (u1 : Int), .int .i64 (u2 : Int), .bool u3] from rfl] at HSR
  have HSX := hide (fun (y : World) (hb : Below w2.heap.size w2 y) => sexps_any (HTB.out.below hb) s (by have := HS300.out; omega) (HT.out.below (HB2.out.trans (hb.mono HB2.out.size))) fr n (by have := HN1.out; omega) (by have := HN2.out; omega))
  have HXR := hide (fun (y : World) (hb : Below w2.heap.size w2 y) => rsexps_any (HRT.out.below hb) s (by have := HS300.out; omega) fr n (by have := HN1.out; omega) (by have := HN2.out; omega))
  obtain ⟨⟨x1, x2, x3⟩, hX⟩ : ∃ Z, Z = sexpsR T s fr n := ⟨_, rfl⟩
  rw [← hX, show ansV (x1, x2, x3) = .tuple #[.int .i64 (x1 : Int), .agg #[.int .i64 x2, .int .i64 x3]] from rfl] at HSX HXR
  have HCA := hide (fun (y : World) (hb : Below w2.heap.size w2 y) => class_any (HTB.out.below hb) en)
  have HCB := hide (fun (y : World) (hb : Below w2.heap.size w2 y) => rClass_any (HRT.out.below hb) en)
  have HMA := hide (fun (y : World) (hb : Below w2.heap.size w2 y) => mate_any (HTB.out.below hb) en)
  have HMB := hide (fun (y : World) (hb : Below w2.heap.size w2 y) => rMate_any (HRT.out.below hb) en)
  obtain ⟨tc, htc⟩ : ∃ z, z = T.cl en := ⟨_, rfl⟩
  obtain ⟨tm, htm⟩ : ∃ z, z = T.mate en := ⟨_, rfl⟩
  rw [← htc] at HCA HCB
  rw [← htm] at HMA HMB
  obtain ⟨zl, hzl⟩ : ∃ z, z = zo.length := ⟨_, rfl⟩
  have HZL := hide hzl
  have HZ9 := hide (show zl ≤ 1000000 by
    have h9 := overZ_len (T := T) (s := s) (a := fr) (b := en) (S := S)
    rw [← hZ] at h9
    have h8 : zo.length ≤ max S.opens.length 200 := h9
    have := HOL50.out
    have := HOL.out
    omega)
  have HOV2 := hide (show Calls Tryd.prog 25 #[.pointer (some ⟨p.t, 0, none⟩), .string s, .int .i64 fr, .int .i64 en, .agg #[.slice A3 ol c3, .int .i64 S.under, .int .i64 S.inn, .bool S.comment, .int .i64 S.start, .bool S.quoted]] w4 (fun e w' => ∃ A c, e = .returned (.tuple #[.agg #[.slice A zl c, .int .i64 zu, .int .i64 zi, .bool zc, .int .i64 zs, .bool zq], .int .i64 z1]) ∧ Rd w' (.slice A zl c) 1 zl (zints zo) ∧ Below w4.heap.size w4 w') from by rw [hzl]; exact HOV.out)
  have HRO2 := hide (fun (y : World) (hb : Below w2.heap.size w2 y) => (show Calls Tryd.prog 31 #[.pointer (some ⟨r, 0, none⟩), .string s, .int .i64 fr, .int .i64 en, .agg #[.slice sA ol sc, .int .i64 S.under, .int .i64 S.inn, .bool S.comment, .int .i64 S.start, .bool S.quoted]] y (fun e w' => ∃ A c, e = .returned (.tuple #[.agg #[.slice A zl c, .int .i64 zu, .int .i64 zi, .bool zc, .int .i64 zs, .bool zq], .int .i64 z1]) ∧ Rd w' (.slice A zl c) 1 zl (zints zo) ∧ Below y.heap.size y w') from by rw [hzl]; exact HRO.out y hb))
  clear hZ hQ hV hX htc htm hzl HOV HRO
  go_wp2_with (rw [← HW4.out]; (with_reducible refine Calls.mono HOV2.out ?_))
  clear h0 n0 h1 n1 h2 n2 h3 n3 h4 n4 h5 n5 n0f
  rintro e w5 ⟨A5, c5, rfl, r5, b5⟩
  have HB5 := hide ((HB4.out.trans (b5.mono HB4.out.size)).alloc (HB4.out.trans (b5.mono HB4.out.size)).size (.cells #[.slice A5 zl c5, .int .i64 zu, .int .i64 zi, .bool zc, .int .i64 zs, .bool zq] 50))
  have HR5 := hide (Rd.belowN r5 (below_box w5 (.cells #[.slice A5 zl c5, .int .i64 zu, .int .i64 zi, .bool zc, .int .i64 zs, .bool zq] 50)))
  have HP5 := hide (Blk.new w5 50 #[.slice A5 zl c5, .int .i64 zu, .int .i64 zi, .bool zc, .int .i64 zs, .bool zq])
  have HX5 := hide (HX2.out.below HB5.out HX2.out.lt)
  clear b5 r5 k0 m0 k1 m1 k2 m2 k3 m3 k4 m4 k5 m5
  have k0 : (w5.alloc (.cells #[.slice A5 zl c5, .int .i64 zu, .int .i64 zi, .bool zc, .int .i64 zs, .bool zq] 50)).cell? ⟨w.heap.size, 0, none⟩ = some (.slice sA ol sc) := HX5.out.cell 0
  have k1 : (w5.alloc (.cells #[.slice A5 zl c5, .int .i64 zu, .int .i64 zi, .bool zc, .int .i64 zs, .bool zq] 50)).cell? ⟨w.heap.size, 1, none⟩ = some (.int .i64 S.under) := HX5.out.cell 1
  have k2 : (w5.alloc (.cells #[.slice A5 zl c5, .int .i64 zu, .int .i64 zi, .bool zc, .int .i64 zs, .bool zq] 50)).cell? ⟨w.heap.size, 2, none⟩ = some (.int .i64 S.inn) := HX5.out.cell 2
  have k3 : (w5.alloc (.cells #[.slice A5 zl c5, .int .i64 zu, .int .i64 zi, .bool zc, .int .i64 zs, .bool zq] 50)).cell? ⟨w.heap.size, 3, none⟩ = some (.bool S.comment) := HX5.out.cell 3
  have k4 : (w5.alloc (.cells #[.slice A5 zl c5, .int .i64 zu, .int .i64 zi, .bool zc, .int .i64 zs, .bool zq] 50)).cell? ⟨w.heap.size, 4, none⟩ = some (.int .i64 S.start) := HX5.out.cell 4
  have k5 : (w5.alloc (.cells #[.slice A5 zl c5, .int .i64 zu, .int .i64 zi, .bool zc, .int .i64 zs, .bool zq] 50)).cell? ⟨w.heap.size, 5, none⟩ = some (.bool S.quoted) := HX5.out.cell 5
  go_wp2_with fail
  refine (Calls.mono (HRO2.out _ HB5.out)) ?_
  rintro e w6 ⟨A6, c6, rfl, r6, b6⟩
  have HB6 := hide ((HB5.out.trans (b6.mono HB5.out.size)).alloc (HB5.out.trans (b6.mono HB5.out.size)).size (.cells #[.slice A6 zl c6, .int .i64 zu, .int .i64 zi, .bool zc, .int .i64 zs, .bool zq] 50))
  have hb6 := b6.trans ((below_box w6 (.cells #[.slice A6 zl c6, .int .i64 zu, .int .i64 zi, .bool zc, .int .i64 zs, .bool zq] 50)).mono b6.size)
  have HR6 := hide (Rd.belowN r6 (below_box w6 (.cells #[.slice A6 zl c6, .int .i64 zu, .int .i64 zi, .bool zc, .int .i64 zs, .bool zq] 50)))
  have HQ6 := hide (Blk.new w6 50 #[.slice A6 zl c6, .int .i64 zu, .int .i64 zi, .bool zc, .int .i64 zs, .bool zq])
  have HP6 := hide (HP5.out.below hb6 HP5.out.lt)
  have HR56 := hide (HR5.out.belowN hb6)
  clear b6 r6 hb6 k0 k1 k2 k3 k4 k5
  go_wp2_with fail
  refine (Calls.mono (HWD.out _ HB6.out)) ?_
  rintro e w7 ⟨rfl, b7⟩
  have HB7 := hide b7
  clear b7
  go_wp2_with fail
  refine (Calls.mono (HWR.out _ (HB6.out.trans (HB7.out.mono HB6.out.size)))) ?_
  rintro e w8 ⟨rfl, b8⟩
  have HB8 := hide (HB7.out.trans (b8.mono HB7.out.size))
  clear b8
  go_wp2_with fail
  refine (Calls.mono (HSY.out _ (HB6.out.trans (HB8.out.mono HB6.out.size)))) ?_
  rintro e w9 ⟨rfl, b9⟩
  have HB9 := hide (HB8.out.trans (b9.mono HB8.out.size))
  clear b9
  go_wp2_with fail
  refine (Calls.mono (HSR.out _ (HB6.out.trans (HB9.out.mono HB6.out.size)))) ?_
  rintro e w10 ⟨rfl, b10⟩
  have HB10 := hide (HB9.out.trans (b10.mono HB9.out.size))
  clear b10
  go_wp2_with fail
  refine (Calls.mono (HSX.out _ (HB6.out.trans (HB10.out.mono HB6.out.size)))) ?_
  rintro e w11 ⟨rfl, b11⟩
  have HB11 := hide ((HB10.out.trans (b11.mono HB10.out.size)).alloc (HB10.out.trans (b11.mono HB10.out.size)).size (.cells #[.int .i64 x2, .int .i64 x3] 40))
  have HF11 := hide (Blk.new w11 40 #[.int .i64 x2, .int .i64 x3])
  clear b11
  go_wp2_with fail
  refine (Calls.mono (HXR.out _ (HB6.out.trans (HB11.out.mono HB6.out.size)))) ?_
  rintro e w12 ⟨rfl, b12⟩
  have hb12 := b12.trans ((below_box w12 (.cells #[.int .i64 x2, .int .i64 x3] 40)).mono b12.size)
  have HB12 := hide (HB11.out.trans (hb12.mono HB11.out.size))
  have HF12 := hide (HF11.out.below hb12 HF11.out.lt)
  have HG12 := hide (Blk.new w12 40 #[.int .i64 x2, .int .i64 x3])
  have HP12 := hide (HP6.out.below HB12.out HP6.out.lt)
  have HQ12 := hide (HQ6.out.below HB12.out HQ6.out.lt)
  have k0 : (w12.alloc (.cells #[.int .i64 x2, .int .i64 x3] 40)).cell? ⟨w5.heap.size, 0, none⟩ = some (.slice A5 zl c5) := HP12.out.cell 0
  have k1 : (w12.alloc (.cells #[.int .i64 x2, .int .i64 x3] 40)).cell? ⟨w5.heap.size, 1, none⟩ = some (.int .i64 zu) := HP12.out.cell 1
  have k2 : (w12.alloc (.cells #[.int .i64 x2, .int .i64 x3] 40)).cell? ⟨w5.heap.size, 2, none⟩ = some (.int .i64 zi) := HP12.out.cell 2
  have k3 : (w12.alloc (.cells #[.int .i64 x2, .int .i64 x3] 40)).cell? ⟨w5.heap.size, 3, none⟩ = some (.bool zc) := HP12.out.cell 3
  have k4 : (w12.alloc (.cells #[.int .i64 x2, .int .i64 x3] 40)).cell? ⟨w5.heap.size, 4, none⟩ = some (.int .i64 zs) := HP12.out.cell 4
  have k5 : (w12.alloc (.cells #[.int .i64 x2, .int .i64 x3] 40)).cell? ⟨w5.heap.size, 5, none⟩ = some (.bool zq) := HP12.out.cell 5
  have m0 : (w12.alloc (.cells #[.int .i64 x2, .int .i64 x3] 40)).cell? ⟨w6.heap.size, 0, none⟩ = some (.slice A6 zl c6) := HQ12.out.cell 0
  have m1 : (w12.alloc (.cells #[.int .i64 x2, .int .i64 x3] 40)).cell? ⟨w6.heap.size, 1, none⟩ = some (.int .i64 zu) := HQ12.out.cell 1
  have m2 : (w12.alloc (.cells #[.int .i64 x2, .int .i64 x3] 40)).cell? ⟨w6.heap.size, 2, none⟩ = some (.int .i64 zi) := HQ12.out.cell 2
  have m3 : (w12.alloc (.cells #[.int .i64 x2, .int .i64 x3] 40)).cell? ⟨w6.heap.size, 3, none⟩ = some (.bool zc) := HQ12.out.cell 3
  have m4 : (w12.alloc (.cells #[.int .i64 x2, .int .i64 x3] 40)).cell? ⟨w6.heap.size, 4, none⟩ = some (.int .i64 zs) := HQ12.out.cell 4
  have m5 : (w12.alloc (.cells #[.int .i64 x2, .int .i64 x3] 40)).cell? ⟨w6.heap.size, 5, none⟩ = some (.bool zq) := HQ12.out.cell 5
  have HSS := hide (same_sta (w12.alloc (.cells #[.int .i64 x2, .int .i64 x3] 40)) ⟨zo, zu, zi, zc, zs, zq⟩ A5 A6 c5 c6 (by show Rd _ (.slice A5 zo.length c5) 1 zo.length _; rw [← HZL.out]; exact HR56.out.belowN HB12.out) (by show Rd _ (.slice A6 zo.length c6) 1 zo.length _; rw [← HZL.out]; exact HR6.out.belowN HB12.out) (by have := HZ9.out; have := HZL.out; show zo.length ≤ 1000000; omega))
  have HSS2 := hide (show Calls Tryd.prog 27 #[.agg #[.slice A5 zl c5, .int .i64 zu, .int .i64 zi, .bool zc, .int .i64 zs, .bool zq], .agg #[.slice A6 zl c6, .int .i64 zu, .int .i64 zi, .bool zc, .int .i64 zs, .bool zq]] (w12.alloc (.cells #[.int .i64 x2, .int .i64 x3] 40)) (fun e w' => e = .returned (.bool true) ∧ Below (w12.alloc (.cells #[.int .i64 x2, .int .i64 x3] 40)).heap.size (w12.alloc (.cells #[.int .i64 x2, .int .i64 x3] 40)) w') from by rw [HZL.out]; exact HSS.out)
  clear b12 hb12 HSS
  go_wp2_with fail
  refine (Calls.mono HSS2.out) ?_
  rintro e w13 ⟨rfl, b13⟩
  have HB13 := hide (HB12.out.trans (b13.mono HB12.out.size))
  have HF13 := hide (HF12.out.below b13 HF12.out.lt)
  have HG13 := hide (HG12.out.below b13 HG12.out.lt)
  have j0 := HF13.out.cell 0
  have j1 := HF13.out.cell 1
  have j2 := HG13.out.cell 0
  have j3 := HG13.out.cell 1
  clear b13 k0 m0 k1 m1 k2 m2 k3 m3 k4 m4 k5 m5
  go_wp2_with fail
  refine (Calls.mono (HCA.out _ (HB6.out.trans (HB13.out.mono HB6.out.size)))) ?_
  rintro e w14 ⟨rfl, b14⟩
  have HB14 := hide (HB13.out.trans (b14.mono HB13.out.size))
  clear b14 j0 j1 j2 j3
  go_wp2_with fail
  refine (Calls.mono (HCB.out _ (HB6.out.trans (HB14.out.mono HB6.out.size)))) ?_
  rintro e w15 ⟨rfl, b15⟩
  have HB15 := hide (HB14.out.trans (b15.mono HB14.out.size))
  clear b15
  go_wp2_with fail
  refine (Calls.mono (HMA.out _ (HB6.out.trans (HB15.out.mono HB6.out.size)))) ?_
  rintro e w16 ⟨rfl, b16⟩
  have HB16 := hide (HB15.out.trans (b16.mono HB15.out.size))
  clear b16
  go_wp2_with fail
  refine (Calls.mono (HMB.out _ (HB6.out.trans (HB16.out.mono HB6.out.size)))) ?_
  rintro e w17 ⟨rfl, b17⟩
  have HB17 := hide (HB16.out.trans (b17.mono HB16.out.size))
  clear b17
  go_wp2_with fail
  go_ret
  exact ⟨rfl, HB2.out.trans ((HB6.out.trans (HB17.out.mono HB6.out.size)).mono HB2.out.size)⟩
end Go.Proofs.YtdojcgefiekleaaDoor
