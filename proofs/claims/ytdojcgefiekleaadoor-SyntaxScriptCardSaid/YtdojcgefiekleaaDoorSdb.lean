/- Over of a table: the walk. No condition but those written. -/
import Derived.Test.YtdojcgefiekleaaDoorSda
import Derived.Deep.RegionHeld3
namespace Go.Proofs.YtdojcgefiekleaaDoor
open Go.RowKit

/-- What Over answers of a text: a fault, or a state. -/
def overR (T : Tb) (s : ByteArray) (a b : Int) (S : Sta) : Int × Option Sta := match charsL s.data.toList with
  | none => (5, none)
  | some L => if a < 0 ∨ b < a ∨ (L.length : Int) < b then (3, none) else match overN T L (b - a).toNat a.toNat S with
    | none => (12, none)
    | some S' => (0, some S')
def OverRes (r : Int × Option Sta) (w : World) (e : Ending) (w' : World) : Prop := Below w.heap.size w w' ∧ match r.2 with
  | none => e = .returned (.tuple #[.agg stZ, .int .i64 r.1])
  | some S => ∃ sv, e = .returned (.tuple #[.agg (staC sv S), .int .i64 0]) ∧ Sl w' 3 1 sv S.opens.length (zints S.opens) ∧ ∀ g, sv.ownBlock = some g → w.heap.size ≤ g
theorem overN_go {T : Tb} {L : List Nat} {n j : Nat} {S S' : Sta} (hs : S.step T (L.getD j 0) j = S') (h : ¬ 200 < S'.opens.length) : overN T L (n + 1) j S = overN T L n (j + 1) S' := by
  simp only [overN, hs]
  rw [if_neg h]
theorem overN_stop {T : Tb} {L : List Nat} {n j : Nat} {S S' : Sta} (hs : S.step T (L.getD j 0) j = S') (h : 200 < S'.opens.length) : overN T L (n + 1) j S = none := by
  simp only [overN, hs]
  rw [if_pos h]
theorem Blk.zero {W : World} {g : Nat} (h : Blk W g 50 stZ) : W.cell? ⟨g, 0, none⟩ = some (.slice none 0 0) ∧ W.cell? ⟨g, 1, none⟩ = some (.int .i64 0) ∧ W.cell? ⟨g, 2, none⟩ = some (.int .i64 0) ∧ W.cell? ⟨g, 3, none⟩ = some (.bool false) ∧ W.cell? ⟨g, 4, none⟩ = some (.int .i64 0) ∧ W.cell? ⟨g, 5, none⟩ = some (.bool false) ∧ W.frozen? ⟨g, 0, none⟩ = false ∧ W.frozen? ⟨g, 1, none⟩ = false ∧ W.frozen? ⟨g, 2, none⟩ = false ∧ W.frozen? ⟨g, 3, none⟩ = false ∧ W.frozen? ⟨g, 4, none⟩ = false ∧ W.frozen? ⟨g, 5, none⟩ = false :=
  ⟨h.cell 0, h.cell 1, h.cell 2, h.cell 3, h.cell 4, h.cell 5, h.frozen 0, h.frozen 1, h.frozen 2, h.frozen 3, h.frozen 4, h.frozen 5⟩
/-- The answer's block, when a whole state is stored into it. -/
theorem Blk.row6 {W : World} {g : Nat} (h : Blk W g 50 stZ) (a b c d e f : Value) : Blk ((((((W.setCell ⟨g, 0, none⟩ a).setCell ⟨g, 1, none⟩ b).setCell ⟨g, 2, none⟩ c).setCell ⟨g, 3, none⟩ d).setCell ⟨g, 4, none⟩ e).setCell ⟨g, 5, none⟩ f) g 50 #[a, b, c, d, e, f] := (((((h.set_ 0 a).set_ 1 b).set_ 2 c).set_ 3 d).set_ 4 e).set_ 5 f
theorem below6 {w W : World} {g : Nat} (h : Below w.heap.size w W) (hg : w.heap.size ≤ g) (a b c d e f : Value) : Below w.heap.size w ((((((W.setCell ⟨g, 0, none⟩ a).setCell ⟨g, 1, none⟩ b).setCell ⟨g, 2, none⟩ c).setCell ⟨g, 3, none⟩ d).setCell ⟨g, 4, none⟩ e).setCell ⟨g, 5, none⟩ f) := by
  have h1 := h.setCell (p := ⟨g, 0, none⟩) hg a
  have h2 := h1.setCell (p := ⟨g, 1, none⟩) hg b
  have h3 := h2.setCell (p := ⟨g, 2, none⟩) hg c
  have h4 := h3.setCell (p := ⟨g, 3, none⟩) hg d
  have h5 := h4.setCell (p := ⟨g, 4, none⟩) hg e
  exact h5.setCell (p := ⟨g, 5, none⟩) hg f
section
variable {w : World} {p : TL} {T : Tb}
set_option maxRecDepth 100000 in
set_option maxHeartbeats 4000000 in
theorem over_bad (h : TabAt w p T) (s : ByteArray) (hs : s.size ≤ 1000000000000) (hT : Tabs w) (a b : Int) (ov : Value) (S : Sta) (hov : ∃ A n c, ov = .slice A n c) (hbad : (overR T s a b S).1 = 5 ∨ (overR T s a b S).1 = 3) : Calls Tryd.prog 25 #[.pointer (some ⟨p.t, 0, none⟩), .string s, .int .i64 a, .int .i64 b, .agg #[ov, .int .i64 S.under, .int .i64 S.inn, .bool S.comment, .int .i64 S.start, .bool S.quoted]] w (OverRes (overR T s a b S) w) := by
  obtain ⟨oA, oN, oC, rfl⟩ := hov
  have hb0 : Below w.heap.size w ((w.alloc (.cells (staC (.slice oA oN oC) S) 50)).alloc (.cells stZ 50)) := ((Below.refl _ w).alloc (Nat.le_refl _) _).alloc (by simp) _
  have hT1 := hT.below hb0
  have h1 := h.below hb0
  have hf0 := (Blk.new w 50 (staC (.slice oA oN oC) S)).alloc (.cells stZ 50)
  have hf1 : Blk ((w.alloc (.cells (staC (.slice oA oN oC) S) 50)).alloc (.cells stZ 50)) (w.heap.size + 1) 50 stZ := by
    have := Blk.new (w.alloc (.cells (staC (.slice oA oN oC) S) 50)) 50 stZ
    rwa [World.size_alloc] at this
  have hsz : ((w.alloc (.cells (staC (.slice oA oN oC) S) 50)).alloc (.cells stZ 50)).heap.size = w.heap.size + 2 := by simp
  obtain ⟨w1, hw1⟩ : ∃ w1, w1 = ((w.alloc (.cells (staC (.slice oA oN oC) S) 50)).alloc (.cells stZ 50)) := ⟨_, rfl⟩
  rw [← hw1] at hb0 hT1 h1 hf0 hf1 hsz
  have HW := hide hw1
  unfold staC stZ at HW
  have HB0 := hide hb0
  have HF0 := hide hf0
  have HF1 := hide hf1
  have HSZ := hide hsz
  cases hc : charsL s.data.toList with
  | none =>
    have HCH := hide (chars_none h1 s (by omega) hT1 hc)
    have HR := hide (show overR T s a b S = (5, none) by unfold overR; rw [hc])
    rw [HR.out]
    have HK := hide (fun (w2 : World) (hb2 : Below w1.heap.size w1 w2) => And.intro (HF1.out.below hb2 HF1.out.lt) (HB0.out.trans (hb2.mono HB0.out.size)))
    clear h h1 hT hT1 hw1 hb0 hf0 hf1 hsz hc hbad
    go_enter Tryd.func25, Tryd.ntmps25
    go_wp2_with (go_at_call 43; (try rw [← HW.out]); (with_reducible refine Calls.mono HCH.out ?_); rintro r w2 ⟨rfl, hb2⟩; have hk := ((HK.out w2 hb2).1.alloc (.cells #[.slice none 0 0] 24)); obtain ⟨c0, c1, c2, c3, c4, c5, f0, f1, f2, f3, f4, f5⟩ := hk.zero; have HH := hide hk; have HB2 := hide (HK.out w2 hb2).2; clear hk hb2)
    refine bodyPost_ret (results_cell_tmp2 rfl _ _ (w.heap.size + 1) 50 _ (0, 0) _ rfl (HH.out.row6 _ _ _ _ _ _) Tryd.underlying50 rfl (by kernel_rfl)) rfl ?_
    exact ⟨below6 (HB2.out.alloc HB2.out.size _) (by omega) _ _ _ _ _ _, rfl⟩
  | some L =>
    have hL1 : L.length ≤ s.size := chars_le _ _ hc
    have hl2 : (L.length : Int) ≤ 1000000000000 := by omega
    have HCH := hide (chars_some h1 s (by omega) hT1 hc)
    have hr : a < 0 ∨ b < a ∨ (L.length : Int) < b := by
      by_cases hr : a < 0 ∨ b < a ∨ (L.length : Int) < b
      · exact hr
      · unfold overR at hbad
        rw [hc] at hbad
        simp only [] at hbad
        rw [if_neg hr] at hbad
        cases h : overN T L (b - a).toNat a.toNat S <;> rw [h] at hbad <;> simp at hbad
    have HR := hide (show overR T s a b S = (3, none) by unfold overR; rw [hc]; simp only []; rw [if_pos hr])
    rw [HR.out]
    have HK := hide (fun (w2 : World) (hb2 : Below w1.heap.size w1 w2) => And.intro (HF1.out.below hb2 HF1.out.lt) (HB0.out.trans (hb2.mono HB0.out.size)))
    clear h h1 hT hT1 hw1 hb0 hf0 hf1 hsz hc hbad
    by_cases q1 : a < 0
    · clear hr
      go_enter Tryd.func25, Tryd.ntmps25
      go_wp2_with (go_at_call 43; (try rw [← HW.out]); (with_reducible refine Calls.mono HCH.out ?_); rintro r w2 ⟨A, c, rfl, hlc, hb2, hsl, -⟩; have hk := ((HK.out w2 hb2).1.alloc (.cells #[.slice A L.length c] 24)); obtain ⟨c0, c1, c2, c3, c4, c5, f0, f1, f2, f3, f4, f5⟩ := hk.zero; have t2 := (Blk.new w2 24 #[.slice A L.length c]).cell 0; have HH := hide hk; have HB2 := hide (HK.out w2 hb2).2; clear hk hb2 hsl)
      refine bodyPost_ret (results_cell_tmp2 rfl _ _ (w.heap.size + 1) 50 _ (0, 0) _ rfl (HH.out.row6 _ _ _ _ _ _) Tryd.underlying50 rfl (by kernel_rfl)) rfl ?_
      exact ⟨below6 (HB2.out.alloc HB2.out.size _) (by omega) _ _ _ _ _ _, rfl⟩
    · by_cases q2 : b < a
      · clear hr
        go_enter Tryd.func25, Tryd.ntmps25
        go_wp2_with (go_at_call 43; (try rw [← HW.out]); (with_reducible refine Calls.mono HCH.out ?_); rintro r w2 ⟨A, c, rfl, hlc, hb2, hsl, -⟩; have hk := ((HK.out w2 hb2).1.alloc (.cells #[.slice A L.length c] 24)); obtain ⟨c0, c1, c2, c3, c4, c5, f0, f1, f2, f3, f4, f5⟩ := hk.zero; have t2 := (Blk.new w2 24 #[.slice A L.length c]).cell 0; have HH := hide hk; have HB2 := hide (HK.out w2 hb2).2; clear hk hb2 hsl)
        refine bodyPost_ret (results_cell_tmp2 rfl _ _ (w.heap.size + 1) 50 _ (0, 0) _ rfl (HH.out.row6 _ _ _ _ _ _) Tryd.underlying50 rfl (by kernel_rfl)) rfl ?_
        exact ⟨below6 (HB2.out.alloc HB2.out.size _) (by omega) _ _ _ _ _ _, rfl⟩
      · have q3 : (L.length : Int) < b := (hr.resolve_left q1).resolve_left q2
        clear hr
        go_enter Tryd.func25, Tryd.ntmps25
        go_wp2_with (go_at_call 43; (try rw [← HW.out]); (with_reducible refine Calls.mono HCH.out ?_); rintro r w2 ⟨A, c, rfl, hlc, hb2, hsl, -⟩; have hk := ((HK.out w2 hb2).1.alloc (.cells #[.slice A L.length c] 24)); obtain ⟨c0, c1, c2, c3, c4, c5, f0, f1, f2, f3, f4, f5⟩ := hk.zero; have t2 := (Blk.new w2 24 #[.slice A L.length c]).cell 0; have HH := hide hk; have HB2 := hide (HK.out w2 hb2).2; clear hk hb2 hsl)
        refine bodyPost_ret (results_cell_tmp2 rfl _ _ (w.heap.size + 1) 50 _ (0, 0) _ rfl (HH.out.row6 _ _ _ _ _ _) Tryd.underlying50 rfl (by kernel_rfl)) rfl ?_
        exact ⟨below6 (HB2.out.alloc HB2.out.size _) (by omega) _ _ _ _ _ _, rfl⟩
end
end Go.Proofs.YtdojcgefiekleaaDoor
