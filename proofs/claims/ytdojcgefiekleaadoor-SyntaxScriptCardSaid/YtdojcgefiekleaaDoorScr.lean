/- Symbol of a table: the walk. No condition but those written. -/
import Derived.Test.YtdojcgefiekleaaDoorSct
import Derived.OwnWalk
namespace Go.Proofs.YtdojcgefiekleaaDoor
open Go.RowKit

/-- What Symbol answers of a text. -/
def symbR (T : Tb) (s : ByteArray) (at_ : Int) : Nat × Nat × Bool := match charsL s.data.toList with
  | none => (0, 0, false)
  | some L => if at_ < 0 ∨ (L.length : Int) < at_ then (0, 0, false) else symb T L at_.toNat
/-- Within Symbol: the box of the table; the characters. -/
structure PSt (w0 w : World) (p : TL) (T : Tb) (v : Value) (L : List Nat) : Prop where
  bel : Below w0.heap.size w0 w
  bt : Blk w w0.heap.size 28 #[.pointer (some ⟨p.t, 0, none⟩)]
  scan : Scan w p T v L
section
variable {w0 w w' : World} {p : TL} {T : Tb} {v : Value} {L : List Nat}
theorem PSt.below (h : PSt w0 w p T v L) (hb : Below w.heap.size w w') : PSt w0 w' p T v L := ⟨h.bel.trans (hb.mono h.bel.size), h.bt.below hb h.bt.lt, h.scan.below hb⟩
theorem part_any {g : Nat} (hg : w.cell? ⟨g, 0, none⟩ = some (.pointer (some ⟨p.t, 0, none⟩))) (ht : TabAt w p T) (c : Int) : Calls Tryd.prog 49 #[.int .i64 c, .pointer (some ⟨g, 0, none⟩)] w fun e w' => e = .returned (.bool (isPart (T.cl c))) ∧ Below w.heap.size w w' := by
  have HC := hide (class_any ht c)
  obtain ⟨k, hk⟩ : ∃ k, T.cl c = k := ⟨_, rfl⟩
  rw [hk] at HC ⊢
  clear ht hk
  by_cases k1 : k = 1
  · subst k1
    go_enter Tryd.func49, Tryd.ntmps49
    go_wp2_with (go_at_call 16; (with_reducible refine Calls.mono HC.out ?_); rintro r w2 ⟨rfl, hb⟩)
    go_ret
    exact ⟨rfl, hb⟩
  · have q1 : (k == 1) = false := by simpa using k1
    by_cases k2 : k = 2
    · subst k2
      clear k1 q1
      go_enter Tryd.func49, Tryd.ntmps49
      go_wp2_with (go_at_call 16; (with_reducible refine Calls.mono HC.out ?_); rintro r w2 ⟨rfl, hb⟩)
      go_ret
      exact ⟨rfl, hb⟩
    · have q2 : (k == 2) = false := by simpa using k2
      have HF := hide (show isPart k = false by unfold isPart; simp [k1, k2])
      clear k1 k2
      go_enter Tryd.func49, Tryd.ntmps49
      go_wp2_with (go_at_call 16; (with_reducible refine Calls.mono HC.out ?_); rintro r w2 ⟨rfl, hb⟩)
      go_ret
      exact ⟨by rw [HF.out]; simp, hb⟩
theorem PSt.part (h : PSt w0 w p T v L) (j : Nat) (c : Int) (hc : c = ((L.getD j 0 : Nat) : Int)) {b : Bool} (hb : isPart (T.at_ L j) = b) : Calls Tryd.prog 49 #[.int .i64 c, .pointer (some ⟨w0.heap.size, 0, none⟩)] w fun e w' => e = .returned (.bool b) ∧ Below w.heap.size w w' := by
  subst hc
  have := part_any (T := T) ((h.bt.cell 0).trans rfl) h.scan.tab ((L.getD j 0 : Nat) : Int)
  rw [show isPart (T.cl ((L.getD j 0 : Nat) : Int)) = b from hb] at this
  exact this
theorem sB_at {j : Nat} (h : 0 < j) (hw : isPart (T.at_ L (j - 1)) = true) : sB T L j = sB T L (j - 1) := by
  obtain ⟨q, rfl⟩ : ∃ q, j = q + 1 := ⟨j - 1, by omega⟩
  exact sB_step hw
theorem sB_here {j : Nat} (h : 0 < j) (hw : isPart (T.at_ L (j - 1)) = false) : sB T L j = j := by
  obtain ⟨q, rfl⟩ : ∃ q, j = q + 1 := ⟨j - 1, by omega⟩
  exact sB_stop hw
set_option maxRecDepth 100000 in
set_option maxHeartbeats 4000000 in
theorem symbol_any (h : TabAt w p T) (s : ByteArray) (hs : s.size ≤ 1000000000000) (hT : Tabs w) (at_ : Int) : Calls Tryd.prog 20 #[.pointer (some ⟨p.t, 0, none⟩), .string s, .int .i64 at_] w fun e w' => e = .returned (.tuple #[.int .i64 ((symbR T s at_).1 : Int), .int .i64 ((symbR T s at_).2.1 : Int), .bool (symbR T s at_).2.2]) ∧ Below w.heap.size w w' := by
  have hb0 : Below w.heap.size w (w.alloc (.cells #[.pointer (some ⟨p.t, 0, none⟩)] 28)) := (Below.refl _ w).alloc (Nat.le_refl _) _
  have hT1 := hT.below hb0
  have h1 := h.below hb0
  have hf0 := Blk.new w 28 #[.pointer (some ⟨p.t, 0, none⟩)]
  have t0 := hf0.cell 0
  obtain ⟨w1, hw1⟩ : ∃ w1, w1 = (w.alloc (.cells #[.pointer (some ⟨p.t, 0, none⟩)] 28)) := ⟨_, rfl⟩
  rw [← hw1] at hb0 hT1 h1 hf0
  have HW := hide hw1
  have HB0 := hide hb0
  have HF0 := hide hf0
  cases hc : charsL s.data.toList with
  | none =>
    have HCH := hide (chars_none h1 s (by omega) hT1 hc)
    have HR := hide (show symbR T s at_ = (0, 0, false) by unfold symbR; rw [hc])
    rw [HR.out]
    clear h h1 hT hT1 hw1 hb0 hf0 hc
    go_enter Tryd.func20, Tryd.ntmps20
    go_wp2_with (go_at_call 43; (try rw [← HW.out]); (with_reducible refine Calls.mono HCH.out ?_); rintro r w2 ⟨rfl, hb2⟩)
    go_ret3
    exact ⟨rfl, HB0.out.trans (hb2.mono HB0.out.size)⟩
  | some L =>
    have hL1 : L.length ≤ s.size := chars_le _ _ hc
    have hl : L.length ≤ 1000000000000 := by omega
    have hl2 : (L.length : Int) ≤ 1000000000000 := by omega
    have HCH := hide (chars_some h1 s (by omega) hT1 hc)
    by_cases hr : at_ < 0 ∨ (L.length : Int) < at_
    · have HR := hide (show symbR T s at_ = (0, 0, false) by unfold symbR; rw [hc]; simp only []; rw [if_pos hr])
      rw [HR.out]
      clear h h1 hT hT1 hw1 hb0 hf0 hc
      by_cases q1 : at_ < 0
      · clear hr
        go_enter Tryd.func20, Tryd.ntmps20
        go_wp2_with (go_at_call 43; (try rw [← HW.out]); (with_reducible refine Calls.mono HCH.out ?_); rintro r w2 ⟨A, c, rfl, hlc, hb2, hsl, -⟩; clear hsl)
        go_ret3
        exact ⟨rfl, HB0.out.trans (hb2.mono HB0.out.size)⟩
      · have q2 : (L.length : Int) < at_ := hr.resolve_left q1
        clear hr
        go_enter Tryd.func20, Tryd.ntmps20
        go_wp2_with (go_at_call 43; (try rw [← HW.out]); (with_reducible refine Calls.mono HCH.out ?_); rintro r w2 ⟨A, c, rfl, hlc, hb2, hsl, -⟩; clear hsl)
        go_ret3
        exact ⟨rfl, HB0.out.trans (hb2.mono HB0.out.size)⟩
    · obtain ⟨i, rfl⟩ : ∃ i : Nat, at_ = (i : Int) := ⟨at_.toNat, by omega⟩
      have hi : i ≤ L.length := by omega
      have HR := hide (show symbR T s (i : Int) = symb T L i by unfold symbR; rw [hc]; simp only []; rw [if_neg hr, Int.toNat_natCast])
      rw [HR.out]
      have q1 : decide ((i : Int) < 0) = false := by simp
      have q2 : decide ((L.length : Int) < (i : Int)) = false := by simp; omega
      have q3 : decide (L.length < i) = false := by simp; omega
      have HT := hide h
      have HI := hide hi
      clear h h1 hT hT1 hw1 hb0 hf0 hc hr hi
      go_enter Tryd.func20, Tryd.ntmps20
      go_wp2_with (go_at_call 43; (try rw [← HW.out]); (with_reducible refine Calls.mono HCH.out ?_); rintro r w2 ⟨A, c, rfl, hlc, hb2, hsl, -⟩; have HP := hide (show PSt w w2 p T (.slice A L.length c) L from ⟨HB0.out.trans (hb2.mono HB0.out.size), HF0.out.below hb2 HF0.out.lt, HT.out.below (HB0.out.trans (hb2.mono HB0.out.size)), hsl.rd, hl⟩); clear hb2 hsl)
      go_loopw [6] (fun fv wr => ∃ j : Nat, fv = .int .i64 (j : Int) ∧ j ≤ L.length ∧ sB T L j = sB T L i ∧ PSt w wr p T (.slice A L.length c) L) (fun fv _ => (intOf fv).toNat)
      case atStart => exact ⟨i, rfl, HI.out, rfl, HP.out⟩
      case round =>
        obtain ⟨j, rfl, hj, he, hp⟩ := hrel
        have HA := hide hp
        have HE := hide he
        clear hp he
        have hj2 : (j : Int) ≤ 1000000000000 := by omega
        by_cases hg : 0 < j ∧ isPart (T.at_ L (j - 1)) = true
        · obtain ⟨hg, hpt⟩ := hg
          obtain ⟨bb, off, c', hv, hcell⟩ := HA.out.scan.at_ (i := j - 1) (by omega)
          injection hv with g1 _ g3
          subst g1 g3
          obtain ⟨ch, hch⟩ : ∃ ch : Int, ch = ((L.getD (j - 1) 0 : Nat) : Int) := ⟨_, rfl⟩
          have d0 := hcell _ (Below.refl _ _) (j - 1) (by omega)
          rw [← hch] at d0
          have HPT := hide (HA.out.part (j - 1) ch hch hpt)
          have r1 : decide ((0 : Int) < (j : Int)) = true := by simp; omega
          have r2 : (0 : Int) ≤ (j : Int) - 1 := by omega
          have r3 : (j : Int) - 1 < (L.length : Int) := by omega
          have HST := hide (sB_at hg hpt)
          clear hcell hch hpt
          go_wp2_with (go_at_call 49; (with_reducible refine Calls.mono HPT.out ?_); rintro r w3 ⟨rfl, hb3⟩; have HA3 := hide (HA.out.below hb3); clear hb3)
          refine ⟨⟨j - 1, by congr 1; omega, by omega, HST.out.symm.trans HE.out, HA3.out⟩, by simp [intOf]; omega⟩
        · have HST := hide (show sB T L j = j from by
            by_cases h0 : 0 < j
            · refine sB_here h0 ?_
              cases hpt : isPart (T.at_ L (j - 1))
              · rfl
              · exact absurd ⟨h0, hpt⟩ hg
            · rw [show j = 0 by omega]
              rfl)
          by_cases h0 : 0 < j
          · have hpt : isPart (T.at_ L (j - 1)) = false := by
              cases hpt : isPart (T.at_ L (j - 1))
              · rfl
              · exact absurd ⟨h0, hpt⟩ hg
            obtain ⟨bb, off, c', hv, hcell⟩ := HA.out.scan.at_ (i := j - 1) (by omega)
            injection hv with g1 _ g3
            subst g1 g3
            obtain ⟨ch, hch⟩ : ∃ ch : Int, ch = ((L.getD (j - 1) 0 : Nat) : Int) := ⟨_, rfl⟩
            have d0 := hcell _ (Below.refl _ _) (j - 1) (by omega)
            rw [← hch] at d0
            have HPT := hide (HA.out.part (j - 1) ch hch hpt)
            have r1 : decide ((0 : Int) < (j : Int)) = true := by simp; omega
            have r2 : (0 : Int) ≤ (j : Int) - 1 := by omega
            have r3 : (j : Int) - 1 < (L.length : Int) := by omega
            clear hcell hch hpt hg
            go_wp2_with (go_at_call 49; (with_reducible refine Calls.mono HPT.out ?_); rintro r w3 ⟨rfl, hb3⟩; have HX := hide (HA.out.below hb3); clear hb3)
            clear r1 r2 r3 d0
            go_loopw [7] (fun tv wr => ∃ k : Nat, tv = .int .i64 (k : Int) ∧ k ≤ L.length ∧ i ≤ k ∧ sF T L k = sF T L i ∧ PSt w wr p T (.slice (some ⟨bb, off, none⟩) L.length c) L) (fun tv _ => L.length - (intOf tv).toNat)
            case atStart => exact ⟨i, rfl, HI.out, Nat.le_refl _, rfl, HX.out⟩
            case round =>
              obtain ⟨k, rfl, hk, hik, hf, hp⟩ := hrel
              have HB := hide hp
              have HF := hide hf
              clear hp hf
              have hk2 : (k : Int) ≤ 1000000000000 := by omega
              by_cases hg2 : k < L.length
              · obtain ⟨bb, off, c', hv, hcell⟩ := HB.out.scan.at_ (i := k) hg2
                injection hv with g1 _ g3
                injection g1 with g1
                injection g1 with g4 g5
                subst g4 g5 g3
                obtain ⟨ch2, hch2⟩ : ∃ ch : Int, ch = ((L.getD k 0 : Nat) : Int) := ⟨_, rfl⟩
                have d0 := hcell _ (Below.refl _ _) k hg2
                rw [← hch2] at d0
                have r1 : decide ((k : Int) < (L.length : Int)) = true := by simp; omega
                have r2 : (k : Int) < (L.length : Int) := by omega
                have r3 : decide (k < L.length) = true := by simpa using hg2
                cases hpt : isPart (T.at_ L k)
                · have HPT := hide (HB.out.part k ch2 hch2 hpt)
                  have HSF := hide (sF_stop hg2 hpt)
                  clear hcell hch2 hpt
                  by_cases e : j = k
                  · have s1 : ((j : Int) == (k : Int)) = true := by simp [e]
                    have HSY := hide (show symb T L i = (0, 0, false) from by unfold symb; rw [← HE.out, HST.out, ← HF.out, HSF.out, if_pos e])
                    go_wp2_with (go_at_call 49; (with_reducible refine Calls.mono HPT.out ?_); rintro r w5 ⟨rfl, hb5⟩; have HB5 := hide (HB.out.below hb5); clear hb5)
                    go_ret3
                    exact ⟨by rw [HSY.out]; rfl, HB5.out.bel⟩
                  · have s1 : ((j : Int) == (k : Int)) = false := by simp; omega
                    have HSY := hide (show symb T L i = (j, k, true) from by unfold symb; rw [← HE.out, HST.out, ← HF.out, HSF.out, if_neg e])
                    clear e
                    go_wp2_with (go_at_call 49; (with_reducible refine Calls.mono HPT.out ?_); rintro r w5 ⟨rfl, hb5⟩; have HB5 := hide (HB.out.below hb5); clear hb5)
                    go_ret3
                    exact ⟨by rw [HSY.out]; rfl, HB5.out.bel⟩
                · have HPT := hide (HB.out.part k ch2 hch2 hpt)
                  have HSF := hide (sF_step hg2 hpt)
                  clear hcell hch2 hpt
                  go_wp2_with (go_at_call 49; (with_reducible refine Calls.mono HPT.out ?_); rintro r w5 ⟨rfl, hb5⟩; have HB5 := hide (HB.out.below hb5); clear hb5)
                  exact ⟨⟨k + 1, by simp, by omega, by omega, HSF.out.symm.trans HF.out, HB5.out⟩, by simp [intOf]; omega⟩
              · have r1 : decide ((k : Int) < (L.length : Int)) = false := by simp; omega
                have r3 : decide (k < L.length) = false := by simpa using hg2
                have HSF := hide (show sF T L k = k from sF_end (by omega))
                by_cases e : j = k
                · have s1 : ((j : Int) == (k : Int)) = true := by simp [e]
                  have HSY := hide (show symb T L i = (0, 0, false) from by unfold symb; rw [← HE.out, HST.out, ← HF.out, HSF.out, if_pos e])
                  go_wp2
                  go_ret3
                  exact ⟨by rw [HSY.out]; rfl, HB.out.bel⟩
                · have s1 : ((j : Int) == (k : Int)) = false := by simp; omega
                  have HSY := hide (show symb T L i = (j, k, true) from by unfold symb; rw [← HE.out, HST.out, ← HF.out, HSF.out, if_neg e])
                  clear e
                  go_wp2
                  go_ret3
                  exact ⟨by rw [HSY.out]; rfl, HB.out.bel⟩
          · have r1 : decide ((0 : Int) < (j : Int)) = false := by simp; omega
            have HX := HA
            clear hg
            go_wp2
            clear r1
            go_loopw [7] (fun tv wr => ∃ k : Nat, tv = .int .i64 (k : Int) ∧ k ≤ L.length ∧ i ≤ k ∧ sF T L k = sF T L i ∧ PSt w wr p T (.slice A L.length c) L) (fun tv _ => L.length - (intOf tv).toNat)
            case atStart => exact ⟨i, rfl, HI.out, Nat.le_refl _, rfl, HX.out⟩
            case round =>
              obtain ⟨k, rfl, hk, hik, hf, hp⟩ := hrel
              have HB := hide hp
              have HF := hide hf
              clear hp hf
              have hk2 : (k : Int) ≤ 1000000000000 := by omega
              by_cases hg2 : k < L.length
              · obtain ⟨bb, off, c', hv, hcell⟩ := HB.out.scan.at_ (i := k) hg2
                injection hv with g1 _ g3
                subst g1 g3
                obtain ⟨ch2, hch2⟩ : ∃ ch : Int, ch = ((L.getD k 0 : Nat) : Int) := ⟨_, rfl⟩
                have d0 := hcell _ (Below.refl _ _) k hg2
                rw [← hch2] at d0
                have r1 : decide ((k : Int) < (L.length : Int)) = true := by simp; omega
                have r2 : (k : Int) < (L.length : Int) := by omega
                have r3 : decide (k < L.length) = true := by simpa using hg2
                cases hpt : isPart (T.at_ L k)
                · have HPT := hide (HB.out.part k ch2 hch2 hpt)
                  have HSF := hide (sF_stop hg2 hpt)
                  clear hcell hch2 hpt
                  by_cases e : j = k
                  · have s1 : ((j : Int) == (k : Int)) = true := by simp [e]
                    have HSY := hide (show symb T L i = (0, 0, false) from by unfold symb; rw [← HE.out, HST.out, ← HF.out, HSF.out, if_pos e])
                    go_wp2_with (go_at_call 49; (with_reducible refine Calls.mono HPT.out ?_); rintro r w5 ⟨rfl, hb5⟩; have HB5 := hide (HB.out.below hb5); clear hb5)
                    go_ret3
                    exact ⟨by rw [HSY.out]; rfl, HB5.out.bel⟩
                  · have s1 : ((j : Int) == (k : Int)) = false := by simp; omega
                    have HSY := hide (show symb T L i = (j, k, true) from by unfold symb; rw [← HE.out, HST.out, ← HF.out, HSF.out, if_neg e])
                    clear e
                    go_wp2_with (go_at_call 49; (with_reducible refine Calls.mono HPT.out ?_); rintro r w5 ⟨rfl, hb5⟩; have HB5 := hide (HB.out.below hb5); clear hb5)
                    go_ret3
                    exact ⟨by rw [HSY.out]; rfl, HB5.out.bel⟩
                · have HPT := hide (HB.out.part k ch2 hch2 hpt)
                  have HSF := hide (sF_step hg2 hpt)
                  clear hcell hch2 hpt
                  go_wp2_with (go_at_call 49; (with_reducible refine Calls.mono HPT.out ?_); rintro r w5 ⟨rfl, hb5⟩; have HB5 := hide (HB.out.below hb5); clear hb5)
                  exact ⟨⟨k + 1, by simp, by omega, by omega, HSF.out.symm.trans HF.out, HB5.out⟩, by simp [intOf]; omega⟩
              · have r1 : decide ((k : Int) < (L.length : Int)) = false := by simp; omega
                have r3 : decide (k < L.length) = false := by simpa using hg2
                have HSF := hide (show sF T L k = k from sF_end (by omega))
                by_cases e : j = k
                · have s1 : ((j : Int) == (k : Int)) = true := by simp [e]
                  have HSY := hide (show symb T L i = (0, 0, false) from by unfold symb; rw [← HE.out, HST.out, ← HF.out, HSF.out, if_pos e])
                  go_wp2
                  go_ret3
                  exact ⟨by rw [HSY.out]; rfl, HB.out.bel⟩
                · have s1 : ((j : Int) == (k : Int)) = false := by simp; omega
                  have HSY := hide (show symb T L i = (j, k, true) from by unfold symb; rw [← HE.out, HST.out, ← HF.out, HSF.out, if_neg e])
                  clear e
                  go_wp2
                  go_ret3
                  exact ⟨by rw [HSY.out]; rfl, HB.out.bel⟩
end
end Go.Proofs.YtdojcgefiekleaaDoor
