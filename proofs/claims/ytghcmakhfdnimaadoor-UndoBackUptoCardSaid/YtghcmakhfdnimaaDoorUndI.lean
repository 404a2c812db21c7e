/- The walk of Undo. No condition but those written. -/
import Derived.Test.YtghcmakhfdnimaaDoorUndH
namespace Go.Proofs.YtghcmakhfdnimaaDoor
open Go.RowKit

/-- What holds of a log behind the closing of a group. -/
theorem trim_good {lim : Int} : ∀ {G : List (List Chg)} {cost ch : Int}, cost = ((sumG G : Nat) : Int) → -1 ≤ ch → ch ≤ (G.length : Int) →
    (trim lim G cost ch).2.1 = ((sumG (trim lim G cost ch).1 : Nat) : Int) ∧ -1 ≤ (trim lim G cost ch).2.2 ∧ (trim lim G cost ch).2.2 ≤ ((trim lim G cost ch).1.length : Int) ∧ (trim lim G cost ch).1 <:+ G ∧ (trim lim G cost ch).2.1 ≤ cost ∧ ((trim lim G cost ch).2.1 ≤ lim ∨ (trim lim G cost ch).1.length ≤ 1) ∧ (G ≠ [] → (trim lim G cost ch).1 ≠ [])
  | [], cost, ch, h1, h2, h3 => ⟨h1, h2, h3, List.suffix_refl _, Int.le_refl _, .inr (by simp [trim]), fun h => absurd rfl h⟩
  | [g], cost, ch, h1, h2, h3 => ⟨h1, h2, h3, List.suffix_refl _, Int.le_refl _, .inr (by simp [trim]), fun _ => by simp [trim]⟩
  | g :: g2 :: r, cost, ch, h1, h2, h3 => by
    by_cases h : lim < cost
    · have e : cost - (total g : Int) = ((sumG (g2 :: r) : Nat) : Int) := by rw [sumG_cons] at h1; omega
      simp only [List.length_cons] at h3
      obtain ⟨i1, i2, i3, i4, i5, i6, i7⟩ := trim_good (lim := lim) (G := g2 :: r) (cost := cost - (total g : Int)) (ch := if 0 < ch then ch - 1 else ch) e (by split <;> omega) (by simp only [List.length_cons]; split <;> omega)
      rw [trim_step h]
      exact ⟨i1, i2, i3, i4.trans (List.suffix_cons _ _), by omega, i6, fun _ => i7 (by simp)⟩
    · rw [trim_stop (.inl (by omega))]
      exact ⟨h1, h2, h3, List.suffix_refl _, Int.le_refl _, .inl (by show cost ≤ lim; omega), fun _ => by simp⟩
theorem sumG_all (s : Lg) : sumG s.all = sumG s.G + total s.O := by
  unfold Lg.all
  split
  · rename_i h
    rw [h, total_nil, Nat.add_zero]
  · rw [sumG_append, sumG_cons, sumG_nil, Nat.add_zero]
theorem all_len (s : Lg) : s.G.length ≤ s.all.length ∧ s.all.length ≤ s.G.length + 1 := by
  unfold Lg.all
  split
  · omega
  · simp
theorem shut_rest (s : Lg) : s.shut.lim = s.lim ∧ s.shut.cost = s.cost ∧ s.shut.ch = s.ch := by unfold Lg.shut; split <;> exact ⟨rfl, rfl, rfl⟩
theorem shut_now {s : Lg} (h : Good s) : s.shut.now = 0 := by
  unfold Lg.shut
  split
  · rename_i e
    rw [h.now, e]
    rfl
  · rfl
/-- The closing of a group, in short. -/
theorem close_eq {s : Lg} (h : Good s) : s.close = ⟨s.lim, (trim s.lim s.all s.cost s.ch).1, [], (trim s.lim s.all s.cost s.ch).2.2, (trim s.lim s.all s.cost s.ch).2.1, 0⟩ := by
  obtain ⟨e1, e2, e3⟩ := shut_rest s
  have e4 := shut_now h
  have e5 := shut_O s
  have e6 := shut_G s
  unfold Lg.close Lg.trimmed
  rw [e1, e2, e3, e4, e5, e6]
theorem close_facts {s : Lg} (h : Good s) : s.close.cost = ((sumG s.close.G : Nat) : Int) ∧ -1 ≤ s.close.ch ∧ s.close.ch ≤ (s.close.G.length : Int) ∧ s.close.G <:+ s.all ∧ s.close.cost ≤ s.cost ∧ (s.close.cost ≤ s.lim ∨ s.close.G.length ≤ 1) ∧ (s.all ≠ [] → s.close.G ≠ []) := by
  have hc : s.cost = ((sumG s.all : Nat) : Int) := by rw [sumG_all]; exact h.cost
  have hch : s.ch ≤ (s.all.length : Int) := by have := (all_len s).1; have := h.ch2; omega
  have := trim_good (lim := s.lim) hc h.ch1 hch
  rw [close_eq h]
  exact this
theorem close_O {s : Lg} (h : Good s) : s.close.O = [] := by rw [close_eq h]
theorem close_lim {s : Lg} (h : Good s) : s.close.lim = s.lim := by rw [close_eq h]
theorem Good.close {s : Lg} (h : Good s) : Good s.close := by
  obtain ⟨h1, h2, h3, _⟩ := close_facts h
  refine ⟨by rw [close_lim h]; exact h.lim1, by rw [close_lim h]; exact h.lim2, ?_, ?_, h2, h3⟩
  · rw [h1, close_O h, total_nil, Nat.add_zero]
  · rw [close_O h, close_eq h]
    rfl
theorem mem_all {s : Lg} {g : List Chg} (h : g ∈ s.all) : g ∈ s.G ∨ g = s.O := by
  unfold Lg.all at h
  split at h
  · exact .inl h
  · rcases List.mem_append.1 h with h | h
    · exact .inl h
    · exact .inr (by simpa using h)
theorem Small.all_len {s : Lg} (h : Small s) {g : List Chg} (hg : g ∈ s.all) : g.length ≤ 1000000 := by
  rcases mem_all hg with h1 | rfl
  · exact h.len g h1
  · exact h.lenO
theorem Small.all_txt {s : Lg} (h : Small s) {g : List Chg} (hg : g ∈ s.all) : ∀ c ∈ g, c.tx.size ≤ 1099511627776 := by
  rcases mem_all hg with h1 | rfl
  · exact h.txt g h1
  · exact h.txtO
theorem Small.close {s : Lg} (h : Small s) (hg : Good s) (hm : s.all.length ≤ 1000000) : Small s.close := by
  obtain ⟨_, _, _, h4, h5, _⟩ := close_facts hg
  refine ⟨Int.le_trans h5 h.cost, Nat.le_trans h4.length_le hm, fun g hgm => h.all_len (h4.subset hgm), ?_, fun g hgm => h.all_txt (h4.subset hgm), ?_⟩
  · rw [close_O hg]; simp
  · rw [close_O hg]; intro c hc; cases hc

/-- What Undo leaves. -/
def UndoRes (W : World) (b : Lb) (s : Lg) (R : Heap) (again : Bool) (e : Ending) (w' : World) : Prop :=
  ∃ b' v, b'.lb = b.lb ∧ e = .returned (.tuple #[v, .int .i64 (s.undoErr again)]) ∧ LogAt W w' b' (s.undo again) (chgRow v (s.undone again) ++ R) ∧ RowOk v (s.undone again).length
section
variable {W w w' : World} {b : Lb} {s : Lg} {R : Heap}
/-- Undo behind the closing: where the chain begins at c. -/
structure UndoAt (s : Lg) (again : Bool) (c : Int) : Prop where
  eq : s.close.chain0 again = c
  le : c ≤ (s.close.G.length : Int)
  ge : 0 ≤ c
set_option maxRecDepth 100000 in
set_option maxHeartbeats 4000000 in
theorem undo_any (h : LogAt W w b s R) (hg : Good s) (hS : Small s) (hT : Rules W) (hm : s.all.length ≤ 1000000) (again : Bool) : Calls Tryd.prog 18 #[.pointer (some ⟨b.lb, 0, none⟩), .bool again] w (UndoRes W b s R again) := by
  have HN := hide (none_any h hg.lim1)
  have HC := hide (close_any h hg hS hT)
  have HF := hide (close_facts hg)
  have HSC := hide (hS.close hg hm)
  clear h hg hS hT
  go_enter Tryd.func18, Tryd.ntmps18
  go_wp2_with fail
  refine (Calls.mono HN.out) ?_
  rintro e w2 ⟨rfl, rfl⟩
  go_wp2_with fail
  refine (Calls.mono HC.out) ?_
  rintro e w2 ⟨rfl, b2, hb2, h2⟩
  obtain ⟨lb2, gv2, ov2, gs2⟩ := b2
  obtain rfl : lb2 = b.lb := hb2
  have HLEN := hide h2.len
  obtain ⟨A9, d9, hv9, hd9, _⟩ := h2.slG.form
  have c1 : w2.cell? ⟨b.lb, 1, none⟩ = some (.slice A9 gs2.length d9) := h2.c1.trans (congrArg some hv9)
  have c3 : w2.cell? ⟨b.lb, 3, none⟩ = some (.int .i64 s.close.ch) := h2.c3
  have f3 : w2.frozen? ⟨b.lb, 3, none⟩ = false := h2.blk.frozen 3
  have H2 := hide h2
  have HV9 := hide hv9
  have hgl : gs2.length ≤ 1000000 := by have := HSC.out.many; rw [HLEN.out] at this; exact this
  clear h2 hv9 HN HC hd9
  obtain ⟨C, hC⟩ : ∃ C, C = s.close.chain0 again := ⟨_, rfl⟩
  have HCC := hide hC
  have HCB := hide (show 0 ≤ C ∧ C ≤ (s.close.G.length : Int) from by
    rw [hC]
    have h1 := HF.out.2.1
    have h2 := HF.out.2.2.1
    unfold Lg.chain0
    split
    · omega
    · rename_i hh
      simp only [not_or] at hh
      omega)
  clear hC
  obtain ⟨q, hq⟩ : ∃ q, q = decide (again = false ∨ s.close.ch < 0) := ⟨_, rfl⟩
  have HQ := hide hq
  clear hq
  go_upto_region 4 with fail
  go_cut [19] (fun v wx => v = .bool q ∧ wx = w2)
  case first =>
    cases again with
    | false =>
      go_wp2_with fail
      go_meet
      exact ⟨by rw [HQ.out]; simp, rfl⟩
    | true =>
      by_cases hneg : s.close.ch < 0
      · have z1 : decide (s.close.ch < 0) = true := by simpa using hneg
        go_wp2_with fail
        go_meet
        exact ⟨by rw [HQ.out]; simp [hneg], rfl⟩
      · have z1 : decide (s.close.ch < 0) = false := by simpa using hneg
        have HNG := hide hneg
        clear hneg
        go_wp2_with fail
        go_meet
        exact ⟨by rw [HQ.out]; simp [HNG.out], rfl⟩
  case rest =>
    obtain ⟨rfl, rfl⟩ := hcut
    go_upto_if 19 with fail
    go_cut [] (fun wx => LogAt W wx ⟨b.lb, gv2, ov2, gs2⟩ { s.close with ch := C } R)
    case first =>
      cases q with
      | true =>
        have HE := hide (show C = (gs2.length : Int) by rw [HCC.out]; unfold Lg.chain0; rw [if_pos (by simpa using HQ.out.symm), HLEN.out])
        go_wp2_with fail
        go_meet
        rw [HE.out]
        exact H2.out.setCell (i := 3) (u := .int .i64 (gs2.length : Int)) (s' := { s.close with ch := (gs2.length : Int) }) rfl rfl rfl
      | false =>
        have HE := hide (show C = s.close.ch by rw [HCC.out]; unfold Lg.chain0; rw [if_neg (by simpa using HQ.out.symm)])
        go_wp2_with fail
        go_meet
        rw [HE.out]
        exact H2.out
    case rest =>
      have H3 := hide hcut
      clear hcut c1 c3 f3 H2
      have c3 : wc.cell? ⟨b.lb, 3, none⟩ = some (.int .i64 C) := H3.out.c3
      have f3 : wc.frozen? ⟨b.lb, 3, none⟩ = false := H3.out.blk.frozen 3
      by_cases hz : C = 0
      · have HE := hide (show s.undo again = { s.close with ch := C } ∧ s.undone again = [] ∧ s.undoErr again = 13 from ⟨by
          show ({ s.close with ch := if s.close.chain0 again = 0 then 0 else s.close.chain0 again - 1 } : Lg) = _
          rw [← HCC.out, if_pos hz, hz], by
          show (if s.close.chain0 again = 0 then _ else _) = _
          rw [← HCC.out, if_pos hz], by
          show (if s.close.chain0 again = 0 then _ else _) = _
          rw [← HCC.out, if_pos hz]⟩)
        have HZ := hide hz
        subst hz
        go_wp2
        go_ret2
        refine ⟨⟨b.lb, gv2, ov2, gs2⟩, .slice none 0 0, rfl, ?_, ?_, ?_⟩
        · rw [HE.out.2.2]; rfl
        · rw [HE.out.1, HE.out.2.1]; exact H3.out
        · rw [HE.out.2.1]; exact RowOk.nil
      · have z1 : (C == 0) = false := by simpa using hz
        obtain ⟨k, hk⟩ : ∃ k : Nat, C = (k : Int) + 1 := ⟨(C - 1).toNat, by have := HCB.out.1; omega⟩
        subst hk
        have hkl : k < gs2.length := by have := HCB.out.2; rw [HLEN.out] at this; omega
        have H4 := hide (show LogAt W (wc.setCell ⟨b.lb, 3, none⟩ (.int .i64 (k : Int))) ⟨b.lb, gv2, ov2, gs2⟩ { s.close with ch := (k : Int) } R from H3.out.setCell (i := 3) (u := .int .i64 (k : Int)) (s' := { s.close with ch := (k : Int) }) rfl rfl rfl)
        obtain ⟨gb, off, cp, hv, hcp, hcm, hcell, hfz, hgbl⟩ := H4.out.slG.at_ (show 0 < gs2.length by omega)
        obtain rfl : gv2 = .slice (some ⟨gb, off, none⟩) gs2.length cp := hv
        obtain ⟨⟨v0, l0⟩, hx0⟩ : ∃ x, gs2[k]? = some x := ⟨_, List.getElem?_eq_getElem hkl⟩
        have hmem := List.mem_of_getElem? hx0
        have d1 := hcell k v0 (by rw [List.getElem?_map, hx0]; rfl)
        have g1 : (wc.setCell ⟨b.lb, 3, none⟩ (.int .i64 (k : Int))).cell? ⟨b.lb, 1, none⟩ = some (.slice (some ⟨gb, off, none⟩) gs2.length cp) := H4.out.c1
        have g3 : (wc.setCell ⟨b.lb, 3, none⟩ (.int .i64 (k : Int))).cell? ⟨b.lb, 3, none⟩ = some (.int .i64 (k : Int)) := H4.out.c3
        have hrd : Rd (wc.setCell ⟨b.lb, 3, none⟩ (.int .i64 (k : Int))).drew v0 9 l0.length (rows Chg.cells l0) := (H4.out.slg hmem).rd
        have hl0 : l0.length ≤ 1000000 := HSC.out.len l0 (by have := H4.out.gtr hmem; exact this)
        have HE := hide (show s.undo again = { s.close with ch := (k : Int) } ∧ s.undone again = l0.reverse ∧ s.undoErr again = 0 from by
          have e0 : ¬ s.close.chain0 again = 0 := by rw [← HCC.out]; omega
          have eG : s.close.G[k]? = some l0 := by
            rw [show s.close.G = gs2.map (·.2) from H4.out.grp, List.getElem?_map, hx0]
            rfl
          refine ⟨?_, ?_, ?_⟩
          · show ({ s.close with ch := if s.close.chain0 again = 0 then 0 else s.close.chain0 again - 1 } : Lg) = _
            have e2 : s.close.chain0 again - 1 = (k : Int) := by rw [← HCC.out]; omega
            rw [if_neg e0, e2]
          · show (if s.close.chain0 again = 0 then _ else _) = _
            rw [if_neg e0, ← HCC.out, show ((k : Int) + 1 - 1).toNat = k by omega, eG]
            rfl
          · show (if s.close.chain0 again = 0 then _ else _) = _
            rw [if_neg e0])
        have HRD := hide hrd
        clear hrd hx0 hmem hcell hfz hz
        have hw1 : (k : Int) < (gs2.length : Int) := by omega
        have hw0 : (0 : Int) ≤ (k : Int) := by omega
        go_upto_region 9 with fail
        generalize wc.setCell ⟨b.lb, 3, none⟩ (.int .i64 (k : Int)) = w4 at *
        go_cut [6] (fun v6 wx => LogAt W wx ⟨b.lb, .slice (some ⟨gb, off, none⟩) gs2.length cp, ov2, gs2⟩ { s.close with ch := (k : Int) } (chgRow v6 l0 ++ R) ∧ RowOk v6 l0.length)
        case first =>
          go_region_with (go_at_call 48; refine (clone_any v0 l0 _ HRD.out hl0).mono ?_; rintro e w5 ⟨v, rfl, hs5, hf5, hb5⟩; have h5 := H4.out.drew.joinC hb5 hs5 hf5; have HOK := hide hs5.rowOk; have H5 := hide h5; clear h5 hs5 hf5 hb5)
          all_goals (go_wp2_with fail; go_meet; exact ⟨H5.out, HOK.out⟩)
        case rest =>
          obtain ⟨h5, hok⟩ := hcut
          have hs5 := h5.slC hok
          have HRV := hide (reverse_any l0 _ _ hs5 hl0)
          have H5 := hide h5
          have HOK := hide hok
          clear h5 hs5 hok
          go_wp2_with fail
          refine (Calls.mono HRV.out) ?_
          rintro e w6 ⟨rfl, hs6, ho6⟩
          have H6 := hide (H5.out.turnC ho6 hs6 (by simp))
          clear hs6 ho6 HRV H5
          go_wp2
          go_ret2
          refine ⟨⟨b.lb, .slice (some ⟨gb, off, none⟩) gs2.length cp, ov2, gs2⟩, _, rfl, by rw [HE.out.2.2]; rfl, ?_, ?_⟩
          · rw [HE.out.1, HE.out.2.1]
            exact H6.out
          · rw [HE.out.2.1, List.length_reverse]
            exact HOK.out
end
end Go.Proofs.YtghcmakhfdnimaaDoor
