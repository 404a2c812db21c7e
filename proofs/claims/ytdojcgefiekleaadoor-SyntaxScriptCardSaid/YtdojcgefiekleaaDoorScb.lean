/- The scanner's methods: where it lies; its class. No condition but those written. -/
import Derived.Test.YtdojcgefiekleaaDoorSyk
import Derived.Test.YtdojcgefiekleaaDoorSyx
import Derived.Test.YtdojcgefiekleaaDoorRun
import Derived.RegionTactic
import Derived.StillTailTactics
namespace Go.Proofs.YtdojcgefiekleaaDoor
open Go.RowKit

def scanV (p : TL) (v : Value) : Value := .agg #[.pointer (some ⟨p.t, 0, none⟩), v]
/-- A table, and a text's characters, in memory. -/
structure Scan (w : World) (p : TL) (T : Tb) (v : Value) (L : List Nat) : Prop where
  tab : TabAt w p T
  row : Rd w v 1 L.length (ints L)
  len : L.length ≤ 1000000000000
section
variable {w w' : World} {p : TL} {T : Tb} {v : Value} {L : List Nat} {i : Nat}
theorem Rd.belowN {k n : Nat} {xs : List Value} (h : Rd w v k n xs) (hb : Below w.heap.size w w') : Rd w' v k n xs := h.only (F := fun _ => False) (Only.of_below hb) fun _ _ f => f
theorem Scan.below (h : Scan w p T v L) (hb : Below w.heap.size w w') : Scan w' p T v L := ⟨h.tab.below hb, h.row.belowN hb, h.len⟩
theorem Scan.form (h : Scan w p T v L) : ∃ A c, v = .slice A L.length c := by
  obtain ⟨A, c, rfl, _⟩ := h.row
  exact ⟨A, c, rfl⟩
theorem Scan.at_ (h : Scan w p T v L) (hi : i < L.length) : ∃ b off c, v = .slice (some ⟨b, off, none⟩) L.length c ∧ ∀ w', Below w.heap.size w w' → ∀ j, j < L.length → w'.cell? ⟨b, off + j, none⟩ = some (.int .i64 ((L.getD j 0 : Nat) : Int)) := by
  obtain ⟨A, c, rfl, hl, hc⟩ := h.row
  obtain ⟨b, off, rfl, _⟩ := hc (by omega)
  refine ⟨b, off, c, rfl, fun w' hb j hj => ?_⟩
  obtain ⟨A, c, e, hl, hc⟩ := h.row.belowN hb
  obtain ⟨b', off', e2, hx⟩ := hc (by omega)
  injection e with e3
  rw [e2] at e3
  injection e3 with e3
  injection e3 with e4 e5
  subst e4 e5
  refine hx j _ ?_
  simp [ints, List.getD, List.getElem?_eq_getElem hj]
set_option maxRecDepth 100000 in
set_option maxHeartbeats 4000000 in
theorem sclass_any (h : Scan w p T v L) (hi : i < L.length) : Calls Tryd.prog 73 #[scanV p v, .int .i64 (i : Int)] w fun e w' => e = .returned (.int .i64 (T.at_ L i)) ∧ Below w.heap.size w w' := by
  obtain ⟨b, off, c, rfl, hc⟩ := h.at_ hi
  have hb0 : Below w.heap.size w (w.alloc (.cells #[.pointer (some ⟨p.t, 0, none⟩), .slice (some ⟨b, off, none⟩) L.length c] 69)) := (Below.refl _ w).alloc (Nat.le_refl _) _
  have HC := hide (fun W hW => class_any (h.tab.below (w' := W) hW) ((L.getD i 0 : Nat) : Int))
  have hcell := hc _ hb0 i hi
  have y1 : decide ((i : Int) < (L.length : Int)) = true := by simp; omega
  have y2 : decide (i < L.length) = true := by simpa using hi
  have HB := hide hb0
  unfold Tb.at_
  obtain ⟨ch, hch⟩ : ∃ ch : Int, ch = ((L.getD i 0 : Nat) : Int) := ⟨_, rfl⟩
  rw [← hch] at hcell HC ⊢
  clear hch
  have k0 : (w.alloc (.cells #[.pointer (some ⟨p.t, 0, none⟩), .slice (some ⟨b, off, none⟩) L.length c] 69)).cell? ⟨w.heap.size, 0, none⟩ = some (.pointer (some ⟨p.t, 0, none⟩)) := (Blk.new w _ _).cell 0
  have k1 : (w.alloc (.cells #[.pointer (some ⟨p.t, 0, none⟩), .slice (some ⟨b, off, none⟩) L.length c] 69)).cell? ⟨w.heap.size, 1, none⟩ = some (.slice (some ⟨b, off, none⟩) L.length c) := (Blk.new w _ _).cell 1
  clear h hc hb0
  unfold scanV
  go_enter Tryd.func73, Tryd.ntmps73
  obtain ⟨W1, hW1⟩ : ∃ W1, W1 = (w.alloc (.cells #[.pointer (some ⟨p.t, 0, none⟩), .slice (some ⟨b, off, none⟩) L.length c] 69)) := ⟨_, rfl⟩
  rw [← hW1] at hcell k0 k1 HB
  have HE := hide hW1
  clear hW1
  go_wp2
  rw [← HE.out]
  refine wp_region_still_tail 7 (by kernel_rfl) (by kernel_rfl) ?_
  simp only [List.take_succ_cons, List.take_zero, List.drop_succ_cons, List.drop_zero]
  change wpStill _ _ W1.drew _ _ _
  still_step
  still_step
  still_step
  still_step
  still_step
  still_step
  still_step
  refine wpStill_nil ?_
  change wpList _ _ _ _ _ W1.drew
  go_wp2_with (go_at_call 16; refine (Calls.mono (HC.out _ HB.out.drew)) ?_; rintro e w2 ⟨rfl, hb⟩)
  go_ret
  exact ⟨rfl, HB.out.drew.trans (hb.mono HB.out.size)⟩
/-- The scanner's own box, while the world grows. -/
structure InBox (w0 w : World) (p : TL) (v : Value) : Prop where
  bel : Below (w0.heap.size + 1) (w0.alloc (.cells #[.pointer (some ⟨p.t, 0, none⟩), v] 69)) w
theorem InBox.start (w : World) : InBox w (w.alloc (.cells #[.pointer (some ⟨p.t, 0, none⟩), v] 69)) p v := ⟨by
  have := Below.refl (w.alloc (.cells #[.pointer (some ⟨p.t, 0, none⟩), v] 69)).heap.size (w.alloc (.cells #[.pointer (some ⟨p.t, 0, none⟩), v] 69))
  rwa [World.size_alloc] at this⟩
theorem InBox.size {w0 : World} (h : InBox w0 w p v) : w0.heap.size + 1 ≤ w.heap.size := by
  have := h.bel.size
  rwa [World.size_alloc] at this
theorem InBox.below {w0 : World} (h : InBox w0 w p v) (hb : Below w.heap.size w w') : InBox w0 w' p v := ⟨h.bel.trans (hb.mono h.size)⟩
theorem InBox.out {w0 : World} (h : InBox w0 w p v) : Below w0.heap.size w0 w := ((Below.refl _ w0).alloc (Nat.le_refl _) _).trans (h.bel.mono (Nat.le_succ _))
theorem InBox.blk {w0 : World} (h : InBox w0 w p v) : Blk w w0.heap.size 69 #[.pointer (some ⟨p.t, 0, none⟩), v] := (Blk.new w0 _ _).below h.bel (Nat.lt_succ_self _)
theorem InBox.c0 {w0 : World} (h : InBox w0 w p v) : w.cell? ⟨w0.heap.size, 0, none⟩ = some (.pointer (some ⟨p.t, 0, none⟩)) := (h.blk.cell 0).trans rfl
theorem InBox.c1 {w0 : World} (h : InBox w0 w p v) : w.cell? ⟨w0.heap.size, 1, none⟩ = some v := (h.blk.cell 1).trans rfl
set_option maxRecDepth 100000 in
set_option maxHeartbeats 4000000 in
theorem comment_any (h : Scan w p T v L) (hi : i < L.length) : Calls Tryd.prog 76 #[scanV p v, .int .i64 (i : Int)] w fun e w' => e = .returned (.int .i64 (cmtA T L i : Int)) ∧ Below w.heap.size w w' := by
  obtain ⟨A, c, rfl⟩ := h.form
  have HL := hide h.len
  have hn : (L.length : Int) ≤ 1000000000000 := by have := h.len; omega
  have hi2 : (i : Int) < (L.length : Int) := by omega
  have HS := hide (fun W (hW : InBox w W p (.slice A L.length c)) (j : Nat) (hj : j < L.length) => sclass_any (h.below hW.out) hj)
  have HI := hide hi
  unfold scanV at *
  clear h hi
  have HB := hide (InBox.start (p := p) (v := .slice A L.length c) w)
  go_enter Tryd.func76, Tryd.ntmps76
  go_wp2
  go_loopw [1] (fun t wr => ∃ j : Nat, t = .int .i64 (j : Int) ∧ j ≤ L.length ∧ cmtF T L j = cmtA T L i ∧ InBox w wr p (.slice A L.length c)) (fun t _ => L.length - (intOf t).toNat)
  case atStart => exact ⟨i + 1, by simp, by have := HI.out; omega, rfl, HB.out⟩
  case round =>
    obtain ⟨j, rfl, hj, he, hb⟩ := hrel
    have HJ := hide hb
    have HE := hide he
    have k0 := hb.c0
    have k1 := hb.c1
    clear hb he
    by_cases hl : j < L.length
    · have y1 : decide ((j : Int) < (L.length : Int)) = true := by simp; omega
      cases hw : (T.at_ L j == 9)
      · go_wp2_with (go_at_call 73; refine (Calls.mono (HS.out _ HJ.out j hl)) ?_; rintro e w2 ⟨rfl, hb2⟩; have HK := hide (HJ.out.below hb2); have k2 := HK.out.c0; have k3 := HK.out.c1; clear hb2)
        exact ⟨⟨j + 1, by simp, by omega, by rw [← HE.out]; exact (cmtF_step hl (by simpa using hw)).symm, HK.out⟩, by simp [intOf]; omega⟩
      · go_wp2_with (go_at_call 73; refine (Calls.mono (HS.out _ HJ.out j hl)) ?_; rintro e w2 ⟨rfl, hb2⟩; have HK := hide (HJ.out.below hb2); have k2 := HK.out.c0; have k3 := HK.out.c1; clear hb2)
        go_ret
        refine ⟨ret_int ?_, HK.out.out⟩
        rw [← HE.out, cmtF_stop hl (by simpa using hw)]
        omega
    · have y1 : decide ((j : Int) < (L.length : Int)) = false := by simp; omega
      go_wp2
      go_ret
      refine ⟨ret_int ?_, HJ.out.out⟩
      rw [← HE.out, cmtF_end (by omega)]
      omega
set_option maxRecDepth 100000 in
set_option maxHeartbeats 4000000 in
theorem prefixed_any (h : Scan w p T v L) (hi : i ≤ L.length) : Calls Tryd.prog 77 #[scanV p v, .int .i64 (i : Int)] w fun e w' => e = .returned (.int .i64 (preA T L i : Int)) ∧ Below w.heap.size w w' := by
  obtain ⟨A, c, rfl⟩ := h.form
  have HL := hide h.len
  have hn : (L.length : Int) ≤ 1000000000000 := by have := h.len; omega
  have hi2 : (i : Int) ≤ (L.length : Int) := by omega
  have HS := hide (fun W (hW : InBox w W p (.slice A L.length c)) (j : Nat) (hj : j < L.length) => sclass_any (h.below hW.out) hj)
  have HI := hide hi
  unfold scanV at *
  clear h hi
  have HB := hide (InBox.start (p := p) (v := .slice A L.length c) w)
  go_enter Tryd.func77, Tryd.ntmps77
  go_wp2
  go_loopw [1] (fun t wr => ∃ j : Nat, t = .int .i64 (j : Int) ∧ j ≤ L.length ∧ preA T L j = preA T L i ∧ InBox w wr p (.slice A L.length c)) (fun t _ => (intOf t).toNat)
  case atStart => exact ⟨i, rfl, HI.out, rfl, HB.out⟩
  case round =>
    obtain ⟨j, rfl, hj, he, hb⟩ := hrel
    have HJ := hide hb
    have HE := hide he
    have k0 := hb.c0
    have k1 := hb.c1
    clear hb he
    by_cases h0 : 0 < j
    · have y1 : decide ((0 : Int) < (j : Int)) = true := by simp; omega
      have hj1 : (j : Int) ≤ 1000000000000 := by omega
      cases hw : (T.at_ L (j - 1) == 10)
      · go_wp2_with (go_at_call 73; rw [show ((j : Int) - 1) = ((j - 1 : Nat) : Int) from by omega]; refine (Calls.mono (HS.out _ HJ.out (j - 1) (by omega))) ?_; rintro e w2 ⟨rfl, hb2⟩; have HK := hide (HJ.out.below hb2); have k2 := HK.out.c0; have k3 := HK.out.c1; clear hb2)
        go_ret
        refine ⟨ret_int ?_, HK.out.out⟩
        rw [← HE.out]
        obtain ⟨m, rfl⟩ : ∃ m, j = m + 1 := ⟨j - 1, by omega⟩
        rw [preA_stop (by simpa using hw)]
      · go_wp2_with (go_at_call 73; rw [show ((j : Int) - 1) = ((j - 1 : Nat) : Int) from by omega]; refine (Calls.mono (HS.out _ HJ.out (j - 1) (by omega))) ?_; rintro e w2 ⟨rfl, hb2⟩; have HK := hide (HJ.out.below hb2); have k2 := HK.out.c0; have k3 := HK.out.c1; clear hb2)
        refine ⟨⟨j - 1, by congr 1; omega, by omega, ?_, HK.out⟩, by simp [intOf]; omega⟩
        rw [← HE.out]
        obtain ⟨m, rfl⟩ : ∃ m, j = m + 1 := ⟨j - 1, by omega⟩
        rw [preA_step (by simpa using hw)]
        rfl
    · have y1 : decide ((0 : Int) < (j : Int)) = false := by simp; omega
      go_wp2
      go_ret
      refine ⟨ret_int ?_, HJ.out.out⟩
      rw [← HE.out]
      obtain rfl : j = 0 := by omega
      rfl
set_option maxRecDepth 100000 in
set_option maxHeartbeats 4000000 in
theorem gap_any (h : Scan w p T v L) (hi : i ≤ L.length) : Calls Tryd.prog 72 #[scanV p v, .int .i64 (i : Int)] w fun e w' => e = .returned (.int .i64 (gapA T L i : Int)) ∧ Below w.heap.size w w' := by
  obtain ⟨A, c, rfl⟩ := h.form
  have HL := hide h.len
  have hn : (L.length : Int) ≤ 1000000000000 := by have := h.len; omega
  have hi2 : (i : Int) ≤ (L.length : Int) := by omega
  have HS := hide (fun W (hW : InBox w W p (.slice A L.length c)) (j : Nat) (hj : j < L.length) => sclass_any (h.below hW.out) hj)
  have HC := hide (fun W (hW : InBox w W p (.slice A L.length c)) (j : Nat) (hj : j < L.length) => comment_any (h.below hW.out) hj)
  have HI := hide hi
  unfold scanV at *
  clear h hi
  have HB := hide (InBox.start (p := p) (v := .slice A L.length c) w)
  go_enter Tryd.func72, Tryd.ntmps72
  go_wp2
  go_loopw [1] (fun t wr => ∃ j : Nat, t = .int .i64 (j : Int) ∧ j ≤ L.length ∧ gapA T L j = gapA T L i ∧ InBox w wr p (.slice A L.length c)) (fun t _ => L.length - (intOf t).toNat)
  case atStart => exact ⟨i, rfl, HI.out, rfl, HB.out⟩
  case round =>
    obtain ⟨j, rfl, hj, he, hb⟩ := hrel
    have HJ := hide hb
    have HE := hide he
    have k0 := hb.c0
    have k1 := hb.c1
    clear hb he
    by_cases hl : j < L.length
    · have y1 : decide ((j : Int) < (L.length : Int)) = true := by simp; omega
      cases h8 : (T.at_ L j == 8)
      · by_cases hg : T.at_ L j = 3 ∨ T.at_ L j = 9 ∨ T.at_ L j = 0 ∨ T.at_ L j = 10
        · have he2 := hide ((gapA_step hl hg).symm.trans HE.out)
          rcases hg with e | e | e | e
          all_goals rw [e] at h8
          all_goals have HSj := HS.out
          all_goals go_wp2_with (go_at_call 73; refine (Calls.mono (HSj _ HJ.out j hl)) ?_; rw [e]; rintro e w2 ⟨rfl, hb2⟩; have HK := hide (HJ.out.below hb2); have k2 := HK.out.c0; have k3 := HK.out.c1; clear hb2)
          all_goals exact ⟨⟨j + 1, by simp, by omega, he2.out, HK.out⟩, by simp [intOf]; omega⟩
        · have g3 : (T.at_ L j == 3) = false := by simp; omega
          have g9 : (T.at_ L j == 9) = false := by simp; omega
          have g0 : (T.at_ L j == 0) = false := by simp; omega
          have g10 : (T.at_ L j == 10) = false := by simp; omega
          go_wp2_with (go_at_call 73; refine (Calls.mono (HS.out _ HJ.out j hl)) ?_; rintro e w2 ⟨rfl, hb2⟩; have HK := hide (HJ.out.below hb2); have k2 := HK.out.c0; have k3 := HK.out.c1; clear hb2)
          go_ret
          refine ⟨ret_int ?_, HK.out.out⟩
          rw [← HE.out, gapA_stop hl (by simpa using h8) hg]
      · have hc := cmtF_le (T := T) (L := L) (i := j + 1) (by omega)
        have HQ := hide hc
        clear hc
        go_wp2_with (first | (go_at_call 73; refine (Calls.mono (HS.out _ HJ.out j hl)) ?_; rintro e w2 ⟨rfl, hb2⟩; have HK := hide (HJ.out.below hb2); have k2 := HK.out.c0; have k3 := HK.out.c1; clear hb2) | (go_at_call 76; refine (Calls.mono (HC.out _ HK.out j hl)) ?_; rintro e w3 ⟨rfl, hb3⟩; have HM := hide (HK.out.below hb3); clear hb3))
        have hc := HQ.out
        rw [← cmtA_eq] at hc
        exact ⟨⟨cmtA T L j, rfl, by omega, by rw [← HE.out]; exact (gapA_cmt hl (by simpa using h8)).symm, HM.out⟩, by simp [intOf]; omega⟩
    · have y1 : decide ((j : Int) < (L.length : Int)) = false := by simp; omega
      go_wp2
      go_ret
      refine ⟨ret_int ?_, HJ.out.out⟩
      rw [← HE.out, gapA_end (by omega)]
end
end Go.Proofs.YtdojcgefiekleaaDoor
namespace Go.Proofs.YtdojcgefiekleaaDoor
open Go.RowKit

section
variable {w w' : World} {p : TL} {T : Tb} {v : Value} {L : List Nat} {i : Nat}
set_option maxRecDepth 100000 in
set_option maxHeartbeats 4000000 in
theorem name_any (h : Scan w p T v L) (hi : i ≤ L.length) : Calls Tryd.prog 75 #[scanV p v, .int .i64 (i : Int)] w fun e w' => e = .returned (.int .i64 (nameA T L i : Int)) ∧ Below w.heap.size w w' := by
  obtain ⟨A, c, rfl⟩ := h.form
  have HL := hide h.len
  have hn : (L.length : Int) ≤ 1000000000000 := by have := h.len; omega
  have hi2 : (i : Int) ≤ (L.length : Int) := by omega
  have HS := hide (fun W (hW : InBox w W p (.slice A L.length c)) (j : Nat) (hj : j < L.length) => sclass_any (h.below hW.out) hj)
  have HI := hide hi
  unfold scanV at *
  clear h hi
  have HB := hide (InBox.start (p := p) (v := .slice A L.length c) w)
  go_enter Tryd.func75, Tryd.ntmps75
  go_wp2
  go_loopw [1] (fun t wr => ∃ j : Nat, t = .int .i64 (j : Int) ∧ j ≤ L.length + 1 ∧ min (nameA T L j) L.length = nameA T L i ∧ InBox w wr p (.slice A L.length c)) (fun t _ => L.length + 2 - (intOf t).toNat)
  case atStart => exact ⟨i, rfl, by have := HI.out; omega, by have := nameA_le (T := T) HI.out; omega, HB.out⟩
  case round =>
    obtain ⟨j, rfl, hj, he, hb⟩ := hrel
    have HJ := hide hb
    have HE := hide he
    have k0 := hb.c0
    have k1 := hb.c1
    clear hb he
    by_cases hl : j < L.length
    · have y1 : decide ((j : Int) < (L.length : Int)) = true := by simp; omega
      have hj1 : (j : Int) ≤ 1000000000000 := by omega
      by_cases e : T.at_ L j = 7
      · have he2 := hide (show min (nameA T L (j + 2)) L.length = nameA T L i from by
          rw [← HE.out]
          by_cases h2 : j + 1 < L.length
          · rw [nameA_esc h2 e]
          · rw [nameA_last (by omega) e, nameA_end (by omega)]
            omega)
        have HSj := HS.out
        go_wp2_with (go_at_call 73; refine (Calls.mono (HSj _ HJ.out j hl)) ?_; rw [e]; rintro e w2 ⟨rfl, hb2⟩; have HK := hide (HJ.out.below hb2); have k2 := HK.out.c0; have k3 := HK.out.c1; clear hb2)
        exact ⟨⟨j + 2, by simp, by omega, he2.out, HK.out⟩, by simp [intOf]; omega⟩
      · by_cases hp : T.at_ L j = 1 ∨ T.at_ L j = 2 ∨ T.at_ L j = 10
        · have he2 := hide (show min (nameA T L (j + 1)) L.length = nameA T L i from by rw [← HE.out, nameA_step hl hp])
          have HSj := HS.out
          rcases hp with e | e | e
          all_goals go_wp2_with (go_at_call 73; refine (Calls.mono (HSj _ HJ.out j hl)) ?_; rw [e]; rintro e w2 ⟨rfl, hb2⟩; have HK := hide (HJ.out.below hb2); have k2 := HK.out.c0; have k3 := HK.out.c1; clear hb2)
          all_goals exact ⟨⟨j + 1, by simp, by omega, he2.out, HK.out⟩, by simp [intOf]; omega⟩
        · have he2 := hide (show j = nameA T L i from by rw [← HE.out, nameA_stop hl e hp]; omega)
          have g7 : (T.at_ L j == 7) = false := by simpa using e
          have g1 : (T.at_ L j == 1) = false := by simp; omega
          have g2 : (T.at_ L j == 2) = false := by simp; omega
          have g10 : (T.at_ L j == 10) = false := by simp; omega
          go_wp2_with (go_at_call 73; refine (Calls.mono (HS.out _ HJ.out j hl)) ?_; rintro e w2 ⟨rfl, hb2⟩; have HK := hide (HJ.out.below hb2); have k2 := HK.out.c0; have k3 := HK.out.c1; clear hb2)
          go_ret
          exact ⟨ret_int (by rw [← he2.out]), HK.out.out⟩
    · have y1 : decide ((j : Int) < (L.length : Int)) = false := by simp; omega
      have he2 := hide (show L.length = nameA T L i from by rw [← HE.out, nameA_end (by omega)]; omega)
      go_wp2
      go_ret
      exact ⟨ret_int (by rw [← he2.out]), HJ.out.out⟩
/-- What quoted answers. -/
def quoR (o : Option Nat) : Value := match o with | some e => .tuple #[.int .i64 (e : Int), .bool true] | none => .tuple #[.int .i64 0, .bool false]
set_option maxRecDepth 100000 in
set_option maxHeartbeats 4000000 in
theorem quoted_any (h : Scan w p T v L) (hi : i < L.length) : Calls Tryd.prog 74 #[scanV p v, .int .i64 (i : Int)] w fun e w' => e = .returned (quoR (quoA T L i)) ∧ Below w.heap.size w w' := by
  obtain ⟨b, off, c, rfl, hc⟩ := h.at_ hi
  have HC := hide (fun W (hW : InBox w W p (.slice (some ⟨b, off, none⟩) L.length c)) => hc W hW.out)
  clear hc
  obtain ⟨ci, hci⟩ : ∃ ci : Int, ci = ((L.getD i 0 : Nat) : Int) := ⟨_, rfl⟩
  have HCI := hide hci
  have HL := hide h.len
  have hn : (L.length : Int) ≤ 1000000000000 := by have := h.len; omega
  have hi2 : (i : Int) < (L.length : Int) := by omega
  have HS := hide (fun W (hW : InBox w W p (.slice (some ⟨b, off, none⟩) L.length c)) (j : Nat) (hj : j < L.length) => sclass_any (h.below hW.out) hj)
  have HI := hide hi
  unfold scanV at *
  clear h hi
  have HB := hide (InBox.start (p := p) (v := .slice (some ⟨b, off, none⟩) L.length c) w)
  have HB0 := HB.out
  have d0 := HC.out _ HB0 i HI.out
  have d1 := HB0.c1
  have y0 : decide (i < L.length) = true := by simpa using HI.out
  rw [← hci] at d0
  clear hci HB0
  go_enter Tryd.func74, Tryd.ntmps74
  go_wp2
  go_loopw [1] (fun t wr => ∃ j : Nat, t = .int .i64 (j : Int) ∧ j ≤ L.length + 1 ∧ quoF T L (L.getD i 0) j = quoA T L i ∧ InBox w wr p (.slice (some ⟨b, off, none⟩) L.length c)) (fun t _ => L.length + 2 - (intOf t).toNat)
  case atStart => exact ⟨i + 1, by simp, by have := HI.out; omega, rfl, HB.out⟩
  case round =>
    obtain ⟨j, rfl, hj, he, hb⟩ := hrel
    have HJ := hide hb
    have HE := hide he
    have k0 := hb.c0
    have k1 := hb.c1
    clear hb he
    by_cases hl : j < L.length
    · have y1 : decide ((j : Int) < (L.length : Int)) = true := by simp; omega
      have hj1 : (j : Int) ≤ 1000000000000 := by omega
      cases e : (T.at_ L j == 7)
      · obtain ⟨cj, hcj⟩ : ∃ cj : Int, cj = ((L.getD j 0 : Nat) : Int) := ⟨_, rfl⟩
        have HCJ := hide (show ∀ W, InBox w W p (.slice (some ⟨b, off, none⟩) L.length c) → W.cell? ⟨b, off + j, none⟩ = some (.int .i64 cj) from fun W hW => by rw [hcj]; exact HC.out W hW j hl)
        have HJJ := hide hcj
        clear hcj
        cases hq : (cj == ci)
        · have he2 := hide (show quoF T L (L.getD i 0) (j + 1) = quoA T L i from by
            rw [← HE.out]
            refine (quoF_step hl (by simpa using e) fun h => ?_).symm
            have h1 : ¬ cj = ci := by simpa using hq
            exact h1 (by rw [HJJ.out, HCI.out, h]))
          go_wp2_with (go_at_call 73; refine (Calls.mono (HS.out _ HJ.out j hl)) ?_; rintro e w2 ⟨rfl, hb2⟩; have HK := hide (HJ.out.below hb2); have k2 := HK.out.c0; have k3 := HK.out.c1; have k4 := HCJ.out _ HK.out; clear hb2)
          exact ⟨⟨j + 1, by simp, by omega, he2.out, HK.out⟩, by simp [intOf]; omega⟩
        · have he2 := hide (show quoA T L i = some (j + 1) from by
            rw [← HE.out]
            refine quoF_hit hl (by simpa using e) ?_
            have h1 : cj = ci := by simpa using hq
            rw [HJJ.out, HCI.out] at h1
            exact Int.ofNat.inj h1)
          go_wp2_with (go_at_call 73; refine (Calls.mono (HS.out _ HJ.out j hl)) ?_; rintro e w2 ⟨rfl, hb2⟩; have HK := hide (HJ.out.below hb2); have k2 := HK.out.c0; have k3 := HK.out.c1; have k4 := HCJ.out _ HK.out; clear hb2)
          go_ret2
          refine ⟨?_, HK.out.out⟩
          rw [he2.out]
          simp [quoR]
      · have he2 := hide (show quoF T L (L.getD i 0) (j + 2) = quoA T L i from by rw [← HE.out, quoF_esc hl (by simpa using e)])
        go_wp2_with (go_at_call 73; refine (Calls.mono (HS.out _ HJ.out j hl)) ?_; rintro e w2 ⟨rfl, hb2⟩; have HK := hide (HJ.out.below hb2); have k2 := HK.out.c0; have k3 := HK.out.c1; clear hb2)
        exact ⟨⟨j + 2, by simp; omega, by omega, he2.out, HK.out⟩, by simp [intOf]; omega⟩
    · have y1 : decide ((j : Int) < (L.length : Int)) = false := by simp; omega
      have he2 := hide (show quoA T L i = none from by rw [← HE.out, quoF_end (by omega)])
      go_wp2
      go_ret2
      refine ⟨?_, HJ.out.out⟩
      rw [he2.out]
      rfl
end
end Go.Proofs.YtdojcgefiekleaaDoor
