/- The scanner's methods: names and strings. No condition but those written. -/
import Derived.Test.YtdojcgefiekleaaDoorSca
namespace Go.Proofs.YtdojcgefiekleaaDoor
open Go.RowKit

section
variable {w w' : World} {p : TL} {T : Tb} {v : Value} {L : List Nat} {i : Nat}
set_option maxRecDepth 100000 in
set_option maxHeartbeats 4000000 in
theorem name_any (h : Scan w p T v L) (hi : i ≤ L.length) : Calls Tryd.prog 75 #[scanV p v, .int .i64 (i : Int)] w fun e w' => e = .returned (.int .i64 (nameA T L i : Int)) ∧ Below w.heap.size w w' := by
  obtain ⟨A, c, rfl⟩ := h.form
  have HL := hide h.len
  have hn : (L.length : Int) ≤ 1000000000000 := by have := h.len; omega
  have hi2 : (i : Int) ≤ (L.length : Int) := by omega
  have HS := hide (fun W (hW : InBox w W p (.slice A L.length c)) (j : Nat) (hj : j < L.length) => sclass_any (h.below hW.out) hj)
  have HI := hide hi
  unfold scanV at *
  clear h hi
  have HB := hide (InBox.start (p := p) (v := .slice A L.length c) w)
  go_enter Tryd.func75, Tryd.ntmps75
  go_wp2
  go_loopw [1] (fun t wr => ∃ j : Nat, t = .int .i64 (j : Int) ∧ j ≤ L.length + 1 ∧ min (nameA T L j) L.length = nameA T L i ∧ InBox w wr p (.slice A L.length c)) (fun t _ => L.length + 2 - (intOf t).toNat)
  case atStart => exact ⟨i, rfl, by have := HI.out; omega, by have := nameA_le (T := T) HI.out; omega, HB.out⟩
  case round =>
    obtain ⟨j, rfl, hj, he, hb⟩ := hrel
    have HJ := hide hb
    have HE := hide he
    have k0 := hb.c0
    have k1 := hb.c1
    clear hb he
    by_cases hl : j < L.length
    · have y1 : decide ((j : Int) < (L.length : Int)) = true := by simp; omega
      have hj1 : (j : Int) ≤ 1000000000000 := by omega
      by_cases e : T.at_ L j = 7
      · have he2 := hide (show min (nameA T L (j + 2)) L.length = nameA T L i from by
          rw [← HE.out]
          by_cases h2 : j + 1 < L.length
          · rw [nameA_esc h2 e]
          · rw [nameA_last (by omega) e, nameA_end (by omega)]
            omega)
        have HSj := HS.out
        go_wp2_with (go_at_call 73; refine (Calls.mono (HSj _ HJ.out j hl)) ?_; rw [e]; rintro e w2 ⟨rfl, hb2⟩; have HK := hide (HJ.out.below hb2); have k2 := HK.out.c0; have k3 := HK.out.c1; clear hb2)
        exact ⟨⟨j + 2, by simp, by omega, he2.out, HK.out⟩, by simp [intOf]; omega⟩
      · by_cases hp : T.at_ L j = 1 ∨ T.at_ L j = 2 ∨ T.at_ L j = 10
        · have he2 := hide (show min (nameA T L (j + 1)) L.length = nameA T L i from by rw [← HE.out, nameA_step hl hp])
          have HSj := HS.out
          rcases hp with e | e | e
          all_goals go_wp2_with (go_at_call 73; refine (Calls.mono (HSj _ HJ.out j hl)) ?_; rw [e]; rintro e w2 ⟨rfl, hb2⟩; have HK := hide (HJ.out.below hb2); have k2 := HK.out.c0; have k3 := HK.out.c1; clear hb2)
          all_goals exact ⟨⟨j + 1, by simp, by omega, he2.out, HK.out⟩, by simp [intOf]; omega⟩
        · have he2 := hide (show j = nameA T L i from by rw [← HE.out, nameA_stop hl e hp]; omega)
          have g7 : (T.at_ L j == 7) = false := by simpa using e
          have g1 : (T.at_ L j == 1) = false := by simp; omega
          have g2 : (T.at_ L j == 2) = false := by simp; omega
          have g10 : (T.at_ L j == 10) = false := by simp; omega
          go_wp2_with (go_at_call 73; refine (Calls.mono (HS.out _ HJ.out j hl)) ?_; rintro e w2 ⟨rfl, hb2⟩; have HK := hide (HJ.out.below hb2); have k2 := HK.out.c0; have k3 := HK.out.c1; clear hb2)
          go_ret
          exact ⟨ret_int (by rw [← he2.out]), HK.out.out⟩
    · have y1 : decide ((j : Int) < (L.length : Int)) = false := by simp; omega
      have he2 := hide (show L.length = nameA T L i from by rw [← HE.out, nameA_end (by omega)]; omega)
      go_wp2
      go_ret
      exact ⟨ret_int (by rw [← he2.out]), HJ.out.out⟩
/-- What quoted answers. -/
def quoR (o : Option Nat) : Value := match o with | some e => .tuple #[.int .i64 (e : Int), .bool true] | none => .tuple #[.int .i64 0, .bool false]
set_option maxRecDepth 100000 in
set_option maxHeartbeats 4000000 in
theorem quoted_any (h : Scan w p T v L) (hi : i < L.length) : Calls Tryd.prog 74 #[scanV p v, .int .i64 (i : Int)] w fun e w' => e = .returned (quoR (quoA T L i)) ∧ Below w.heap.size w w' := by
  obtain ⟨b, off, c, rfl, hc⟩ := h.at_ hi
  have HC := hide (fun W (hW : InBox w W p (.slice (some ⟨b, off, none⟩) L.length c)) => hc W hW.out)
  clear hc
  obtain ⟨ci, hci⟩ : ∃ ci : Int, ci = ((L.getD i 0 : Nat) : Int) := ⟨_, rfl⟩
  have HCI := hide hci
  have HL := hide h.len
  have hn : (L.length : Int) ≤ 1000000000000 := by have := h.len; omega
  have hi2 : (i : Int) < (L.length : Int) := by omega
  have HS := hide (fun W (hW : InBox w W p (.slice (some ⟨b, off, none⟩) L.length c)) (j : Nat) (hj : j < L.length) => sclass_any (h.below hW.out) hj)
  have HI := hide hi
  unfold scanV at *
  clear h hi
  have HB := hide (InBox.start (p := p) (v := .slice (some ⟨b, off, none⟩) L.length c) w)
  have HB0 := HB.out
  have d0 := HC.out _ HB0 i HI.out
  have d1 := HB0.c1
  have y0 : decide (i < L.length) = true := by simpa using HI.out
  rw [← hci] at d0
  clear hci HB0
  go_enter Tryd.func74, Tryd.ntmps74
  go_wp2
  go_loopw [1] (fun t wr => ∃ j : Nat, t = .int .i64 (j : Int) ∧ j ≤ L.length + 1 ∧ quoF T L (L.getD i 0) j = quoA T L i ∧ InBox w wr p (.slice (some ⟨b, off, none⟩) L.length c)) (fun t _ => L.length + 2 - (intOf t).toNat)
  case atStart => exact ⟨i + 1, by simp, by have := HI.out; omega, rfl, HB.out⟩
  case round =>
    obtain ⟨j, rfl, hj, he, hb⟩ := hrel
    have HJ := hide hb
    have HE := hide he
    have k0 := hb.c0
    have k1 := hb.c1
    clear hb he
    by_cases hl : j < L.length
    · have y1 : decide ((j : Int) < (L.length : Int)) = true := by simp; omega
      have hj1 : (j : Int) ≤ 1000000000000 := by omega
      cases e : (T.at_ L j == 7)
      · obtain ⟨cj, hcj⟩ : ∃ cj : Int, cj = ((L.getD j 0 : Nat) : Int) := ⟨_, rfl⟩
        have HCJ := hide (show ∀ W, InBox w W p (.slice (some ⟨b, off, none⟩) L.length c) → W.cell? ⟨b, off + j, none⟩ = some (.int .i64 cj) from fun W hW => by rw [hcj]; exact HC.out W hW j hl)
        have HJJ := hide hcj
        clear hcj
        cases hq : (cj == ci)
        · have he2 := hide (show quoF T L (L.getD i 0) (j + 1) = quoA T L i from by
            rw [← HE.out]
            refine (quoF_step hl (by simpa using e) fun h => ?_).symm
            have h1 : ¬ cj = ci := by simpa using hq
            exact h1 (by rw [HJJ.out, HCI.out, h]))
          go_wp2_with (go_at_call 73; refine (Calls.mono (HS.out _ HJ.out j hl)) ?_; rintro e w2 ⟨rfl, hb2⟩; have HK := hide (HJ.out.below hb2); have k2 := HK.out.c0; have k3 := HK.out.c1; have k4 := HCJ.out _ HK.out; clear hb2)
          exact ⟨⟨j + 1, by simp, by omega, he2.out, HK.out⟩, by simp [intOf]; omega⟩
        · have he2 := hide (show quoA T L i = some (j + 1) from by
            rw [← HE.out]
            refine quoF_hit hl (by simpa using e) ?_
            have h1 : cj = ci := by simpa using hq
            rw [HJJ.out, HCI.out] at h1
            exact Int.ofNat.inj h1)
          go_wp2_with (go_at_call 73; refine (Calls.mono (HS.out _ HJ.out j hl)) ?_; rintro e w2 ⟨rfl, hb2⟩; have HK := hide (HJ.out.below hb2); have k2 := HK.out.c0; have k3 := HK.out.c1; have k4 := HCJ.out _ HK.out; clear hb2)
          go_ret2
          refine ⟨?_, HK.out.out⟩
          rw [he2.out]
          simp [quoR]
      · have he2 := hide (show quoF T L (L.getD i 0) (j + 2) = quoA T L i from by rw [← HE.out, quoF_esc hl (by simpa using e)])
        go_wp2_with (go_at_call 73; refine (Calls.mono (HS.out _ HJ.out j hl)) ?_; rintro e w2 ⟨rfl, hb2⟩; have HK := hide (HJ.out.below hb2); have k2 := HK.out.c0; have k3 := HK.out.c1; clear hb2)
        exact ⟨⟨j + 2, by simp; omega, by omega, he2.out, HK.out⟩, by simp [intOf]; omega⟩
    · have y1 : decide ((j : Int) < (L.length : Int)) = false := by simp; omega
      have he2 := hide (show quoA T L i = none from by rw [← HE.out, quoF_end (by omega)])
      go_wp2
      go_ret2
      refine ⟨?_, HJ.out.out⟩
      rw [he2.out]
      rfl
end
end Go.Proofs.YtdojcgefiekleaaDoor
