/- The reference's Next and NextOf: plain laws. No condition but those written. -/
import Derived.Test.YtgiogmbopiblmaaPsh
import Derived.Deep.QuietTactic
import Derived.BigQuiet
namespace Go.Proofs.Ytgiogmbopiblmaa
open Go.RowKit

theorem like_lstI {L : List (List Pr)} {P : List Pc} {N : Nat} (hl : Like L P) (hg : Good P N) (x : Int) : lstI L x = denI P x := by
  unfold lstI denI
  by_cases h1 : x < 1
  · rw [if_pos h1]
    by_cases h2 : x < 0
    · rw [if_pos h2]
    · rw [if_neg h2, hg.ran _ (by omega)]
  · rw [if_neg h1, if_neg (by omega), hl]
    congr 1
    omega
/-- Where the reference's loop begins. -/
def startN (at_ : Int) : Nat := (max 1 (min at_ 65536 + 1)).toNat
section
variable {same : List Pr → List Pr → Bool} {P : List Pc} {N : Nat}
theorem bnds_le (hg : Good P N) : ∀ b ∈ bnds P, b ≤ 65537 := by
  intro b hb
  unfold bnds at hb
  obtain ⟨p, hp, hb⟩ := List.mem_flatMap.1 hb
  obtain ⟨_, g2, g3, _⟩ := hg.mem hp
  simp at hb
  rcases hb with rfl | rfl <;> omega
theorem next_hit (hs : ∀ l, same l l = true) (hg : Good P N) {at_ most : Int} {i : Nat} (h2 : at_ < (i : Int)) (h3 : (i : Int) < most) (h4 : i ≤ 65537) (h5 : same (denI P at_) (den P i) = false) (h6 : ∀ j : Nat, startN at_ ≤ j → j < i → at_ < (j : Int) → same (denI P at_) (den P j) = true) : nextP same P at_ most = (i : Int) := by
  obtain ⟨a1, a2⟩ := next_law hs hg.nf (fun p hp => (hg.mem hp).1) at_ most
  have hle : nextP same P at_ most ≤ (i : Int) := by
    by_cases c : (i : Int) < nextP same P at_ most
    · rw [a2 i h2 h3 c] at h5
      cases h5
    · omega
  rcases a1 with e | ⟨e1, e2, e3, e4, e5⟩
  · omega
  · obtain ⟨b, hb, eb⟩ := List.mem_map.1 e4
    have eb2 : nextP same P at_ most = (b : Int) := eb.symm
    rw [eb2] at e1 e2 e3 e5 hle ⊢
    rw [denI_nat] at e5
    by_cases c : b < i
    · have := h6 b (by unfold startN; omega) c e1
      rw [this] at e5
      cases e5
    · omega
theorem next_end (hs : ∀ l, same l l = true) (hg : Good P N) {at_ most : Int} (h6 : ∀ j : Nat, startN at_ ≤ j → at_ < (j : Int) → (j : Int) < most → j ≤ 65537 → same (denI P at_) (den P j) = true) : nextP same P at_ most = most := by
  obtain ⟨a1, a2⟩ := next_law hs hg.nf (fun p hp => (hg.mem hp).1) at_ most
  rcases a1 with e | ⟨e1, e2, e3, e4, e5⟩
  · exact e
  · exfalso
    obtain ⟨b, hb, eb⟩ := List.mem_map.1 e4
    have eb2 : nextP same P at_ most = (b : Int) := eb.symm
    rw [eb2] at e1 e2 e3 e5
    rw [denI_nat] at e5
    have hb9 := bnds_le hg b hb
    have := h6 b (by unfold startN; omega) e1 e2 hb9
    rw [this] at e5
    cases e5
end
theorem sameL_refl (l : List Pr) : sameL l l = true := by simp [sameL]
set_option maxRecDepth 100000 in
set_option maxHeartbeats 8000000 in
theorem rNext_any {w : World} {rb N : Nat} {v : Value} {R : List (List Pr × Value)} {P : List Pc} (h : RfAt w rb v R) (hl : Like (lsts R) P) (hg : Good P N) (hNB : N ≤ 1000) (at_ most : Int) (hat : -9223372036854775808 ≤ at_) :
    Calls Try.prog 39 #[.pointer (some ⟨rb, 0, none⟩), .int .i64 at_, .int .i64 most] w fun e w' => e = .returned (.int .i64 (nextP sameL P at_ most)) ∧ Below w.heap.size w w' := by
  have HLI := hide (fun (x : World) (hb : Below w.heap.size w x) (i : Int) => (show Calls Try.prog 37 #[.pointer (some ⟨rb, 0, none⟩), .int .i64 i] x (LsRes x (denI P i)) from by
    have := rlist_any (h.below hb) i
    rw [like_lstI hl hg] at this
    exact this))
  have HLEN := hide (show ∀ i : Int, (denI P i).length ≤ 1000 from fun i => by
    unfold denI
    split
    · simp
    · exact Nat.le_trans (hg.len _) hNB)
  have HHIT := hide (fun (i : Nat) (h2 : at_ < (i : Int)) (h3 : (i : Int) < most) (h4 : i ≤ 65537) (h5 : sameL (denI P at_) (den P i) = false) (h6 : ∀ j : Nat, startN at_ ≤ j → j < i → at_ < (j : Int) → sameL (denI P at_) (den P j) = true) => next_hit sameL_refl hg h2 h3 h4 h5 h6)
  have HEND := hide (fun (h6 : ∀ j : Nat, startN at_ ≤ j → at_ < (j : Int) → (j : Int) < most → j ≤ 65537 → sameL (denI P at_) (den P j) = true) => next_end sameL_refl hg h6)
  obtain ⟨mm, hmm⟩ : ∃ m : Int, m = min at_ 65536 := ⟨_, rfl⟩
  have hmm1 : mm ≤ 65536 := by omega
  have q1 : ∀ (w : World), (Builtin.min_ #[3, 3] 3 #[.int .i64 at_, .int .i64 65536]).run Try.prog w = .ok (.int .i64 mm) w := fun w => by rw [run_min_int2, hmm, show (if (65536 : Int) < at_ then 65536 else at_) = min at_ 65536 from by split <;> omega]
  obtain ⟨s0, hs0⟩ : ∃ s : Nat, s = startN at_ := ⟨_, rfl⟩
  have HS0 := hide hs0
  have wm : IntKind.i64.wrap (mm + 1) = mm + 1 := IntWalk.i64_in _ (by omega)
  have hs1 : (s0 : Int) = max 1 (mm + 1) := by rw [hs0, hmm]; unfold startN; omega
  have q2 : ∀ (w : World), (Builtin.max_ #[3, 3] 3 #[.int .i64 1, .int .i64 (mm + 1)]).run Try.prog w = .ok (.int .i64 (s0 : Int)) w := fun w => by rw [run_max_int2, hs1, show (if mm + 1 > 1 then mm + 1 else (1 : Int)) = max 1 (mm + 1) from by split <;> omega]
  have hs9 : s0 ≤ 65537 := by omega
  have HS9 := hide hs9
  clear h hl hg hNB hs0 hs1 hmm hat hs9
  go_enter Try.func39, Try.ntmps39
  go_wp2_with fail
  refine (Calls.mono (HLI.out _ (Below.refl _ _) at_)) ?_
  rintro r w1 ⟨v1, rfl, h1, _, b1⟩
  obtain ⟨A1, c1, rfl, _⟩ := Sl.form h1
  have H1 := hide h1
  have B1 := hide b1
  clear h1 b1
  go_wp2
  go_loopw [8] (fun iv wr => ∃ j : Nat, iv = .int .i64 (j : Int) ∧ s0 ≤ j ∧ j ≤ 65538 ∧ (∀ t : Nat, s0 ≤ t → t < j → at_ < (t : Int) → sameL (denI P at_) (den P t) = true) ∧ Below w1.heap.size w1 wr) (fun iv _ => 65538 - (intOf iv).toNat)
  case atStart => exact ⟨s0, rfl, Nat.le_refl _, by have := HS9.out; omega, fun t h1 h2 => by omega, Below.refl _ _⟩
  case round =>
    obtain ⟨j, rfl, hj1, hj2, hal, hb⟩ := hrel
    have HAL := hide hal
    have HB := hide hb
    have HJ1 := hide hj1
    by_cases hjm : (j : Int) < most ∧ j ≤ 65537
    · obtain ⟨hjm, hj9⟩ := hjm
      have z1 : decide ((j : Int) < most) = true := by simpa using hjm
      have z2 : decide ((j : Int) ≤ 65537) = true := by simp; omega
      have z3 : decide (j ≤ 65537) = true := by simpa using hj9
      have z4 : (j : Int) ≤ 65537 := by omega
      have HJM := hide hjm
      have HJ9 := hide hj9
      by_cases hja : at_ < (j : Int)
      · have y1 : decide (at_ < (j : Int)) = true := by simpa using hja
        have HJA := hide hja
        have HLJ := hide (HLI.out wr (B1.out.trans (hb.mono B1.out.size)) (j : Int))
        rw [denI_nat] at HLJ
        have HJL := hide (show (den P j).length ≤ 1000 by have := HLEN.out (j : Int); rwa [denI_nat] at this)
        clear hj1 hj2 hal hb hjm hj9 hja
        obtain ⟨q, hq⟩ : ∃ q, q = den P j := ⟨_, rfl⟩
        have HQ := hide hq
        rw [← hq] at HLJ HJL
        clear hq
        have HSM := hide (fun (x : World) (v5 : Value) (hb : Below w1.heap.size w1 x) (h5 : PrS x v5 q) => rsame_props q (denI P at_) v5 (.slice A1 (denI P at_).length c1) x (Sl.rd h5) (Sl.rd (PrS.below H1.out hb)) (by have := HJL.out; omega) (by have := HLEN.out at_; omega))
        by_cases he : q = denI P at_
        · have HST := hide (show sameL (denI P at_) (den P j) = true by rw [← HQ.out, he]; exact sameL_refl _)
          have HSM2 := hide (fun (x : World) (v5 : Value) (hb : Below w1.heap.size w1 x) (h5 : PrS x v5 q) => (show Calls Try.prog _ _ _ (fun e w' => e = .returned (.bool true) ∧ ∃ y, w' = x.drewN y) from by have := HSM.out x v5 hb h5; rw [decide_eq_true he] at this; exact this))
          clear HSM he
          go_wp2_with (first | (go_at_call 37; (with_reducible refine Calls.mono HLJ.out ?_); rintro r w5 ⟨v5, rfl, h5, _, b5⟩; obtain ⟨A5, c5, rfl, _⟩ := Sl.form h5; have H5 := hide h5; have B5 := hide (HB.out.trans (b5.mono HB.out.size)); clear h5 b5) | (go_at_call 69; (with_reducible refine Calls.mono (HSM2.out _ _ B5.out H5.out) ?_); rintro r w6 ⟨rfl, y, hy⟩; have B6 := hide (show Below w1.heap.size w1 w6 by rw [hy]; exact B5.out.trans ((below_dN2 y).mono B5.out.size)); clear hy))
          go_roundw
          case rel => exact ⟨j + 1, by go_num, by have := HJ1.out; omega, by have := HJ9.out; omega, fun t h1 h2 h3 => by
            by_cases c : t = j
            · subst c
              exact HST.out
            · exact HAL.out t h1 (by omega) h3, B6.out⟩
          case measure => have := HJ9.out; simp [intOf]; omega
        · have HST := hide (show nextP sameL P at_ most = (j : Int) from HHIT.out j HJA.out HJM.out HJ9.out (by unfold sameL; rw [← HQ.out]; exact decide_eq_false fun e => he e.symm) (fun t h1 h2 h3 => HAL.out t (by have := HS0.out; omega) h2 h3))
          have HSM2 := hide (fun (x : World) (v5 : Value) (hb : Below w1.heap.size w1 x) (h5 : PrS x v5 q) => (show Calls Try.prog _ _ _ (fun e w' => e = .returned (.bool false) ∧ ∃ y, w' = x.drewN y) from by have := HSM.out x v5 hb h5; rw [decide_eq_false he] at this; exact this))
          clear HSM he
          go_wp2_with (first | (go_at_call 37; (with_reducible refine Calls.mono HLJ.out ?_); rintro r w5 ⟨v5, rfl, h5, _, b5⟩; obtain ⟨A5, c5, rfl, _⟩ := Sl.form h5; have H5 := hide h5; have B5 := hide (HB.out.trans (b5.mono HB.out.size)); clear h5 b5) | (go_at_call 69; (with_reducible refine Calls.mono (HSM2.out _ _ B5.out H5.out) ?_); rintro r w6 ⟨rfl, y, hy⟩; have B6 := hide (show Below w1.heap.size w1 w6 by rw [hy]; exact B5.out.trans ((below_dN2 y).mono B5.out.size)); clear hy))
          go_ret
          rw [HST.out]
          exact ⟨rfl, B1.out.trans (B6.out.mono B1.out.size)⟩
      · have y1 : decide (at_ < (j : Int)) = false := by simpa using hja
        have HJA := hide hja
        clear hj1 hj2 hal hb hjm hj9 hja
        go_wp2
        go_roundw
        case rel => exact ⟨j + 1, by go_num, by have := HJ1.out; omega, by have := HJ9.out; omega, fun t h1 h2 h3 => by
          by_cases c : t = j
          · subst c
            exact absurd h3 HJA.out
          · exact HAL.out t h1 (by omega) h3, HB.out⟩
        case measure => have := HJ9.out; simp [intOf]; omega
    · have HST := hide (show nextP sameL P at_ most = most from HEND.out fun t h1 h2 h3 h4 => hal t (by have := HS0.out; omega) (by omega) h2)
      by_cases hjm2 : (j : Int) < most
      · have z1 : decide ((j : Int) < most) = true := by simpa using hjm2
        have z2 : decide ((j : Int) ≤ 65537) = false := by simp; omega
        have z3 : decide (j ≤ 65537) = false := by simp; omega
        have z4 : ¬ (j : Int) ≤ 65537 := by omega
        clear hj1 hj2 hal hb hjm hjm2
        go_wp2
        go_ret
        rw [HST.out]
        exact ⟨rfl, B1.out.trans (HB.out.mono B1.out.size)⟩
      · have z1 : decide ((j : Int) < most) = false := by simpa using hjm2
        clear hj1 hj2 hal hb hjm hjm2
        go_wp2
        go_ret
        rw [HST.out]
        exact ⟨rfl, B1.out.trans (HB.out.mono B1.out.size)⟩
end Go.Proofs.Ytgiogmbopiblmaa
namespace Go.Proofs.Ytgiogmbopiblmaa
open Go.RowKit

theorem sameV_refl (n : Int) (l : List Pr) : sameV n l l = true := by simp [sameV]
set_option maxRecDepth 100000 in
set_option maxHeartbeats 8000000 in
theorem rNextOf_any {w : World} {rb N : Nat} {v : Value} {R : List (List Pr × Value)} {P : List Pc} (h : RfAt w rb v R) (hl : Like (lsts R) P) (hg : Good P N) (_hNB : N ≤ 1000) (at_ n most : Int) (hat : -9223372036854775808 ≤ at_) :
    Calls Try.prog 40 #[.pointer (some ⟨rb, 0, none⟩), .int .i64 at_, .int .i64 n, .int .i64 most] w fun e w' => e = .returned (.int .i64 (nextP (sameV n) P at_ most)) ∧ Below w.heap.size w w' := by
  have HGE := hide (fun (x : World) (hb : Below w.heap.size w x) (i : Int) => (show Calls Try.prog 36 #[.pointer (some ⟨rb, 0, none⟩), .int .i64 i, .int .i64 n] x (fun e w' => e = .returned (.tuple #[.agg #[.int .i64 (getV (denI P i) n).1, .int .i64 (getV (denI P i) n).2], .bool (getP (denI P i) n).isSome]) ∧ Below x.heap.size x w') from by
    have := rget_any (h.below hb) i n
    rw [like_lstI hl hg] at this
    exact this))
  have HHIT := hide (fun (i : Nat) (h2 : at_ < (i : Int)) (h3 : (i : Int) < most) (h4 : i ≤ 65537) (h5 : sameV n (denI P at_) (den P i) = false) (h6 : ∀ j : Nat, startN at_ ≤ j → j < i → at_ < (j : Int) → sameV n (denI P at_) (den P j) = true) => next_hit (sameV_refl n) hg h2 h3 h4 h5 h6)
  have HEND := hide (fun (h6 : ∀ j : Nat, startN at_ ≤ j → at_ < (j : Int) → (j : Int) < most → j ≤ 65537 → sameV n (denI P at_) (den P j) = true) => next_end (sameV_refl n) hg h6)
  obtain ⟨mm, hmm⟩ : ∃ m : Int, m = min at_ 65536 := ⟨_, rfl⟩
  have hmm1 : mm ≤ 65536 := by omega
  have q1 : ∀ (w : World), (Builtin.min_ #[3, 3] 3 #[.int .i64 at_, .int .i64 65536]).run Try.prog w = .ok (.int .i64 mm) w := fun w => by rw [run_min_int2, hmm, show (if (65536 : Int) < at_ then 65536 else at_) = min at_ 65536 from by split <;> omega]
  obtain ⟨s0, hs0⟩ : ∃ s : Nat, s = startN at_ := ⟨_, rfl⟩
  have HS0 := hide hs0
  have wm : IntKind.i64.wrap (mm + 1) = mm + 1 := IntWalk.i64_in _ (by omega)
  have hs1 : (s0 : Int) = max 1 (mm + 1) := by rw [hs0, hmm]; unfold startN; omega
  have q2 : ∀ (w : World), (Builtin.max_ #[3, 3] 3 #[.int .i64 1, .int .i64 (mm + 1)]).run Try.prog w = .ok (.int .i64 (s0 : Int)) w := fun w => by rw [run_max_int2, hs1, show (if mm + 1 > 1 then mm + 1 else (1 : Int)) = max 1 (mm + 1) from by split <;> omega]
  have hs9 : s0 ≤ 65537 := by omega
  have HS9 := hide hs9
  clear h hl hg hs0 hs1 hmm hat hs9
  obtain ⟨k0, hk0⟩ : ∃ k, k = (getV (denI P at_) n).1 := ⟨_, rfl⟩
  obtain ⟨v0, hv0⟩ : ∃ k, k = (getV (denI P at_) n).2 := ⟨_, rfl⟩
  obtain ⟨b0, hb0⟩ : ∃ k, k = (getP (denI P at_) n).isSome := ⟨_, rfl⟩
  have HG0 := hide (HGE.out _ (Below.refl _ _) at_)
  rw [← hk0, ← hv0, ← hb0] at HG0
  have HK0 := hide hk0
  have HV0 := hide hv0
  have HBB0 := hide hb0
  clear hk0 hv0 hb0
  go_enter Try.func40, Try.ntmps40
  go_wp2_with fail
  refine (Calls.mono HG0.out) ?_
  rintro r w1 ⟨rfl, b1⟩
  have HB1 := hide (b1.trans ((below_box w1 (.cells #[.int .i64 k0, .int .i64 v0] 29)).mono b1.size))
  have HBX := hide (Blk.new w1 29 #[.int .i64 k0, .int .i64 v0])
  obtain ⟨W1, hW1⟩ : ∃ x : World, x = w1.alloc (.cells #[.int .i64 k0, .int .i64 v0] 29) := ⟨_, rfl⟩
  obtain ⟨vb, hvb⟩ : ∃ n, n = w1.heap.size := ⟨_, rfl⟩
  go_upto_region 2 with fail
  rw [← hW1] at HB1 HBX ⊢
  rw [← hvb] at HBX ⊢
  clear hW1 hvb b1
  go_wp2
  go_loopw [11] (fun iv wr => ∃ j : Nat, iv = .int .i64 (j : Int) ∧ s0 ≤ j ∧ j ≤ 65538 ∧ (∀ t : Nat, s0 ≤ t → t < j → at_ < (t : Int) → sameV n (denI P at_) (den P t) = true) ∧ Below W1.heap.size W1 wr) (fun iv _ => 65538 - (intOf iv).toNat)
  case atStart => exact ⟨s0, rfl, Nat.le_refl _, by have := HS9.out; omega, fun t h1 h2 => by omega, Below.refl _ _⟩
  case round =>
    obtain ⟨j, rfl, hj1, hj2, hal, hb⟩ := hrel
    have HAL := hide hal
    have HB := hide hb
    have HJ1 := hide hj1
    by_cases hjm : (j : Int) < most ∧ j ≤ 65537
    · obtain ⟨hjm, hj9⟩ := hjm
      have z1 : decide ((j : Int) < most) = true := by simpa using hjm
      have z2 : decide ((j : Int) ≤ 65537) = true := by simp; omega
      have z3 : decide (j ≤ 65537) = true := by simpa using hj9
      have z4 : (j : Int) ≤ 65537 := by omega
      have HJM := hide hjm
      have HJ9 := hide hj9
      obtain ⟨k1, hk1⟩ : ∃ k, k = (getV (den P j) n).1 := ⟨_, rfl⟩
      obtain ⟨v1, hv1⟩ : ∃ k, k = (getV (den P j) n).2 := ⟨_, rfl⟩
      obtain ⟨b1, hb1⟩ : ∃ k, k = (getP (den P j) n).isSome := ⟨_, rfl⟩
      have HGJ := hide (HGE.out wr (HB1.out.trans (hb.mono HB1.out.size)) (j : Int))
      rw [denI_nat, ← hk1, ← hv1, ← hb1] at HGJ
      have HSV := hide (show sameV n (denI P at_) (den P j) = (decide (k0 = k1) && decide (v0 = v1) && decide (b0 = b1)) by rw [sameV_eq, HK0.out, HV0.out, HBB0.out, hk1, hv1, hb1])
      clear hj1 hj2 hal hb hjm hj9 hk1 hv1 hb1
      by_cases hja : at_ < (j : Int)
      · have y1 : decide (at_ < (j : Int)) = true := by simpa using hja
        have HJA := hide hja
        have HHI := hide (fun (h5 : sameV n (denI P at_) (den P j) = false) => HHIT.out j HJA.out HJM.out HJ9.out h5 (fun t h1 h2 h3 => HAL.out t (by have := HS0.out; omega) h2 h3))
        clear hja
        by_cases hbb : b0 = b1
        · subst hbb
          have t1 : (b0 == b0) = true := by simp
          have t2 : (b0 != b0) = false := by simp
          by_cases hkk : k0 = k1
          · subst hkk
            by_cases hvv : v0 = v1
            · subst hvv
              have HST := hide (show sameV n (denI P at_) (den P j) = true by rw [HSV.out]; simp)
              go_upto_region 6 with (go_at_call 36; (with_reducible refine Calls.mono HGJ.out ?_); rintro r w7 ⟨rfl, b7⟩; have B7 := hide (HB.out.trans (b7.mono HB.out.size)); clear b7)
              have HB7 := hide (B7.out.trans ((below_box w7 (.cells #[.int .i64 k0, .int .i64 v0] 29)).mono B7.out.size))
              have HWB := hide (Blk.new w7 29 #[.int .i64 k0, .int .i64 v0])
              obtain ⟨W7, hW7⟩ : ∃ x : World, x = w7.alloc (.cells #[.int .i64 k0, .int .i64 v0] 29) := ⟨_, rfl⟩
              obtain ⟨wb, hwb⟩ : ∃ n, n = w7.heap.size := ⟨_, rfl⟩
              rw [← hW7] at HB7 HWB ⊢
              rw [← hwb] at HWB ⊢
              clear hW7 hwb
              have d0 := HWB.out.cell 0
              have d1 := HWB.out.cell 1
              have e0 := (HBX.out.below HB7.out HBX.out.lt).cell 0
              have e1 := (HBX.out.below HB7.out HBX.out.lt).cell 1
              go_wp2
              go_roundw
              case rel => exact ⟨j + 1, by go_num, by have := HJ1.out; omega, by have := HJ9.out; omega, fun t h1 h2 h3 => by
                by_cases c : t = j
                · subst c
                  exact HST.out
                · exact HAL.out t h1 (by omega) h3, HB7.out⟩
              case measure => have := HJ9.out; simp [intOf]; omega
            · have u1 : decide (v0 = v1) = false := by simpa using hvv
              have u2 : (v0 == v1) = false := by simpa using hvv
              have HST := hide (show nextP (sameV n) P at_ most = (j : Int) from HHI.out (by rw [HSV.out, u1]; simp))
              clear hvv
              go_upto_region 6 with (go_at_call 36; (with_reducible refine Calls.mono HGJ.out ?_); rintro r w7 ⟨rfl, b7⟩; have B7 := hide (HB.out.trans (b7.mono HB.out.size)); clear b7)
              have HB7 := hide (B7.out.trans ((below_box w7 (.cells #[.int .i64 k0, .int .i64 v1] 29)).mono B7.out.size))
              have HWB := hide (Blk.new w7 29 #[.int .i64 k0, .int .i64 v1])
              obtain ⟨W7, hW7⟩ : ∃ x : World, x = w7.alloc (.cells #[.int .i64 k0, .int .i64 v1] 29) := ⟨_, rfl⟩
              obtain ⟨wb, hwb⟩ : ∃ n, n = w7.heap.size := ⟨_, rfl⟩
              rw [← hW7] at HB7 HWB ⊢
              rw [← hwb] at HWB ⊢
              clear hW7 hwb
              have d0 := HWB.out.cell 0
              have d1 := HWB.out.cell 1
              have e0 := (HBX.out.below HB7.out HBX.out.lt).cell 0
              have e1 := (HBX.out.below HB7.out HBX.out.lt).cell 1
              go_wp2
              go_ret
              rw [HST.out]
              exact ⟨rfl, HB1.out.trans (HB7.out.mono HB1.out.size)⟩
          · have u1 : decide (k0 = k1) = false := by simpa using hkk
            have u2 : (k0 == k1) = false := by simpa using hkk
            have HST := hide (show nextP (sameV n) P at_ most = (j : Int) from HHI.out (by rw [HSV.out, u1]; simp))
            clear hkk
            go_upto_region 6 with (go_at_call 36; (with_reducible refine Calls.mono HGJ.out ?_); rintro r w7 ⟨rfl, b7⟩; have B7 := hide (HB.out.trans (b7.mono HB.out.size)); clear b7)
            have HB7 := hide (B7.out.trans ((below_box w7 (.cells #[.int .i64 k1, .int .i64 v1] 29)).mono B7.out.size))
            have HWB := hide (Blk.new w7 29 #[.int .i64 k1, .int .i64 v1])
            obtain ⟨W7, hW7⟩ : ∃ x : World, x = w7.alloc (.cells #[.int .i64 k1, .int .i64 v1] 29) := ⟨_, rfl⟩
            obtain ⟨wb, hwb⟩ : ∃ n, n = w7.heap.size := ⟨_, rfl⟩
            rw [← hW7] at HB7 HWB ⊢
            rw [← hwb] at HWB ⊢
            clear hW7 hwb
            have d0 := HWB.out.cell 0
            have d1 := HWB.out.cell 1
            have e0 := (HBX.out.below HB7.out HBX.out.lt).cell 0
            have e1 := (HBX.out.below HB7.out HBX.out.lt).cell 1
            go_wp2
            go_ret
            rw [HST.out]
            exact ⟨rfl, HB1.out.trans (HB7.out.mono HB1.out.size)⟩
        · have t1 : decide (b0 = b1) = false := by simpa using hbb
          have t2 : (b0 == b1) = false := by simpa using hbb
          have t3 : (b0 != b1) = true := by simpa using hbb
          have HST := hide (show nextP (sameV n) P at_ most = (j : Int) from HHI.out (by rw [HSV.out, t1]; simp))
          clear hbb
          go_upto_region 6 with (go_at_call 36; (with_reducible refine Calls.mono HGJ.out ?_); rintro r w7 ⟨rfl, b7⟩; have B7 := hide (HB.out.trans (b7.mono HB.out.size)); clear b7)
          have HB7 := hide (B7.out.trans ((below_box w7 (.cells #[.int .i64 k1, .int .i64 v1] 29)).mono B7.out.size))
          have HWB := hide (Blk.new w7 29 #[.int .i64 k1, .int .i64 v1])
          obtain ⟨W7, hW7⟩ : ∃ x : World, x = w7.alloc (.cells #[.int .i64 k1, .int .i64 v1] 29) := ⟨_, rfl⟩
          obtain ⟨wb, hwb⟩ : ∃ n, n = w7.heap.size := ⟨_, rfl⟩
          rw [← hW7] at HB7 HWB ⊢
          rw [← hwb] at HWB ⊢
          clear hW7 hwb
          have d0 := HWB.out.cell 0
          have d1 := HWB.out.cell 1
          have e0 := (HBX.out.below HB7.out HBX.out.lt).cell 0
          have e1 := (HBX.out.below HB7.out HBX.out.lt).cell 1
          go_wp2
          go_ret
          rw [HST.out]
          exact ⟨rfl, HB1.out.trans (HB7.out.mono HB1.out.size)⟩
      · have y1 : decide (at_ < (j : Int)) = false := by simpa using hja
        have HJA := hide hja
        clear hja
        go_upto_region 6 with (go_at_call 36; (with_reducible refine Calls.mono HGJ.out ?_); rintro r w7 ⟨rfl, b7⟩; have B7 := hide (HB.out.trans (b7.mono HB.out.size)); clear b7)
        have HB7 := hide (B7.out.trans ((below_box w7 (.cells #[.int .i64 k1, .int .i64 v1] 29)).mono B7.out.size))
        have HWB := hide (Blk.new w7 29 #[.int .i64 k1, .int .i64 v1])
        obtain ⟨W7, hW7⟩ : ∃ x : World, x = w7.alloc (.cells #[.int .i64 k1, .int .i64 v1] 29) := ⟨_, rfl⟩
        obtain ⟨wb, hwb⟩ : ∃ n, n = w7.heap.size := ⟨_, rfl⟩
        rw [← hW7] at HB7 HWB ⊢
        rw [← hwb] at HWB ⊢
        clear hW7 hwb
        have d0 := HWB.out.cell 0
        have d1 := HWB.out.cell 1
        have e0 := (HBX.out.below HB7.out HBX.out.lt).cell 0
        have e1 := (HBX.out.below HB7.out HBX.out.lt).cell 1
        go_wp2
        go_roundw
        case rel => exact ⟨j + 1, by go_num, by have := HJ1.out; omega, by have := HJ9.out; omega, fun t h1 h2 h3 => by
          by_cases c : t = j
          · subst c
            exact (by have := HJA.out; omega)
          · exact HAL.out t h1 (by omega) h3, HB7.out⟩
        case measure => have := HJ9.out; simp [intOf]; omega
    · have HST := hide (show nextP (sameV n) P at_ most = most from HEND.out fun t h1 h2 h3 h4 => hal t (by have := HS0.out; omega) (by omega) h2)
      by_cases hjm2 : (j : Int) < most
      · have z1 : decide ((j : Int) < most) = true := by simpa using hjm2
        have z2 : decide ((j : Int) ≤ 65537) = false := by simp; omega
        have z3 : decide (j ≤ 65537) = false := by simp; omega
        have z4 : ¬ (j : Int) ≤ 65537 := by omega
        clear hj1 hj2 hal hb hjm hjm2
        go_wp2
        go_ret
        rw [HST.out]
        exact ⟨rfl, HB1.out.trans (HB.out.mono HB1.out.size)⟩
      · have z1 : decide ((j : Int) < most) = false := by simpa using hjm2
        clear hj1 hj2 hal hb hjm hjm2
        go_wp2
        go_ret
        rw [HST.out]
        exact ⟨rfl, HB1.out.trans (HB.out.mono HB1.out.size)⟩
end Go.Proofs.Ytgiogmbopiblmaa
