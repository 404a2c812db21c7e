/- digits; FacesFull's walk. No condition but those written. -/
import Derived.Test.YtmjogpacajbngaaHg
import Derived.Test.YtmjogpacajbngaaFx
import Derived.Laws.BytesArg
namespace Go.Proofs.Ytmjogpacajbngaa
open Go.RowKit

set_option maxRecDepth 100000 in
set_option maxHeartbeats 4000000 in
theorem digit_one (n : Nat) (h : n < 10) (w : World) : Calls Try.prog 18 #[.int .i64 (n : Int)] w fun e w' => ∃ s : ByteArray, e = .returned (.string s) ∧ s.size ≤ 1 ∧ Below w.heap.size w w' := by
  have y1 : decide ((n : Int) < 10) = true := decide_eq_true (by omega)
  have y2 : decide (n < 10) = true := decide_eq_true h
  have hc := run_convert_bytes_arg (P := Try.prog) (w.alloc (.cells #[.int .u8 (48 + (n : Int))] 5)) 69 5 Try.underlying69 Try.underlying5 w.heap.size 0 1 1 [48 + (n : Int)] rfl (fun i hi => by
    obtain rfl : i = 0 := by omega
    simp) 9 Try.underlying9
  have HZ := hide (show (strOfNums [48 + (n : Int)]).size ≤ 1 by simp [strOfNums, ByteArray.size])
  have HB := hide (show Below w.heap.size w (w.alloc (.cells #[.int .u8 (48 + (n : Int))] 5)) from (Below.refl _ _).alloc (Nat.le_refl _) _)
  generalize strOfNums [48 + (n : Int)] = s at hc HZ
  go_enter Try.func18, Try.ntmps18
  go_wp2
  go_ret
  exact ⟨s, rfl, HZ.out, HB.out⟩
set_option maxRecDepth 100000 in
set_option maxHeartbeats 4000000 in
theorem digits_any (n : Nat) : n ≤ 1000 → ∀ w, Calls Try.prog 18 #[.int .i64 (n : Int)] w fun e w' => ∃ s : ByteArray, e = .returned (.string s) ∧ s.size ≤ n + 1 ∧ Below w.heap.size w w' := by
  induction n using Nat.strongRecOn with
  | _ n ih =>
    intro hn w
    by_cases h : n < 10
    · refine (digit_one n h w).mono ?_
      rintro e w' ⟨s, rfl, hs, hb⟩
      exact ⟨s, rfl, by omega, hb⟩
    · have y1 : decide ((n : Int) < 10) = false := decide_eq_false (by omega)
      have y2 : decide (n < 10) = false := decide_eq_false h
      have H1 := hide (ih (n / 10) (by omega) (by omega))
      have H2 := hide (digit_one (n % 10) (Nat.mod_lt _ (by omega)))
      have e1 : (n : Int).tdiv 10 = ((n / 10 : Nat) : Int) := by
        rw [Int.tdiv_eq_ediv_of_nonneg (by omega)]
        omega
      have e2 : (n : Int).tmod 10 = ((n % 10 : Nat) : Int) := by
        rw [Int.tmod_eq_emod_of_nonneg (by omega)]
        omega
      have e3 : wrap64 ((n : Int) / 10) = ((n / 10 : Nat) : Int) := by
        unfold wrap64
        omega
      have HN := hide (And.intro hn (show 10 ≤ n by omega))
      clear ih hn h
      go_enter Try.func18, Try.ntmps18
      go_wp2_with fail
      refine Calls.mono (H1.out _) ?_
      rintro r w2 ⟨s1, rfl, hs1, hb2⟩
      have HS1 := hide hs1
      have B2 := hide hb2
      clear hs1 hb2
      go_wp2_with fail
      refine Calls.mono (H2.out _) ?_
      rintro r w3 ⟨s2, rfl, hs2, hb3⟩
      have HS2 := hide hs2
      have B3 := hide (B2.out.trans (hb3.mono B2.out.size))
      have hsum : ((s1.size + s2.size : Nat) : Int) ≤ 9223372036854775807 := by
        have := HS1.out
        have := HN.out
        omega
      have hsum2 : (s1.size : Int) + (s2.size : Int) ≤ 9223372036854775807 := by omega
      clear hs2 hb3
      go_wp2
      go_ret
      exact ⟨s1 ++ s2, rfl, by rw [ByteArray.size_append]; have := HS1.out; have := HS2.out; have := HN.out; omega, B3.out⟩
set_option maxRecDepth 100000 in
set_option maxRecDepth 100000 in
set_option maxHeartbeats 16000000 in
theorem ffull_walk (n k : Int) (w : World) : Calls Try.prog 4 #[.int .i64 n, .int .i64 k] w fun e w' => e = .returned (.bool true) ∧ Below w.heap.size w w' := by
  obtain ⟨N, hN⟩ : ∃ N, n.tmod 261 = N := ⟨_, rfl⟩
  obtain ⟨M, hM⟩ : ∃ M, k.tmod 261 = M := ⟨_, rfl⟩
  have hNb : -261 < N ∧ N < 261 := by
    have h1 := Int.tmod_lt_of_pos n (show (0 : Int) < 261 by omega)
    have h2 := Int.lt_tmod_of_pos n (show (0 : Int) < 261 by omega)
    omega
  have hMb : -261 < M ∧ M < 261 := by
    have h1 := Int.tmod_lt_of_pos k (show (0 : Int) < 261 by omega)
    have h2 := Int.lt_tmod_of_pos k (show (0 : Int) < 261 by omega)
    omega
  by_cases hN0 : N < 0
  · have y1 : decide (N < 0) = true := decide_eq_true hN0
    go_enter Try.func4, Try.ntmps4
    go_wp2_with fail
    refine Calls.mono (awake_any _) ?_
    rintro r w2 ⟨rfl, hb⟩
    have B := hide hb
    clear hb
    go_wp2
    go_ret
    exact ⟨rfl, B.out⟩
  have y1 : decide (N < 0) = false := decide_eq_false hN0
  by_cases hM0 : M < 0
  · have y2 : decide (M < 0) = true := decide_eq_true hM0
    go_enter Try.func4, Try.ntmps4
    go_wp2_with fail
    refine Calls.mono (awake_any _) ?_
    rintro r w2 ⟨rfl, hb⟩
    have B := hide hb
    clear hb
    go_wp2
    go_ret
    exact ⟨rfl, B.out⟩
  have y2 : decide (M < 0) = false := decide_eq_false hM0
  obtain ⟨m, rfl⟩ : ∃ m : Nat, N = (m : Int) := ⟨N.toNat, by omega⟩
  obtain ⟨kk, rfl⟩ : ∃ kk : Nat, M = (kk : Int) := ⟨M.toNat, by omega⟩
  have HB := hide (show m ≤ 260 ∧ kk ≤ 260 by omega)
  have HZ0 := hide (show (⟨#[]⟩ : ByteArray).size < 9223372036854775807 by decide)
  clear hNb hMb
  go_enter Try.func4, Try.ntmps4
  go_wp2_with fail
  refine Calls.mono (new_any (Own.refl w)) ?_
  rintro r w2 ⟨fb, mb, rfl, h2⟩
  have H2 := hide h2
  clear h2
  go_wp2_with fail
  refine Calls.mono (rnew_any (R := facHeap fb mb [(dflt, attZero)]) H2.out) ?_
  rintro r w3 ⟨rb, vN0, vA0, rfl, h3⟩
  have H3 := hide (both_new h3)
  clear h3 H2 hN0 hM0
  go_wp2_with fail
  go_loopw [7] (fun t wr => ∃ (i : Nat) (D L : Fm) (vN vA : Value), t = .int .i64 (i : Int) ∧ i ≤ m ∧ Both w wr fb mb rb vN vA D L ∧ Rel D L ∧ GoodF D) (fun t _ => m - (intOf t).toNat)
  case atStart => exact ⟨0, _, _, _, _, rfl, Nat.zero_le _, H3.out, rel_new, good_new⟩
  case round =>
    obtain ⟨i, D, L, vN, vA, rfl, hi, hB, hRel, hG⟩ := hrel
    have H := hide hB
    have HRel := hide hRel
    have HG := hide hG
    have HGL := hide (hG.other hRel)
    clear hB hRel hG
    by_cases hlt : i < m
    · have z1 : decide (i < m) = true := by simpa using hlt
      have z2 : decide ((i : Int) < (m : Int)) = true := decide_eq_true (by omega)
      have HLT := hide hlt
      have hib : i ≤ 260 := by have := HB.out.1; omega
      go_wp2_with fail
      refine Calls.mono (digits_any i (by have := HB.out.1; omega) _) ?_
      rintro r w4 ⟨s, rfl, hs, hb⟩
      have H4 := hide (H.out.below hb)
      have hsum : ((1 + s.size : Nat) : Int) ≤ 9223372036854775807 := by have := HB.out.1; omega
      have hsum2 : 1 + (s.size : Int) ≤ 9223372036854775807 := by omega
      have HNM := hide (show ((⟨#[102]⟩ : ByteArray) ++ s).size < 9223372036854775807 by
        rw [ByteArray.size_append]
        have := HB.out.1
        have : (⟨#[102]⟩ : ByteArray).size = 1 := rfl
        omega)
      clear hs hb
      have HF := hide (fun nm => fdef_both H4.out HG.out.ch nm ⟨(i : Int), 0, 0, 0, 0, ⟨#[]⟩⟩)
      go_wp2_with fail
      refine Calls.mono (HF.out _ HNM.out HZ0.out) ?_
      rintro r w5 ⟨rfl, hb⟩
      have H5 := hide hb
      have HE := hide (defE_same HG.out.nd HRel.out ((⟨#[102]⟩ : ByteArray) ++ s) ⟨(i : Int), 0, 0, 0, 0, ⟨#[]⟩⟩)
      have HR := hide (rdef_both H5.out HGL.out ((⟨#[102]⟩ : ByteArray) ++ s) ⟨(i : Int), 0, 0, 0, 0, ⟨#[]⟩⟩ HNM.out HZ0.out)
      rw [← HE.out] at HR
      clear hb
      go_wp2_with fail
      refine Calls.mono HR.out ?_
      rintro r w6 ⟨rfl, vN', vA', L', hb, hd⟩
      have H6 := hide hb
      have HRel' := hide (Rel.def HG.out HRel.out hd)
      have HG' := hide (HG.out.defN ((⟨#[102]⟩ : ByteArray) ++ s) ⟨(i : Int), 0, 0, 0, 0, ⟨#[]⟩⟩)
      clear hb hd
      go_wp2
      go_roundw
      case rel => exact ⟨i + 1, _, L', vN', vA', by go_num, HLT.out, H6.out, HRel'.out, HG'.out⟩
      case measure => have := HLT.out; simp [intOf]; omega
    · have z1 : decide (i < m) = false := by simpa using hlt
      have z2 : decide ((i : Int) < (m : Int)) = false := decide_eq_false (by omega)
      go_wp2_with fail
      refine Calls.mono (digits_any kk (by have := HB.out.2; omega) _) ?_
      rintro r w6 ⟨s, rfl, hs, hb⟩
      have B0 := hide ((H.out.below hb).below (Below.refl _ _).drew)
      have hsum : ((1 + s.size : Nat) : Int) ≤ 9223372036854775807 := by have := HB.out.2; omega
      have hsum2 : 1 + (s.size : Int) ≤ 9223372036854775807 := by omega
      obtain ⟨nm, hnm⟩ : ∃ nm, (⟨#[102]⟩ : ByteArray) ++ s = nm := ⟨_, rfl⟩
      have HRel1 := hide (HRel.out.drop HG.out nm)
      have HG1 := hide (HG.out.dropN nm)
      have HD1 := hide (show ∀ (w' : World) (D' : Fm) (vN' vA' : Value), Both w w' fb mb rb vN' vA' D' L → Calls Try.prog 22 #[.pointer (some ⟨rb, 0, none⟩), .string nm] w' fun e w'' => e = .returned (.int .i64 (dropE D nm)) ∧ ∃ vN'' vA'', Both w w'' fb mb rb vN'' vA'' D' (dropN L nm) from fun w' D' vN' vA' hB => by
        rw [dropE_same HG.out.nd HRel.out nm]
        exact rdrop_both hB HGL.out nm)
      have HD2 := hide (show ∀ (w' : World) (D' : Fm) (vN' vA' : Value), Both w w' fb mb rb vN' vA' D' (dropN L nm) → Calls Try.prog 20 #[.pointer (some ⟨rb, 0, none⟩), .string ⟨#[103]⟩, attZero.val] w' fun e w'' => e = .returned (.int .i64 (defE (dropN D nm) ⟨#[103]⟩ attZero)) ∧ ∃ vN'' vA'' L', Both w w'' fb mb rb vN'' vA'' D' L' ∧ RDef (dropN L nm) ⟨#[103]⟩ attZero L' from fun w' D' vN' vA' hB => by
        rw [defE_same HG1.out.nd HRel1.out]
        exact rdef_both hB (HG1.out.other HRel1.out) ⟨#[103]⟩ attZero (by decide) (by decide))
      clear hs hb HRel
      go_wp2_with fail
      refine wp_region_d (S := fun _ => True) (D := []) (by kernel_rfl) ?_
      change wpAnyD _ _ _ _ _ _ _ _ _ w6.drew
      generalize w6.drew = w0 at B0 ⊢
      refine wpAnyD_takeW (i := 0) (oi := { dst := some 45, op := Op.move (Operand.tmp 5), type := 30, pos := "law.go:113", after := #[], guard := none }) (v := ?_) rfl (by kernel_rfl) (by kernel_rfl) (by kernel_rfl) (fun _ _ _ h => h) (Or.inl ⟨by rfl, ?_⟩) ?_
      rotate_left
      · intro w hSw
        clear hSw
        go_simp
        all_goals with_reducible rfl
      simp only [Act.put, List.setIfInBounds_toArray, List.set_cons_zero, List.set_cons_succ]
      refine wpAnyD_takeW (i := 1) (oi := { dst := some 46, op := Op.move (Operand.tmp 9), type := 9, pos := "law.go:113", after := #[], guard := none }) (v := ?_) rfl (by kernel_rfl) (by kernel_rfl) (by kernel_rfl) (fun _ _ _ h => h) (Or.inl ⟨by rfl, ?_⟩) ?_
      rotate_left
      · intro w hSw
        clear hSw
        go_simp
        all_goals with_reducible rfl
      simp only [Act.put, List.setIfInBounds_toArray, List.set_cons_zero, List.set_cons_succ]
      refine wpAnyD_takeW (i := 3) (oi := { dst := some 48, op := Op.move (Operand.tmp 6), type := 32, pos := "law.go:113", after := #[], guard := none }) (v := ?_) rfl (by kernel_rfl) (by kernel_rfl) (by kernel_rfl) (fun _ _ _ h => h) (Or.inl ⟨by rfl, ?_⟩) ?_
      rotate_left
      · intro w hSw
        clear hSw
        go_simp
        all_goals with_reducible rfl
      simp only [Act.put, List.setIfInBounds_toArray, List.set_cons_zero, List.set_cons_succ]
      refine wpAnyD_takeW (i := 4) (oi := { dst := some 49, op := Op.move (Operand.tmp 9), type := 9, pos := "law.go:113", after := #[], guard := none }) (v := ?_) rfl (by kernel_rfl) (by kernel_rfl) (by kernel_rfl) (fun _ _ _ h => h) (Or.inl ⟨by rfl, ?_⟩) ?_
      rotate_left
      · intro w hSw
        clear hSw
        go_simp
        all_goals with_reducible rfl
      simp only [Act.put, List.setIfInBounds_toArray, List.set_cons_zero, List.set_cons_succ]
      refine wpAnyD_one (i := 2) (o := { dst := some 47, op := Op.call { callee := Callee.value (Operand.func 21), args := #[Operand.tmp 45, Operand.tmp 46], argTypes := #[30, 9] }, type := 35, pos := "law.go:113", after := #[{ on := 0, ground := Ground.data }, { on := 1, ground := Ground.data }], guard := none }) (by kernel_rfl) rfl (fun K hK => ?_)
      go_simp
      go_at_call 21
      refine Calls.mono (fdrop_both B0.out HG.out.d nm) ?_
      rintro r w7 ⟨rfl, hb⟩
      have B1 := hide hb
      clear hb
      refine hK _ _ (fun _ _ => trivial) ?_
      clear hK K
      try simp only [Act.put, List.setIfInBounds_toArray, List.set_cons_zero, List.set_cons_succ]
      refine wpAnyD_one (i := 5) (o := { dst := some 50, op := Op.call { callee := Callee.value (Operand.func 22), args := #[Operand.tmp 48, Operand.tmp 49], argTypes := #[32, 9] }, type := 35, pos := "law.go:113", after := #[{ on := 3, ground := Ground.data }, { on := 4, ground := Ground.data }, { on := 2, ground := Ground.chain }], guard := none }) (by kernel_rfl) rfl (fun K hK => ?_)
      go_simp
      go_at_call 22
      refine Calls.mono (HD1.out _ _ _ _ B1.out) ?_
      rintro r w8 ⟨rfl, vN1, vA1, hb⟩
      have B2 := hide hb
      clear hb
      refine hK _ _ (fun _ _ => trivial) ?_
      clear hK K
      try simp only [Act.put, List.setIfInBounds_toArray, List.set_cons_zero, List.set_cons_succ]
      refine wpAnyD_takeW (i := 6) (oi := { dst := some 51, op := Op.binOp BinOp.eql 35 (Operand.tmp 47) (Operand.tmp 50) 35, type := 4, pos := "law.go:113", after := #[{ on := 2, ground := Ground.data }, { on := 5, ground := Ground.data }], guard := none }) (v := ?_) rfl (by kernel_rfl) (by kernel_rfl) (by kernel_rfl) (fun _ _ _ h => h) (Or.inl ⟨by rfl, ?_⟩) ?_
      rotate_left
      · intro w hSw
        clear hSw
        go_simp
        all_goals with_reducible rfl
      simp only [Act.put, List.setIfInBounds_toArray, List.set_cons_zero, List.set_cons_succ]
      refine wpAnyD_takeW (i := 7) (oi := { dst := some 52, op := Op.move (Operand.tmp 51), type := 4, pos := "law.go:113", after := #[{ on := 6, ground := Ground.data }, { on := 5, ground := Ground.chain }], guard := none }) (v := ?_) rfl (by kernel_rfl) (by kernel_rfl) (by kernel_rfl) (fun _ _ _ h => h) (Or.inl ⟨by rfl, ?_⟩) ?_
      rotate_left
      · intro w hSw
        clear hSw
        go_simp
        all_goals with_reducible rfl
      simp only [Act.put, List.setIfInBounds_toArray, List.set_cons_zero, List.set_cons_succ]
      refine wpAnyD_takeW (i := 8) (oi := { dst := some 53, op := Op.move (Operand.tmp 5), type := 30, pos := "law.go:113", after := #[{ on := 7, ground := Ground.guard }], guard := some (7, true) }) (v := ?_) rfl (by kernel_rfl) (by kernel_rfl) (by kernel_rfl) (fun _ _ _ h => h) (Or.inl ⟨by rfl, ?_⟩) ?_
      rotate_left
      · intro w hSw
        clear hSw
        go_simp
        all_goals with_reducible rfl
      simp only [Act.put, List.setIfInBounds_toArray, List.set_cons_zero, List.set_cons_succ]
      refine wpAnyD_takeW (i := 9) (oi := { dst := some 54, op := Op.build 23 #[], type := 23, pos := "law.go:113", after := #[{ on := 7, ground := Ground.guard }], guard := some (7, true) }) (v := ?_) rfl (by kernel_rfl) (by kernel_rfl) (by kernel_rfl) (fun _ _ _ h => h) (Or.inl ⟨by rfl, ?_⟩) ?_
      rotate_left
      · intro w hSw
        clear hSw
        go_simp
        all_goals with_reducible rfl
      simp only [Act.put, List.setIfInBounds_toArray, List.set_cons_zero, List.set_cons_succ]
      refine wpAnyD_takeW (i := 11) (oi := { dst := some 56, op := Op.move (Operand.tmp 6), type := 32, pos := "law.go:113", after := #[{ on := 7, ground := Ground.guard }], guard := some (7, true) }) (v := ?_) rfl (by kernel_rfl) (by kernel_rfl) (by kernel_rfl) (fun _ _ _ h => h) (Or.inl ⟨by rfl, ?_⟩) ?_
      rotate_left
      · intro w hSw
        clear hSw
        go_simp
        all_goals with_reducible rfl
      simp only [Act.put, List.setIfInBounds_toArray, List.set_cons_zero, List.set_cons_succ]
      refine wpAnyD_takeW (i := 12) (oi := { dst := some 57, op := Op.build 23 #[], type := 23, pos := "law.go:113", after := #[{ on := 7, ground := Ground.guard }], guard := some (7, true) }) (v := ?_) rfl (by kernel_rfl) (by kernel_rfl) (by kernel_rfl) (fun _ _ _ h => h) (Or.inl ⟨by rfl, ?_⟩) ?_
      rotate_left
      · intro w hSw
        clear hSw
        go_simp
        all_goals with_reducible rfl
      simp only [Act.put, List.setIfInBounds_toArray, List.set_cons_zero, List.set_cons_succ]
      refine wpAnyD_one (i := 10) (o := { dst := some 55, op := Op.call { callee := Callee.value (Operand.func 19), args := #[Operand.tmp 53, Operand.const (Value.string { data := #[103] }), Operand.tmp 54], argTypes := #[30, 9, 23] }, type := 35, pos := "law.go:113", after := #[{ on := 8, ground := Ground.data }, { on := 9, ground := Ground.data }, { on := 7, ground := Ground.chain }, { on := 7, ground := Ground.guard }], guard := some (7, true) }) (by kernel_rfl) rfl (fun K hK => ?_)
      go_simp
      go_at_call 19
      refine Calls.mono (fdef_both B2.out HG1.out.ch ⟨#[103]⟩ attZero (by decide) (by decide)) ?_
      rintro r w9 ⟨rfl, hb⟩
      have B3 := hide hb
      clear hb
      refine hK _ _ (fun _ _ => trivial) ?_
      clear hK K
      try simp only [Act.put, List.setIfInBounds_toArray, List.set_cons_zero, List.set_cons_succ]
      refine wpAnyD_one (i := 13) (o := { dst := some 58, op := Op.call { callee := Callee.value (Operand.func 20), args := #[Operand.tmp 56, Operand.const (Value.string { data := #[103] }), Operand.tmp 57], argTypes := #[32, 9, 23] }, type := 35, pos := "law.go:113", after := #[{ on := 11, ground := Ground.data }, { on := 12, ground := Ground.data }, { on := 10, ground := Ground.chain }, { on := 7, ground := Ground.guard }], guard := some (7, true) }) (by kernel_rfl) rfl (fun K hK => ?_)
      go_simp
      go_at_call 20
      refine Calls.mono (HD2.out _ _ _ _ B3.out) ?_
      rintro r w10 ⟨rfl, vN2, vA2, L2, hb, hR⟩
      have B4 := hide hb
      have HRel := hide (Rel.def HG1.out HRel1.out hR)
      have HG2 := hide (HG1.out.defN ⟨#[103]⟩ attZero)
      have HNA := hide (names_same HG2.out.nd HRel.out)
      obtain ⟨A2, c2, hv2, _⟩ := id B4.out.rf.slN.form
      rw [List.length_map] at hv2
      subst hv2
      clear hb hR
      refine hK _ _ (fun _ _ => trivial) ?_
      clear hK K
      try simp only [Act.put, List.setIfInBounds_toArray, List.set_cons_zero, List.set_cons_succ]
      refine wpAnyD_takeW (i := 14) (oi := { dst := some 59, op := Op.binOp BinOp.eql 35 (Operand.tmp 55) (Operand.tmp 58) 35, type := 4, pos := "law.go:113", after := #[{ on := 10, ground := Ground.data }, { on := 13, ground := Ground.data }, { on := 7, ground := Ground.guard }], guard := some (7, true) }) (v := ?_) rfl (by kernel_rfl) (by kernel_rfl) (by kernel_rfl) (fun _ _ _ h => h) (Or.inl ⟨by rfl, ?_⟩) ?_
      rotate_left
      · intro w hSw
        clear hSw
        go_simp
        all_goals with_reducible rfl
      simp only [Act.put, List.setIfInBounds_toArray, List.set_cons_zero, List.set_cons_succ]
      refine wpAnyD_takeW (i := 15) (oi := { dst := some 60, op := Op.pick (Operand.tmp 52) (Operand.tmp 59) (Operand.const (Value.bool false)), type := 4, pos := "law.go:113", after := #[{ on := 7, ground := Ground.data }, { on := 14, ground := Ground.data }], guard := none }) (v := ?_) rfl (by kernel_rfl) (by kernel_rfl) (by kernel_rfl) (fun _ _ _ h => h) (Or.inl ⟨by rfl, ?_⟩) ?_
      rotate_left
      · intro w hSw
        clear hSw
        go_simp
        all_goals with_reducible rfl
      simp only [Act.put, List.setIfInBounds_toArray, List.set_cons_zero, List.set_cons_succ]
      refine wpAnyD_takeW (i := 16) (oi := { dst := some 61, op := Op.move (Operand.tmp 60), type := 4, pos := "law.go:113", after := #[{ on := 15, ground := Ground.data }, { on := 13, ground := Ground.chain }], guard := none }) (v := ?_) rfl (by kernel_rfl) (by kernel_rfl) (by kernel_rfl) (fun _ _ _ h => h) (Or.inl ⟨by rfl, ?_⟩) ?_
      rotate_left
      · intro w hSw
        clear hSw
        go_simp
        all_goals with_reducible rfl
      simp only [Act.put, List.setIfInBounds_toArray, List.set_cons_zero, List.set_cons_succ]
      refine wpAnyD_takeW (i := 17) (oi := { dst := some 62, op := Op.move (Operand.tmp 5), type := 30, pos := "law.go:113", after := #[{ on := 16, ground := Ground.guard }], guard := some (16, true) }) (v := ?_) rfl (by kernel_rfl) (by kernel_rfl) (by kernel_rfl) (fun _ _ _ h => h) (Or.inl ⟨by rfl, ?_⟩) ?_
      rotate_left
      · intro w hSw
        clear hSw
        go_simp
        all_goals with_reducible rfl
      simp only [Act.put, List.setIfInBounds_toArray, List.set_cons_zero, List.set_cons_succ]
      refine wpAnyD_takeW (i := 19) (oi := { dst := some 64, op := Op.move (Operand.tmp 6), type := 32, pos := "law.go:113", after := #[{ on := 16, ground := Ground.guard }], guard := some (16, true) }) (v := ?_) rfl (by kernel_rfl) (by kernel_rfl) (by kernel_rfl) (fun _ _ _ h => h) (Or.inl ⟨by rfl, ?_⟩) ?_
      rotate_left
      · intro w hSw
        clear hSw
        go_simp
        all_goals with_reducible rfl
      simp only [Act.put, List.setIfInBounds_toArray, List.set_cons_zero, List.set_cons_succ]
      refine wpAnyD_takeW (i := 20) (oi := { dst := some 65, op := Op.nilCheck (Operand.tmp 64), type := 0, pos := "law.go:113", after := #[{ on := 19, ground := Ground.data }, { on := 16, ground := Ground.guard }], guard := some (16, true) }) (v := ?_) rfl (by kernel_rfl) (by kernel_rfl) (by kernel_rfl) (fun _ _ _ h => h) (Or.inl ⟨by rfl, ?_⟩) ?_
      rotate_left
      · intro w hSw
        clear hSw
        go_simp
        all_goals with_reducible rfl
      simp only [Act.put, List.setIfInBounds_toArray, List.set_cons_zero, List.set_cons_succ]
      refine wpAnyD_takeW (i := 21) (oi := { dst := some 66, op := Op.fieldAddr 43 (Operand.tmp 65) 0, type := 0, pos := "law.go:113", after := #[{ on := 20, ground := Ground.data }, { on := 16, ground := Ground.guard }], guard := some (16, true) }) (v := ?_) rfl (by kernel_rfl) (by kernel_rfl) (by kernel_rfl) (fun _ _ _ h => h) (Or.inl ⟨by rfl, ?_⟩) ?_
      rotate_left
      · intro w hSw
        clear hSw
        go_simp
        all_goals with_reducible rfl
      simp only [Act.put, List.setIfInBounds_toArray, List.set_cons_zero, List.set_cons_succ]
      refine wpAnyD_two (i := 18) (j := 22) (o := { dst := some 63, op := Op.call { callee := Callee.value (Operand.func 24), args := #[Operand.tmp 62], argTypes := #[30] }, type := 39, pos := "law.go:113", after := #[{ on := 17, ground := Ground.data }, { on := 16, ground := Ground.chain }, { on := 16, ground := Ground.guard }], guard := some (16, true) }) (p := { dst := some 67, op := Op.load 39 (Operand.tmp 66), type := 39, pos := "law.go:113", after := #[{ on := 21, ground := Ground.data }, { on := 16, ground := Ground.guard }], guard := some (16, true) }) (by kernel_rfl) rfl rfl (fun K hK => ?_) (fun K hK => ?_)
      · go_simp
        go_at_call 24
        refine Calls.mono (names_any B4.out.fa HG2.out) ?_
        rintro r w11 ⟨v, rfl, hs, _, hb⟩
        have B5 := hide (B4.out.below hb)
        obtain ⟨A3, c3, hv3, _⟩ := id hs.form
        subst hv3
        have HS := hide hs.rd
        clear hs hb
        refine hK _ _ (fun _ _ => trivial) ?_
        clear hK K
        try simp only [Act.put, List.setIfInBounds_toArray, List.set_cons_zero, List.set_cons_succ]
        refine wpAnyD_one (i := 22) (o := { dst := some 67, op := Op.load 39 (Operand.tmp 66), type := 39, pos := "law.go:113", after := #[{ on := 21, ground := Ground.data }, { on := 16, ground := Ground.guard }], guard := some (16, true) }) (by kernel_rfl) rfl (fun K hK => ?_)
        have cN : w11.cell? ⟨rb, 0, none⟩ = some (.slice A2 L2.length c2) := by rw [B5.out.rf.blk.cell]; rfl
        go_simp
        refine hK _ _ (fun _ _ => trivial) ?_
        clear hK K
        try simp only [Act.put, List.setIfInBounds_toArray, List.set_cons_zero, List.set_cons_succ]
        refine wpAnyD_one (i := 23) (o := { dst := some 68, op := Op.call { callee := Callee.value (Operand.func 23), args := #[Operand.tmp 63, Operand.tmp 67], argTypes := #[39, 39] }, type := 4, pos := "law.go:113", after := #[{ on := 18, ground := Ground.data }, { on := 22, ground := Ground.data }, { on := 18, ground := Ground.chain }, { on := 16, ground := Ground.guard }], guard := some (16, true) }) (by kernel_rfl) rfl (fun K hK => ?_)
        go_simp
        go_at_call 23
        refine Calls.mono (names_eq (namesF _) (L2.map (fun x : ByteArray × Att => x.1)) HS.out (by have := B5.out.rf.slN.rd; rwa [List.length_map] at this) (by have := HG2.out.le; rw [namesF_len]; omega) (by have := (HG2.out.other HRel.out).le; omega)) ?_
        rintro r w12 ⟨rfl, q, rfl⟩
        have B6 := hide (B5.out.below (below_later _ q))
        rw [decide_eq_true HNA.out]
        refine hK _ _ (fun _ _ => trivial) ?_
        clear hK K
        try simp only [Act.put, List.setIfInBounds_toArray, List.set_cons_zero, List.set_cons_succ]
        refine wpAnyD_takeW (i := 24) (oi := { dst := some 69, op := Op.pick (Operand.tmp 61) (Operand.tmp 68) (Operand.const (Value.bool false)), type := 4, pos := "law.go:113", after := #[{ on := 16, ground := Ground.data }, { on := 23, ground := Ground.data }], guard := none }) (v := ?_) rfl (by kernel_rfl) (by kernel_rfl) (by kernel_rfl) (fun _ _ _ h => h) (Or.inl ⟨by rfl, ?_⟩) ?_
        rotate_left
        · intro w hSw
          clear hSw
          go_simp
          all_goals with_reducible rfl
        simp only [Act.put, List.setIfInBounds_toArray, List.set_cons_zero, List.set_cons_succ]
        refine wpAnyD_takeW (i := 25) (oi := { dst := some 70, op := Op.move (Operand.tmp 69), type := 4, pos := "law.go:113", after := #[{ on := 24, ground := Ground.data }, { on := 23, ground := Ground.chain }], guard := none }) (v := ?_) rfl (by kernel_rfl) (by kernel_rfl) (by kernel_rfl) (fun _ _ _ h => h) (Or.inl ⟨by rfl, ?_⟩) ?_
        rotate_left
        · intro w hSw
          clear hSw
          go_simp
          all_goals with_reducible rfl
        simp only [Act.put, List.setIfInBounds_toArray, List.set_cons_zero, List.set_cons_succ]
        refine wpAnyD_one (i := 26) (o := { dst := some 71, op := Op.call { callee := Callee.value (Operand.func 15), args := #[], argTypes := #[] }, type := 4, pos := "law.go:113", after := #[{ on := 25, ground := Ground.chain }, { on := 25, ground := Ground.guard }], guard := some (25, true) }) (by kernel_rfl) rfl (fun K hK => ?_)
        go_simp
        go_at_call 15
        refine Calls.mono (awake_any _) ?_
        rintro r w13 ⟨rfl, hb⟩
        have B7 := hide (B6.out.below hb)
        clear hb
        refine hK _ _ (fun _ _ => trivial) ?_
        clear hK K
        try simp only [Act.put, List.setIfInBounds_toArray, List.set_cons_zero, List.set_cons_succ]
        refine wpAnyD_takeW (i := 27) (oi := { dst := some 72, op := Op.pick (Operand.tmp 70) (Operand.tmp 71) (Operand.const (Value.bool false)), type := 4, pos := "law.go:113", after := #[{ on := 25, ground := Ground.data }, { on := 26, ground := Ground.data }], guard := none }) (v := ?_) rfl (by kernel_rfl) (by kernel_rfl) (by kernel_rfl) (fun _ _ _ h => h) (Or.inl ⟨by rfl, ?_⟩) ?_
        rotate_left
        · intro w hSw
          clear hSw
          go_simp
          all_goals with_reducible rfl
        simp only [Act.put, List.setIfInBounds_toArray, List.set_cons_zero, List.set_cons_succ]
        refine wpAnyD_takeW (i := 28) (oi := { dst := some 4, op := Op.assign (Operand.tmp 72), type := 4, pos := "law.go:113", after := #[{ on := 27, ground := Ground.data }, { on := 26, ground := Ground.chain }, { on := 0, ground := Ground.phase }, { on := 1, ground := Ground.phase }, { on := 2, ground := Ground.phase }, { on := 3, ground := Ground.phase }, { on := 4, ground := Ground.phase }, { on := 5, ground := Ground.phase }, { on := 6, ground := Ground.phase }, { on := 7, ground := Ground.phase }, { on := 8, ground := Ground.phase }, { on := 9, ground := Ground.phase }, { on := 10, ground := Ground.phase }, { on := 11, ground := Ground.phase }, { on := 12, ground := Ground.phase }, { on := 13, ground := Ground.phase }, { on := 14, ground := Ground.phase }, { on := 15, ground := Ground.phase }, { on := 16, ground := Ground.phase }, { on := 17, ground := Ground.phase }, { on := 18, ground := Ground.phase }, { on := 19, ground := Ground.phase }, { on := 20, ground := Ground.phase }, { on := 21, ground := Ground.phase }, { on := 22, ground := Ground.phase }, { on := 23, ground := Ground.phase }, { on := 24, ground := Ground.phase }, { on := 25, ground := Ground.phase }, { on := 26, ground := Ground.phase }, { on := 27, ground := Ground.phase }], guard := none }) (v := ?_) rfl (by kernel_rfl) (by kernel_rfl) (by kernel_rfl) (fun _ _ _ h => h) (Or.inl ⟨by rfl, ?_⟩) ?_
        rotate_left
        · intro w hSw
          clear hSw
          go_simp
          all_goals with_reducible rfl
        simp only [Act.put, List.setIfInBounds_toArray, List.set_cons_zero, List.set_cons_succ]
        refine wpAnyD_done (by kernel_rfl) ?_ _
        go_wp2
        go_ret
        exact ⟨rfl, B7.out.fa.bel⟩
      · have cN : w10.cell? ⟨rb, 0, none⟩ = some (.slice A2 L2.length c2) := by rw [B4.out.rf.blk.cell]; rfl
        go_simp
        refine hK _ _ (fun _ _ => trivial) ?_
        clear hK K
        try simp only [Act.put, List.setIfInBounds_toArray, List.set_cons_zero, List.set_cons_succ]
        refine wpAnyD_one (i := 18) (o := { dst := some 63, op := Op.call { callee := Callee.value (Operand.func 24), args := #[Operand.tmp 62], argTypes := #[30] }, type := 39, pos := "law.go:113", after := #[{ on := 17, ground := Ground.data }, { on := 16, ground := Ground.chain }, { on := 16, ground := Ground.guard }], guard := some (16, true) }) (by kernel_rfl) rfl (fun K hK => ?_)
        go_simp
        go_at_call 24
        refine Calls.mono (names_any B4.out.fa HG2.out) ?_
        rintro r w11 ⟨v, rfl, hs, _, hb⟩
        have B5 := hide (B4.out.below hb)
        obtain ⟨A3, c3, hv3, _⟩ := id hs.form
        subst hv3
        have HS := hide hs.rd
        clear hs hb
        refine hK _ _ (fun _ _ => trivial) ?_
        clear hK K
        try simp only [Act.put, List.setIfInBounds_toArray, List.set_cons_zero, List.set_cons_succ]
        refine wpAnyD_one (i := 23) (o := { dst := some 68, op := Op.call { callee := Callee.value (Operand.func 23), args := #[Operand.tmp 63, Operand.tmp 67], argTypes := #[39, 39] }, type := 4, pos := "law.go:113", after := #[{ on := 18, ground := Ground.data }, { on := 22, ground := Ground.data }, { on := 18, ground := Ground.chain }, { on := 16, ground := Ground.guard }], guard := some (16, true) }) (by kernel_rfl) rfl (fun K hK => ?_)
        go_simp
        go_at_call 23
        refine Calls.mono (names_eq (namesF _) (L2.map (fun x : ByteArray × Att => x.1)) HS.out (by have := B5.out.rf.slN.rd; rwa [List.length_map] at this) (by have := HG2.out.le; rw [namesF_len]; omega) (by have := (HG2.out.other HRel.out).le; omega)) ?_
        rintro r w12 ⟨rfl, q, rfl⟩
        have B6 := hide (B5.out.below (below_later _ q))
        rw [decide_eq_true HNA.out]
        refine hK _ _ (fun _ _ => trivial) ?_
        clear hK K
        try simp only [Act.put, List.setIfInBounds_toArray, List.set_cons_zero, List.set_cons_succ]
        refine wpAnyD_takeW (i := 24) (oi := { dst := some 69, op := Op.pick (Operand.tmp 61) (Operand.tmp 68) (Operand.const (Value.bool false)), type := 4, pos := "law.go:113", after := #[{ on := 16, ground := Ground.data }, { on := 23, ground := Ground.data }], guard := none }) (v := ?_) rfl (by kernel_rfl) (by kernel_rfl) (by kernel_rfl) (fun _ _ _ h => h) (Or.inl ⟨by rfl, ?_⟩) ?_
        rotate_left
        · intro w hSw
          clear hSw
          go_simp
          all_goals with_reducible rfl
        simp only [Act.put, List.setIfInBounds_toArray, List.set_cons_zero, List.set_cons_succ]
        refine wpAnyD_takeW (i := 25) (oi := { dst := some 70, op := Op.move (Operand.tmp 69), type := 4, pos := "law.go:113", after := #[{ on := 24, ground := Ground.data }, { on := 23, ground := Ground.chain }], guard := none }) (v := ?_) rfl (by kernel_rfl) (by kernel_rfl) (by kernel_rfl) (fun _ _ _ h => h) (Or.inl ⟨by rfl, ?_⟩) ?_
        rotate_left
        · intro w hSw
          clear hSw
          go_simp
          all_goals with_reducible rfl
        simp only [Act.put, List.setIfInBounds_toArray, List.set_cons_zero, List.set_cons_succ]
        refine wpAnyD_one (i := 26) (o := { dst := some 71, op := Op.call { callee := Callee.value (Operand.func 15), args := #[], argTypes := #[] }, type := 4, pos := "law.go:113", after := #[{ on := 25, ground := Ground.chain }, { on := 25, ground := Ground.guard }], guard := some (25, true) }) (by kernel_rfl) rfl (fun K hK => ?_)
        go_simp
        go_at_call 15
        refine Calls.mono (awake_any _) ?_
        rintro r w13 ⟨rfl, hb⟩
        have B7 := hide (B6.out.below hb)
        clear hb
        refine hK _ _ (fun _ _ => trivial) ?_
        clear hK K
        try simp only [Act.put, List.setIfInBounds_toArray, List.set_cons_zero, List.set_cons_succ]
        refine wpAnyD_takeW (i := 27) (oi := { dst := some 72, op := Op.pick (Operand.tmp 70) (Operand.tmp 71) (Operand.const (Value.bool false)), type := 4, pos := "law.go:113", after := #[{ on := 25, ground := Ground.data }, { on := 26, ground := Ground.data }], guard := none }) (v := ?_) rfl (by kernel_rfl) (by kernel_rfl) (by kernel_rfl) (fun _ _ _ h => h) (Or.inl ⟨by rfl, ?_⟩) ?_
        rotate_left
        · intro w hSw
          clear hSw
          go_simp
          all_goals with_reducible rfl
        simp only [Act.put, List.setIfInBounds_toArray, List.set_cons_zero, List.set_cons_succ]
        refine wpAnyD_takeW (i := 28) (oi := { dst := some 4, op := Op.assign (Operand.tmp 72), type := 4, pos := "law.go:113", after := #[{ on := 27, ground := Ground.data }, { on := 26, ground := Ground.chain }, { on := 0, ground := Ground.phase }, { on := 1, ground := Ground.phase }, { on := 2, ground := Ground.phase }, { on := 3, ground := Ground.phase }, { on := 4, ground := Ground.phase }, { on := 5, ground := Ground.phase }, { on := 6, ground := Ground.phase }, { on := 7, ground := Ground.phase }, { on := 8, ground := Ground.phase }, { on := 9, ground := Ground.phase }, { on := 10, ground := Ground.phase }, { on := 11, ground := Ground.phase }, { on := 12, ground := Ground.phase }, { on := 13, ground := Ground.phase }, { on := 14, ground := Ground.phase }, { on := 15, ground := Ground.phase }, { on := 16, ground := Ground.phase }, { on := 17, ground := Ground.phase }, { on := 18, ground := Ground.phase }, { on := 19, ground := Ground.phase }, { on := 20, ground := Ground.phase }, { on := 21, ground := Ground.phase }, { on := 22, ground := Ground.phase }, { on := 23, ground := Ground.phase }, { on := 24, ground := Ground.phase }, { on := 25, ground := Ground.phase }, { on := 26, ground := Ground.phase }, { on := 27, ground := Ground.phase }], guard := none }) (v := ?_) rfl (by kernel_rfl) (by kernel_rfl) (by kernel_rfl) (fun _ _ _ h => h) (Or.inl ⟨by rfl, ?_⟩) ?_
        rotate_left
        · intro w hSw
          clear hSw
          go_simp
          all_goals with_reducible rfl
        simp only [Act.put, List.setIfInBounds_toArray, List.set_cons_zero, List.set_cons_succ]
        refine wpAnyD_done (by kernel_rfl) ?_ _
        go_wp2
        go_ret
        exact ⟨rfl, B7.out.fa.bel⟩
end Go.Proofs.Ytmjogpacajbngaa
