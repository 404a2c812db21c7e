/- NamesScript: the walk. No condition but those written. -/
import Derived.Test.YtkhjdhoaephdkaaDoorNsj
namespace Go.Proofs.YtkhjdhoaephdkaaDoor
open Go.RowKit

section
variable {W w w' : World} {tb ob : Nat} {A D : List Sym} {O : List RSym} {R : Heap}
theorem tells_duo (h : Duo W w tb A ob O R) (ha : Alike A O) (n key : Int) : Calls Tryd.prog 35 #[.pointer (some ⟨tb, 0, none⟩), .pointer (some ⟨ob, 0, none⟩), .int .i64 n, .int .i64 key] w fun e w' => e = .returned (.bool true) ∧ Below w.heap.size w w' := by
  obtain ⟨F, lv, h1, _, h3, _⟩ := h.both
  exact tells_any ⟨h1, h3⟩ ha n key
theorem many_duo (h : Duo W w tb A ob O R) (ha : Alike A O) : Calls Tryd.prog 13 #[.pointer (some ⟨tb, 0, none⟩)] w fun e w' => e = .returned (.int .i64 (O.length : Int)) ∧ w = w' := by
  obtain ⟨F, lv, h1, _, h3, _⟩ := h.both
  rw [← ha.length]
  exact many_any h1
theorem c0_duo (h : Duo W w tb A ob O R) : ∃ B c, w.cell? ⟨ob, 0, none⟩ = some (.slice B O.length c) := by
  obtain ⟨F, lv, h1, _, h3, _⟩ := h.both
  obtain ⟨B, c, _, hc⟩ := h3.c0
  exact ⟨B, c, hc⟩
end
set_option maxRecDepth 100000 in
set_option maxHeartbeats 32000000 in
theorem script_walk (l : List Ac3) (v : Value) (W : World) (hT : Tabs W) (hr : Rd W v 6 l.length (rows Ac3.cells l)) (hm : l.length ≤ maxLen) :
    Calls Tryd.prog 8 #[v] W fun e w' => e = .returned (.bool true) ∧ Below W.heap.size W w' := by
  have HT := hide hT
  have HR := hide hr
  have HM := hide hm
  have HL := hide (lives_any W hT)
  clear hT hr hm
  go_enter Tryd.func8, Tryd.ntmps8
  go_wp2_with fail
  refine (Calls.mono (HL.out)) ?_
  rintro r w1 ⟨rfl, b1⟩
  have HB1 := hide b1
  clear b1 HL
  go_wp2_with fail
  refine (light3_any l v w1 (HR.out.only (Only.of_below HB1.out) fun _ _ f => f) HM.out).mono ?_
  rintro e w2 ⟨rfl, rfl⟩
  cases hlight : light3 l with
  | false =>
    go_wp2
    go_ret
    exact ⟨rfl, HB1.out⟩
  | true =>
    have HLI := hide (light3_iff.1 hlight)
    clear hlight
    obtain ⟨B, cp, rfl, -, -⟩ := id HR.out
    obtain ⟨N, hN⟩ : ∃ N, N = l.length := ⟨_, rfl⟩
    rw [← hN] at HR ⊢
    have hN60 : N ≤ 60 := by rw [hN]; exact HLI.out.2
    have HNN := hide hN
    clear hN HM
    go_wp2_with fail
    refine (new_any w1).mono ?_
    rintro e w3 ⟨tb, rfl, ht, b3⟩
    have HD := hide (duo_new (W := W) (f := 33) (args := #[]) (O := rFixed) ht (fun k hk => Nat.le_trans HB1.out.size hk.1) (HB1.out.trans (b3.mono HB1.out.size)) fun R' h1 => rnew_any h1)
    clear ht b3
    go_wp2_with fail
    refine Calls.mono HD.out ?_
    rintro e w4 ⟨ob, rfl, h4⟩
    have H4 := hide h4
    clear h4 HD
    go_wp2
    go_loopw [5] (fun i wr => ∃ (q : Nat) (A : List Sym) (O : List RSym), q ≤ N ∧ i = .int .i64 (q : Int) ∧ Alike A O ∧ Duo W wr tb A ob O []) (fun i _ => N - (intOf i).toNat)
    case atStart => exact ⟨0, _, _, Nat.zero_le _, rfl, alike_fixed, H4.out⟩
    case round =>
      clear H4
      obtain ⟨q, A, O, hq, rfl, hal, hd⟩ := hrel
      have HAL := hide hal
      have HDU := hide hd
      clear hal hd
      by_cases hlt : q < N
      · have y1 : decide (q < N) = true := by simpa using hlt
        have y2 : decide ((q : Int) < (N : Int)) = true := by simp; omega
        obtain ⟨a, hx⟩ : ∃ a, l[q]? = some a := ⟨_, List.getElem?_eq_getElem (by rw [← HNN.out]; exact hlt)⟩
        obtain ⟨g, off, rfl⟩ : ∃ g off, B = some ⟨g, off, none⟩ := by
          obtain ⟨A', c', e, _, h2⟩ := HR.out
          injection e with e _ _
          obtain ⟨g2, o2, e2, _⟩ := h2 (by omega)
          exact ⟨g2, o2, e.trans e2⟩
        have HARG := hide (fun w' (hb : Below W.heap.size W w') => (show w'.cell? ⟨g, off + q * 6, none⟩ = some (.int .i64 a.kd) ∧ w'.cell? ⟨g, off + q * 6 + 1, none⟩ = some (.int .i64 a.n) ∧ w'.cell? ⟨g, off + q * 6 + 2, none⟩ = some (.int .i64 a.key) ∧ w'.cell? ⟨g, off + q * 6 + 3, none⟩ = some (.string a.s) ∧ w'.cell? ⟨g, off + q * 6 + 4, none⟩ = some (.int .i64 a.wk) ∧ w'.cell? ⟨g, off + q * 6 + 5, none⟩ = some (.int .i64 a.wn) from by
          have h1 : Rd w' (.slice (some ⟨g, off, none⟩) N cp) 6 N (rows Ac3.cells l) := by exact HR.out.only (Only.of_below hb) fun _ _ f => f
          rw [HNN.out] at h1
          obtain ⟨g', off', c', hv', hc⟩ := h1.fld ac3_len (by rw [← HNN.out]; omega)
          injection hv' with e1 _ _
          injection e1 with e1
          injection e1 with e1 e2
          subst e1 e2
          exact ⟨hc q a 0 _ hx rfl, hc q a 1 _ hx rfl, hc q a 2 _ hx rfl, hc q a 3 _ hx rfl, hc q a 4 _ hx rfl, hc q a 5 _ hx rfl⟩))
        have HDO := hide (fun w' (hh : Duo W w' tb A ob O []) => do_any hh HAL.out HT.out a (by have := HLI.out.1 a (List.mem_of_getElem? hx); omega))
        have HLT := hide hlt
        have q0 : (0 : Int) ≤ (q : Int) := by omega
        have q1 : (q : Int) < (N : Int) := by omega
        have wrq : IntKind.i64.wrap ((q : Int) + 1) = (q : Int) + 1 := IntWalk.i64_in _ (by omega)
        clear hx hlt
        go_upto_region 9 with fail
        obtain ⟨w5, rfl⟩ : ∃ w : World, w = wr := ⟨_, rfl⟩
        have H5 := hide (HDU.out.below (Below.refl _ _).drew)
        clear HDU
        refine wp_region_d (S := fun w' => w'.cell? ⟨g, off + q * 6, none⟩ = some (.int .i64 a.kd) ∧ w'.cell? ⟨g, off + q * 6 + 1, none⟩ = some (.int .i64 a.n) ∧ w'.cell? ⟨g, off + q * 6 + 2, none⟩ = some (.int .i64 a.key) ∧ w'.cell? ⟨g, off + q * 6 + 3, none⟩ = some (.string a.s) ∧ w'.cell? ⟨g, off + q * 6 + 4, none⟩ = some (.int .i64 a.wk) ∧ w'.cell? ⟨g, off + q * 6 + 5, none⟩ = some (.int .i64 a.wn)) (D := []) (by kernel_rfl) ?_
        change wpAnyD _ _ _ _ _ _ _ _ _ w5.drew
        generalize w5.drew = w0 at H5 ⊢
        have hS := HARG.out _ H5.out.bel
        refine wpAnyD_takeW (i := 0) (oi := { dst := some 21, op := Op.move (Operand.tmp 3), type := 24, pos := "law.go:108", after := #[], guard := none }) (v := ?_) rfl (by kernel_rfl) (by kernel_rfl) (by kernel_rfl) (fun _ _ _ h => h) (Or.inl ⟨by rfl, ?_⟩) ?_
        rotate_left
        · intro w hSw
          clear hSw
          go_simp
          all_goals with_reducible rfl
        simp only [Act.put, List.setIfInBounds_toArray, List.set_cons_zero, List.set_cons_succ]
        refine wpAnyD_takeW (i := 1) (oi := { dst := some 22, op := Op.move (Operand.tmp 4), type := 62, pos := "law.go:108", after := #[], guard := none }) (v := ?_) rfl (by kernel_rfl) (by kernel_rfl) (by kernel_rfl) (fun _ _ _ h => h) (Or.inl ⟨by rfl, ?_⟩) ?_
        rotate_left
        · intro w hSw
          clear hSw
          go_simp
          all_goals with_reducible rfl
        simp only [Act.put, List.setIfInBounds_toArray, List.set_cons_zero, List.set_cons_succ]
        refine wpAnyD_takeW (i := 2) (oi := { dst := some 23, op := Op.move (Operand.tmp 0), type := 60, pos := "law.go:108", after := #[], guard := none }) (v := ?_) rfl (by kernel_rfl) (by kernel_rfl) (by kernel_rfl) (fun _ _ _ h => h) (Or.inl ⟨by rfl, ?_⟩) ?_
        rotate_left
        · intro w hSw
          clear hSw
          go_simp
          all_goals with_reducible rfl
        simp only [Act.put, List.setIfInBounds_toArray, List.set_cons_zero, List.set_cons_succ]
        refine wpAnyD_takeW (i := 3) (oi := { dst := some 24, op := Op.move (Operand.tmp 5), type := 3, pos := "law.go:108", after := #[], guard := none }) (v := ?_) rfl (by kernel_rfl) (by kernel_rfl) (by kernel_rfl) (fun _ _ _ h => h) (Or.inl ⟨by rfl, ?_⟩) ?_
        rotate_left
        · intro w hSw
          clear hSw
          go_simp
          all_goals with_reducible rfl
        simp only [Act.put, List.setIfInBounds_toArray, List.set_cons_zero, List.set_cons_succ]
        refine wpAnyD_takeW (i := 4) (oi := { dst := some 25, op := Op.indexAddr 60 (Operand.tmp 23) (Operand.tmp 24), type := 0, pos := "law.go:108", after := #[{ on := 2, ground := Ground.data }, { on := 3, ground := Ground.data }], guard := none }) (v := ?_) rfl (by kernel_rfl) (by kernel_rfl) (by kernel_rfl) (fun _ _ _ h => h) (Or.inl ⟨by rfl, ?_⟩) ?_
        rotate_left
        · intro w hSw
          clear hSw
          go_simp
          all_goals with_reducible rfl
        simp only [Act.put, List.setIfInBounds_toArray, List.set_cons_zero, List.set_cons_succ]
        refine wpAnyD_take (i := 5) (oi := { dst := some 26, op := Op.load 66 (Operand.tmp 25), type := 66, pos := "law.go:108", after := #[{ on := 4, ground := Ground.data }], guard := none }) (v := ?_) rfl (by kernel_rfl) (by kernel_rfl) (by kernel_rfl) (by kernel_rfl) (by kernel_rfl) (fun _ _ _ h => h) (Or.inl ⟨by rfl, ?_⟩) hS ?_
        rotate_left
        · intro w hSw
          obtain ⟨s0, s1, s2, s3, s4, s5⟩ := hSw
          go_simp
          all_goals with_reducible rfl
        simp only [Act.put, List.setIfInBounds_toArray, List.set_cons_zero, List.set_cons_succ]
        clear hS
        refine wpAnyD_one (i := 6) (o := { dst := some 27, op := Op.call { callee := Callee.value (Operand.func 34), args := #[Operand.tmp 21, Operand.tmp 22, Operand.tmp 26], argTypes := #[24, 62, 66] }, type := 4, pos := "law.go:108", after := #[{ on := 0, ground := Ground.data }, { on := 1, ground := Ground.data }, { on := 5, ground := Ground.data }], guard := none }) (by kernel_rfl) rfl (fun K hK => ?_)
        go_simp
        go_at_call 34
        refine Calls.mono (HDO.out _ H5.out) ?_
        rintro r w6 ⟨rfl, A2, O2, ha2, h6⟩
        have HA2 := hide ha2
        have H6 := hide h6
        clear h6 ha2
        refine hK _ _ (fun _ _ => HARG.out _ H6.out.bel) ?_
        clear hK K
        try simp only [Act.put, List.setIfInBounds_toArray, List.set_cons_zero, List.set_cons_succ]
        have hS := HARG.out _ H6.out.bel
        refine wpAnyD_takeW (i := 7) (oi := { dst := some 28, op := Op.unOp UnOp.not 4 (Operand.tmp 27), type := 4, pos := "law.go:108", after := #[{ on := 6, ground := Ground.data }], guard := none }) (v := ?_) rfl (by kernel_rfl) (by kernel_rfl) (by kernel_rfl) (fun _ _ _ h => h) (Or.inl ⟨by rfl, ?_⟩) ?_
        rotate_left
        · intro w hSw
          clear hSw
          go_simp
          all_goals with_reducible rfl
        simp only [Act.put, List.setIfInBounds_toArray, List.set_cons_zero, List.set_cons_succ]
        refine wpAnyD_takeW (i := 8) (oi := { dst := some 29, op := Op.move (Operand.tmp 28), type := 4, pos := "law.go:108", after := #[{ on := 7, ground := Ground.data }, { on := 6, ground := Ground.chain }], guard := none }) (v := ?_) rfl (by kernel_rfl) (by kernel_rfl) (by kernel_rfl) (fun _ _ _ h => h) (Or.inl ⟨by rfl, ?_⟩) ?_
        rotate_left
        · intro w hSw
          clear hSw
          go_simp
          all_goals with_reducible rfl
        simp only [Act.put, List.setIfInBounds_toArray, List.set_cons_zero, List.set_cons_succ]
        refine wpAnyD_takeW (i := 9) (oi := { dst := some 30, op := Op.move (Operand.tmp 3), type := 24, pos := "law.go:108", after := #[{ on := 8, ground := Ground.guard }], guard := some (8, false) }) (v := ?_) rfl (by kernel_rfl) (by kernel_rfl) (by kernel_rfl) (fun _ _ _ h => h) (Or.inl ⟨by rfl, ?_⟩) ?_
        rotate_left
        · intro w hSw
          clear hSw
          go_simp
          all_goals with_reducible rfl
        simp only [Act.put, List.setIfInBounds_toArray, List.set_cons_zero, List.set_cons_succ]
        refine wpAnyD_takeW (i := 10) (oi := { dst := some 31, op := Op.move (Operand.tmp 4), type := 62, pos := "law.go:108", after := #[{ on := 8, ground := Ground.guard }], guard := some (8, false) }) (v := ?_) rfl (by kernel_rfl) (by kernel_rfl) (by kernel_rfl) (fun _ _ _ h => h) (Or.inl ⟨by rfl, ?_⟩) ?_
        rotate_left
        · intro w hSw
          clear hSw
          go_simp
          all_goals with_reducible rfl
        simp only [Act.put, List.setIfInBounds_toArray, List.set_cons_zero, List.set_cons_succ]
        refine wpAnyD_takeW (i := 11) (oi := { dst := some 32, op := Op.move (Operand.tmp 0), type := 60, pos := "law.go:108", after := #[{ on := 8, ground := Ground.guard }], guard := some (8, false) }) (v := ?_) rfl (by kernel_rfl) (by kernel_rfl) (by kernel_rfl) (fun _ _ _ h => h) (Or.inl ⟨by rfl, ?_⟩) ?_
        rotate_left
        · intro w hSw
          clear hSw
          go_simp
          all_goals with_reducible rfl
        simp only [Act.put, List.setIfInBounds_toArray, List.set_cons_zero, List.set_cons_succ]
        refine wpAnyD_takeW (i := 12) (oi := { dst := some 33, op := Op.move (Operand.tmp 5), type := 3, pos := "law.go:108", after := #[{ on := 8, ground := Ground.guard }], guard := some (8, false) }) (v := ?_) rfl (by kernel_rfl) (by kernel_rfl) (by kernel_rfl) (fun _ _ _ h => h) (Or.inl ⟨by rfl, ?_⟩) ?_
        rotate_left
        · intro w hSw
          clear hSw
          go_simp
          all_goals with_reducible rfl
        simp only [Act.put, List.setIfInBounds_toArray, List.set_cons_zero, List.set_cons_succ]
        refine wpAnyD_takeW (i := 13) (oi := { dst := some 34, op := Op.indexAddr 60 (Operand.tmp 32) (Operand.tmp 33), type := 0, pos := "law.go:108", after := #[{ on := 11, ground := Ground.data }, { on := 12, ground := Ground.data }, { on := 8, ground := Ground.guard }], guard := some (8, false) }) (v := ?_) rfl (by kernel_rfl) (by kernel_rfl) (by kernel_rfl) (fun _ _ _ h => h) (Or.inl ⟨by rfl, ?_⟩) ?_
        rotate_left
        · intro w hSw
          clear hSw
          go_simp
          all_goals with_reducible rfl
        simp only [Act.put, List.setIfInBounds_toArray, List.set_cons_zero, List.set_cons_succ]
        refine wpAnyD_takeW (i := 14) (oi := { dst := some 35, op := Op.fieldAddr 66 (Operand.tmp 34) 1, type := 0, pos := "law.go:108", after := #[{ on := 13, ground := Ground.data }, { on := 8, ground := Ground.guard }], guard := some (8, false) }) (v := ?_) rfl (by kernel_rfl) (by kernel_rfl) (by kernel_rfl) (fun _ _ _ h => h) (Or.inl ⟨by rfl, ?_⟩) ?_
        rotate_left
        · intro w hSw
          clear hSw
          go_simp
          all_goals with_reducible rfl
        simp only [Act.put, List.setIfInBounds_toArray, List.set_cons_zero, List.set_cons_succ]
        refine wpAnyD_take (i := 15) (oi := { dst := some 36, op := Op.load 3 (Operand.tmp 35), type := 3, pos := "law.go:108", after := #[{ on := 14, ground := Ground.data }, { on := 8, ground := Ground.guard }], guard := some (8, false) }) (v := ?_) rfl (by kernel_rfl) (by kernel_rfl) (by kernel_rfl) (by kernel_rfl) (by kernel_rfl) (fun _ _ _ h => h) (Or.inl ⟨by rfl, ?_⟩) hS ?_
        rotate_left
        · intro w hSw
          obtain ⟨s0, s1, s2, s3, s4, s5⟩ := hSw
          go_simp
          all_goals with_reducible rfl
        simp only [Act.put, List.setIfInBounds_toArray, List.set_cons_zero, List.set_cons_succ]
        refine wpAnyD_takeW (i := 16) (oi := { dst := some 37, op := Op.move (Operand.tmp 0), type := 60, pos := "law.go:108", after := #[{ on := 8, ground := Ground.guard }], guard := some (8, false) }) (v := ?_) rfl (by kernel_rfl) (by kernel_rfl) (by kernel_rfl) (fun _ _ _ h => h) (Or.inl ⟨by rfl, ?_⟩) ?_
        rotate_left
        · intro w hSw
          clear hSw
          go_simp
          all_goals with_reducible rfl
        simp only [Act.put, List.setIfInBounds_toArray, List.set_cons_zero, List.set_cons_succ]
        refine wpAnyD_takeW (i := 17) (oi := { dst := some 38, op := Op.move (Operand.tmp 5), type := 3, pos := "law.go:108", after := #[{ on := 8, ground := Ground.guard }], guard := some (8, false) }) (v := ?_) rfl (by kernel_rfl) (by kernel_rfl) (by kernel_rfl) (fun _ _ _ h => h) (Or.inl ⟨by rfl, ?_⟩) ?_
        rotate_left
        · intro w hSw
          clear hSw
          go_simp
          all_goals with_reducible rfl
        simp only [Act.put, List.setIfInBounds_toArray, List.set_cons_zero, List.set_cons_succ]
        refine wpAnyD_takeW (i := 18) (oi := { dst := some 39, op := Op.indexAddr 60 (Operand.tmp 37) (Operand.tmp 38), type := 0, pos := "law.go:108", after := #[{ on := 16, ground := Ground.data }, { on := 17, ground := Ground.data }, { on := 8, ground := Ground.guard }], guard := some (8, false) }) (v := ?_) rfl (by kernel_rfl) (by kernel_rfl) (by kernel_rfl) (fun _ _ _ h => h) (Or.inl ⟨by rfl, ?_⟩) ?_
        rotate_left
        · intro w hSw
          clear hSw
          go_simp
          all_goals with_reducible rfl
        simp only [Act.put, List.setIfInBounds_toArray, List.set_cons_zero, List.set_cons_succ]
        refine wpAnyD_takeW (i := 19) (oi := { dst := some 40, op := Op.fieldAddr 66 (Operand.tmp 39) 2, type := 0, pos := "law.go:108", after := #[{ on := 18, ground := Ground.data }, { on := 8, ground := Ground.guard }], guard := some (8, false) }) (v := ?_) rfl (by kernel_rfl) (by kernel_rfl) (by kernel_rfl) (fun _ _ _ h => h) (Or.inl ⟨by rfl, ?_⟩) ?_
        rotate_left
        · intro w hSw
          clear hSw
          go_simp
          all_goals with_reducible rfl
        simp only [Act.put, List.setIfInBounds_toArray, List.set_cons_zero, List.set_cons_succ]
        refine wpAnyD_take (i := 20) (oi := { dst := some 41, op := Op.load 3 (Operand.tmp 40), type := 3, pos := "law.go:108", after := #[{ on := 19, ground := Ground.data }, { on := 8, ground := Ground.guard }], guard := some (8, false) }) (v := ?_) rfl (by kernel_rfl) (by kernel_rfl) (by kernel_rfl) (by kernel_rfl) (by kernel_rfl) (fun _ _ _ h => h) (Or.inl ⟨by rfl, ?_⟩) hS ?_
        rotate_left
        · intro w hSw
          obtain ⟨s0, s1, s2, s3, s4, s5⟩ := hSw
          go_simp
          all_goals with_reducible rfl
        simp only [Act.put, List.setIfInBounds_toArray, List.set_cons_zero, List.set_cons_succ]
        clear hS
        have HTL := hide (tells_duo H6.out HA2.out a.n a.key)
        refine wpAnyD_one (i := 21) (o := { dst := some 42, op := Op.call { callee := Callee.value (Operand.func 35), args := #[Operand.tmp 30, Operand.tmp 31, Operand.tmp 36, Operand.tmp 41], argTypes := #[24, 62, 3, 3] }, type := 4, pos := "law.go:108", after := #[{ on := 9, ground := Ground.data }, { on := 10, ground := Ground.data }, { on := 15, ground := Ground.data }, { on := 20, ground := Ground.data }, { on := 8, ground := Ground.chain }, { on := 8, ground := Ground.guard }], guard := some (8, false) }) (by kernel_rfl) rfl (fun K hK => ?_)
        go_simp
        go_at_call 35
        refine Calls.mono (HTL.out) ?_
        rintro r w7 ⟨rfl, b7⟩
        have H7 := hide (H6.out.below b7)
        clear b7 HTL
        refine hK _ _ (fun _ _ => HARG.out _ H7.out.bel) ?_
        clear hK K
        try simp only [Act.put, List.setIfInBounds_toArray, List.set_cons_zero, List.set_cons_succ]
        refine wpAnyD_takeW (i := 22) (oi := { dst := some 43, op := Op.unOp UnOp.not 4 (Operand.tmp 42), type := 4, pos := "law.go:108", after := #[{ on := 21, ground := Ground.data }, { on := 8, ground := Ground.guard }], guard := some (8, false) }) (v := ?_) rfl (by kernel_rfl) (by kernel_rfl) (by kernel_rfl) (fun _ _ _ h => h) (Or.inl ⟨by rfl, ?_⟩) ?_
        rotate_left
        · intro w hSw
          clear hSw
          go_simp
          all_goals with_reducible rfl
        simp only [Act.put, List.setIfInBounds_toArray, List.set_cons_zero, List.set_cons_succ]
        refine wpAnyD_takeW (i := 23) (oi := { dst := some 44, op := Op.pick (Operand.tmp 29) (Operand.const (Value.bool true)) (Operand.tmp 43), type := 4, pos := "law.go:108", after := #[{ on := 8, ground := Ground.data }, { on := 22, ground := Ground.data }], guard := none }) (v := ?_) rfl (by kernel_rfl) (by kernel_rfl) (by kernel_rfl) (fun _ _ _ h => h) (Or.inl ⟨by rfl, ?_⟩) ?_
        rotate_left
        · intro w hSw
          clear hSw
          go_simp
          all_goals with_reducible rfl
        simp only [Act.put, List.setIfInBounds_toArray, List.set_cons_zero, List.set_cons_succ]
        refine wpAnyD_takeW (i := 24) (oi := { dst := some 45, op := Op.move (Operand.tmp 44), type := 4, pos := "law.go:108", after := #[{ on := 23, ground := Ground.data }, { on := 21, ground := Ground.chain }], guard := none }) (v := ?_) rfl (by kernel_rfl) (by kernel_rfl) (by kernel_rfl) (fun _ _ _ h => h) (Or.inl ⟨by rfl, ?_⟩) ?_
        rotate_left
        · intro w hSw
          clear hSw
          go_simp
          all_goals with_reducible rfl
        simp only [Act.put, List.setIfInBounds_toArray, List.set_cons_zero, List.set_cons_succ]
        refine wpAnyD_takeW (i := 25) (oi := { dst := some 46, op := Op.move (Operand.tmp 3), type := 24, pos := "law.go:108", after := #[{ on := 24, ground := Ground.guard }], guard := some (24, false) }) (v := ?_) rfl (by kernel_rfl) (by kernel_rfl) (by kernel_rfl) (fun _ _ _ h => h) (Or.inl ⟨by rfl, ?_⟩) ?_
        rotate_left
        · intro w hSw
          clear hSw
          go_simp
          all_goals with_reducible rfl
        simp only [Act.put, List.setIfInBounds_toArray, List.set_cons_zero, List.set_cons_succ]
        refine wpAnyD_takeW (i := 27) (oi := { dst := some 48, op := Op.move (Operand.tmp 4), type := 62, pos := "law.go:108", after := #[{ on := 24, ground := Ground.guard }], guard := some (24, false) }) (v := ?_) rfl (by kernel_rfl) (by kernel_rfl) (by kernel_rfl) (fun _ _ _ h => h) (Or.inl ⟨by rfl, ?_⟩) ?_
        rotate_left
        · intro w hSw
          clear hSw
          go_simp
          all_goals with_reducible rfl
        simp only [Act.put, List.setIfInBounds_toArray, List.set_cons_zero, List.set_cons_succ]
        refine wpAnyD_takeW (i := 28) (oi := { dst := some 49, op := Op.nilCheck (Operand.tmp 48), type := 0, pos := "law.go:108", after := #[{ on := 27, ground := Ground.data }, { on := 24, ground := Ground.guard }], guard := some (24, false) }) (v := ?_) rfl (by kernel_rfl) (by kernel_rfl) (by kernel_rfl) (fun _ _ _ h => h) (Or.inl ⟨by rfl, ?_⟩) ?_
        rotate_left
        · intro w hSw
          clear hSw
          go_simp
          all_goals with_reducible rfl
        simp only [Act.put, List.setIfInBounds_toArray, List.set_cons_zero, List.set_cons_succ]
        refine wpAnyD_takeW (i := 29) (oi := { dst := some 50, op := Op.fieldAddr 70 (Operand.tmp 49) 0, type := 0, pos := "law.go:108", after := #[{ on := 28, ground := Ground.data }, { on := 24, ground := Ground.guard }], guard := some (24, false) }) (v := ?_) rfl (by kernel_rfl) (by kernel_rfl) (by kernel_rfl) (fun _ _ _ h => h) (Or.inl ⟨by rfl, ?_⟩) ?_
        rotate_left
        · intro w hSw
          clear hSw
          go_simp
          all_goals with_reducible rfl
        simp only [Act.put, List.setIfInBounds_toArray, List.set_cons_zero, List.set_cons_succ]
        have HMN := hide (many_duo H7.out HA2.out)
        obtain ⟨A7, c7, hc7⟩ := c0_duo H7.out
        obtain ⟨n7, hn7⟩ : ∃ n7, n7 = O2.length := ⟨_, rfl⟩
        rw [← hn7] at hc7 HMN
        have HN7 := hide hn7
        clear hn7
        refine wpAnyD_two (i := 26) (j := 30) (o := { dst := some 47, op := Op.call { callee := Callee.value (Operand.func 13), args := #[Operand.tmp 46], argTypes := #[24] }, type := 3, pos := "law.go:108", after := #[{ on := 25, ground := Ground.data }, { on := 24, ground := Ground.chain }, { on := 24, ground := Ground.guard }], guard := some (24, false) }) (p := { dst := some 51, op := Op.load 68 (Operand.tmp 50), type := 68, pos := "law.go:108", after := #[{ on := 29, ground := Ground.data }, { on := 24, ground := Ground.guard }], guard := some (24, false) }) (by kernel_rfl) rfl rfl (fun K hK => ?_) (fun K hK => ?_)
        · go_simp
          go_at_call 13
          refine Calls.mono HMN.out ?_
          rintro r w8 ⟨rfl, rfl⟩
          refine hK _ _ (fun _ h => h) ?_
          clear hK K
          try simp only [Act.put, List.setIfInBounds_toArray, List.set_cons_zero, List.set_cons_succ]
          refine wpAnyD_one (i := 30) (o := { dst := some 51, op := Op.load 68 (Operand.tmp 50), type := 68, pos := "law.go:108", after := #[{ on := 29, ground := Ground.data }, { on := 24, ground := Ground.guard }], guard := some (24, false) }) (by kernel_rfl) rfl (fun K hK => ?_)
          go_simp
          refine hK _ _ (fun _ h => h) ?_
          clear hK K
          try simp only [Act.put, List.setIfInBounds_toArray, List.set_cons_zero, List.set_cons_succ]
          refine wpAnyD_takeW (i := 31) (oi := { dst := some 52, op := Op.call { callee := Callee.builtin Builtin.len, args := #[Operand.tmp 51], argTypes := #[68] }, type := 3, pos := "law.go:108", after := #[{ on := 30, ground := Ground.data }, { on := 24, ground := Ground.guard }], guard := some (24, false) }) (v := ?_) rfl (by kernel_rfl) (by kernel_rfl) (by kernel_rfl) (fun _ _ _ h => h) (Or.inl ⟨by rfl, ?_⟩) ?_
          rotate_left
          · intro w hSw
            clear hSw
            go_simp
            all_goals with_reducible rfl
          simp only [Act.put, List.setIfInBounds_toArray, List.set_cons_zero, List.set_cons_succ]
          refine wpAnyD_takeW (i := 32) (oi := { dst := some 53, op := Op.binOp BinOp.neq 3 (Operand.tmp 47) (Operand.tmp 52) 3, type := 4, pos := "law.go:108", after := #[{ on := 26, ground := Ground.data }, { on := 31, ground := Ground.data }, { on := 24, ground := Ground.guard }], guard := some (24, false) }) (v := ?_) rfl (by kernel_rfl) (by kernel_rfl) (by kernel_rfl) (fun _ _ _ h => h) (Or.inl ⟨by rfl, ?_⟩) ?_
          rotate_left
          · intro w hSw
            clear hSw
            go_simp
            all_goals with_reducible rfl
          simp only [Act.put, List.setIfInBounds_toArray, List.set_cons_zero, List.set_cons_succ]
          refine wpAnyD_takeW (i := 33) (oi := { dst := some 54, op := Op.pick (Operand.tmp 45) (Operand.const (Value.bool true)) (Operand.tmp 53), type := 4, pos := "law.go:108", after := #[{ on := 24, ground := Ground.data }, { on := 32, ground := Ground.data }], guard := none }) (v := ?_) rfl (by kernel_rfl) (by kernel_rfl) (by kernel_rfl) (fun _ _ _ h => h) (Or.inl ⟨by rfl, ?_⟩) ?_
          rotate_left
          · intro w hSw
            clear hSw
            go_simp
            all_goals with_reducible rfl
          simp only [Act.put, List.setIfInBounds_toArray, List.set_cons_zero, List.set_cons_succ]
          refine wpAnyD_done (by kernel_rfl) ?_ _
          go_wp2
          go_roundw
          case rel => exact ⟨q + 1, A2, O2, HLT.out, by go_num, HA2.out, H7.out⟩
          case measure => have := HLT.out; simp [intOf]; omega
        · go_simp
          refine hK _ _ (fun _ h => h) ?_
          clear hK K
          try simp only [Act.put, List.setIfInBounds_toArray, List.set_cons_zero, List.set_cons_succ]
          refine wpAnyD_takeW (i := 31) (oi := { dst := some 52, op := Op.call { callee := Callee.builtin Builtin.len, args := #[Operand.tmp 51], argTypes := #[68] }, type := 3, pos := "law.go:108", after := #[{ on := 30, ground := Ground.data }, { on := 24, ground := Ground.guard }], guard := some (24, false) }) (v := ?_) rfl (by kernel_rfl) (by kernel_rfl) (by kernel_rfl) (fun _ _ _ h => h) (Or.inl ⟨by rfl, ?_⟩) ?_
          rotate_left
          · intro w hSw
            clear hSw
            go_simp
            all_goals with_reducible rfl
          simp only [Act.put, List.setIfInBounds_toArray, List.set_cons_zero, List.set_cons_succ]
          refine wpAnyD_one (i := 26) (o := { dst := some 47, op := Op.call { callee := Callee.value (Operand.func 13), args := #[Operand.tmp 46], argTypes := #[24] }, type := 3, pos := "law.go:108", after := #[{ on := 25, ground := Ground.data }, { on := 24, ground := Ground.chain }, { on := 24, ground := Ground.guard }], guard := some (24, false) }) (by kernel_rfl) rfl (fun K hK => ?_)
          go_simp
          go_at_call 13
          refine Calls.mono HMN.out ?_
          rintro r w8 ⟨rfl, rfl⟩
          refine hK _ _ (fun _ h => h) ?_
          clear hK K
          try simp only [Act.put, List.setIfInBounds_toArray, List.set_cons_zero, List.set_cons_succ]
          refine wpAnyD_takeW (i := 32) (oi := { dst := some 53, op := Op.binOp BinOp.neq 3 (Operand.tmp 47) (Operand.tmp 52) 3, type := 4, pos := "law.go:108", after := #[{ on := 26, ground := Ground.data }, { on := 31, ground := Ground.data }, { on := 24, ground := Ground.guard }], guard := some (24, false) }) (v := ?_) rfl (by kernel_rfl) (by kernel_rfl) (by kernel_rfl) (fun _ _ _ h => h) (Or.inl ⟨by rfl, ?_⟩) ?_
          rotate_left
          · intro w hSw
            clear hSw
            go_simp
            all_goals with_reducible rfl
          simp only [Act.put, List.setIfInBounds_toArray, List.set_cons_zero, List.set_cons_succ]
          refine wpAnyD_takeW (i := 33) (oi := { dst := some 54, op := Op.pick (Operand.tmp 45) (Operand.const (Value.bool true)) (Operand.tmp 53), type := 4, pos := "law.go:108", after := #[{ on := 24, ground := Ground.data }, { on := 32, ground := Ground.data }], guard := none }) (v := ?_) rfl (by kernel_rfl) (by kernel_rfl) (by kernel_rfl) (fun _ _ _ h => h) (Or.inl ⟨by rfl, ?_⟩) ?_
          rotate_left
          · intro w hSw
            clear hSw
            go_simp
            all_goals with_reducible rfl
          simp only [Act.put, List.setIfInBounds_toArray, List.set_cons_zero, List.set_cons_succ]
          refine wpAnyD_done (by kernel_rfl) ?_ _
          go_wp2
          go_roundw
          case rel => exact ⟨q + 1, A2, O2, HLT.out, by go_num, HA2.out, H7.out⟩
          case measure => have := HLT.out; simp [intOf]; omega
      · have y1 : decide (q < N) = false := by simpa using hlt
        have y2 : decide ((q : Int) < (N : Int)) = false := by simp; omega
        clear hlt
        obtain ⟨F, lv, ht, _, hr9, _⟩ := HDU.out.both
        have HC := hide (copy_any ht (by have := HAL.out.two; omega) HAL.out.len)
        have HTL0 := hide (show TlAt W wr tb A F ob lv O [] from ⟨ht, hr9⟩)
        clear ht hr9 HDU
        go_wp2_with fail
        refine Calls.mono HC.out ?_
        rintro e w10 ⟨cb, D, rfl, hcd, hstr, b10⟩
        have H10 := hide (HTL0.out.below b10)
        have HCD := hide hcd
        have HAD := hide (HAL.out.twin hstr)
        have HBL := hide H10.out.r.own.bel
        clear hcd hstr b10 HC HTL0
        obtain ⟨n, hn⟩ : ∃ n, n = O.length := ⟨_, rfl⟩
        have hn6 : n ≤ 16384 := by rw [hn]; exact H10.out.r.len
        obtain ⟨B9, c9, hlv, -⟩ := H10.out.r.c0
        have HC0 := hide (fun w' (hb : Below w10.heap.size w10 w') => (show w'.cell? ⟨ob, 0, none⟩ = some (.slice B9 n c9) from by rw [hn, (H10.out.below hb).r.blk.cell, ← hlv]; rfl))
        clear hn hlv
        go_wp2
        go_loopw [7] (fun i wr => ∃ q : Nat, q ≤ n ∧ i = .int .i64 (q : Int) ∧ Below w10.heap.size w10 wr) (fun i _ => n - (intOf i).toNat)
        case atStart => exact ⟨0, Nat.zero_le _, rfl, Below.refl _ _⟩
        case round =>
          obtain ⟨q, hq2, rfl, hb⟩ := hrel
          have d0 := HC0.out _ hb
          have HB := hide hb
          clear hb
          by_cases hlt : q < n
          · have y3 : decide (q < n) = true := by simpa using hlt
            have y4 : decide ((q : Int) < (n : Int)) = true := by simp; omega
            have HLT := hide hlt
            have wrq : IntKind.i64.wrap ((q : Int) + 1) = (q : Int) + 1 := IntWalk.i64_in _ (by omega)
            obtain ⟨pk, hpk⟩ : ∃ pk, pk = pickZ (q : Int) 70 := ⟨_, rfl⟩
            have HPK := hide (fun w' => (show Calls Tryd.prog 25 #[.int .i64 (q : Int), .int .i64 70] w' (fun e w'' => e = .returned (.int .i64 pk) ∧ w' = w'') from hpk ▸ pick_any (q : Int) 70 w' (by omega) (by omega)))
            have HT1 := hide (tells_any (H10.out.below HB.out) HAL.out (q : Int) pk)
            clear hpk hlt
            go_wp2_with fail
            refine Calls.mono (HPK.out _) ?_
            rintro e w11 ⟨rfl, rfl⟩
            go_wp2_with fail
            refine Calls.mono HT1.out ?_
            rintro e w12 ⟨rfl, b12⟩
            have HB12 := hide (HB.out.trans (b12.mono HB.out.size))
            have HT2 := hide (tells_any (⟨HCD.out.below HB12.out, (H10.out.below HB12.out).r⟩ : TlAt W w12 cb D _ ob lv O []) HAD.out (q : Int) pk)
            clear b12 HT1
            go_wp2_with fail
            refine Calls.mono (HPK.out _) ?_
            rintro e w13 ⟨rfl, rfl⟩
            go_wp2_with fail
            refine Calls.mono HT2.out ?_
            rintro e w14 ⟨rfl, b14⟩
            have HB14 := hide (HB12.out.trans (b14.mono HB12.out.size))
            clear b14 HT2
            go_wp2
            go_roundw
            case rel => exact ⟨q + 1, HLT.out, by go_num, HB14.out⟩
            case measure => have := HLT.out; simp [intOf]; omega
          · have y3 : decide (q < n) = false := by simpa using hlt
            have y4 : decide ((q : Int) < (n : Int)) = false := by simp; omega
            clear hlt
            go_wp2
            go_ret
            exact ⟨rfl, HBL.out.trans (HB.out.mono HBL.out.size)⟩
end Go.Proofs.YtkhjdhoaephdkaaDoor
