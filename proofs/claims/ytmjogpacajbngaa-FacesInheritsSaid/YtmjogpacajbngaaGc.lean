/- FacesInherits: the walk. No condition but those written. -/
import Derived.Test.YtmjogpacajbngaaGb
namespace Go.Proofs.Ytmjogpacajbngaa
open Go.RowKit

theorem neq_attE (w : World) (v : Att) : (binOp .neq 23 (.agg #[.int .i64 v.fo, .int .i64 v.ba, .int .i64 v.bo, .int .i64 v.un, .int .i64 v.iv, .string ⟨#[]⟩]) (.agg #[.int .i64 v.fo, .int .i64 v.ba, .int .i64 v.bo, .int .i64 v.un, .int .i64 v.iv, .string ⟨#[]⟩])).run Try.prog w = .ok (.bool false) w := by
  go_simp
theorem inh_cells {w5 w' : World} {g6 g7 : Nat} {own v : Att} (h : Own w5 w' [(g7, .cells 23 #[.int .i64 v.fo, .int .i64 v.ba, .int .i64 v.bo, .int .i64 v.un, .int .i64 v.iv, .string ⟨#[]⟩]), (g6, .cells 23 own.cells.toArray)]) : w'.cell? ⟨g6, 0, none⟩ = some (.int .i64 own.fo) ∧ w'.cell? ⟨g6, 1, none⟩ = some (.int .i64 own.ba) ∧ w'.cell? ⟨g6, 2, none⟩ = some (.int .i64 own.bo) ∧ w'.cell? ⟨g6, 3, none⟩ = some (.int .i64 own.un) ∧ w'.cell? ⟨g6, 4, none⟩ = some (.int .i64 own.iv) ∧ w'.cell? ⟨g6, 5, none⟩ = some (.string own.inh) ∧ w'.cell? ⟨g7, 0, none⟩ = some (.int .i64 v.fo) ∧ w'.cell? ⟨g7, 1, none⟩ = some (.int .i64 v.ba) ∧ w'.cell? ⟨g7, 2, none⟩ = some (.int .i64 v.bo) ∧ w'.cell? ⟨g7, 3, none⟩ = some (.int .i64 v.un) ∧ w'.cell? ⟨g7, 4, none⟩ = some (.int .i64 v.iv) ∧ w'.cell? ⟨g7, 5, none⟩ = some (.string ⟨#[]⟩) := by
  obtain ⟨a0, a1, a2, a3, a4, a5⟩ := Blk.att (a := own) (h.blk (g := g6) (t := 23) (by simp))
  obtain ⟨v0, v1, v2, v3, v4, v5⟩ := Blk.att (a := ⟨v.fo, v.ba, v.bo, v.un, v.iv, ⟨#[]⟩⟩) (h.blk (g := g7) (t := 23) (by simp))
  exact ⟨a0, a1, a2, a3, a4, a5, v0, v1, v2, v3, v4, v5⟩
theorem inh_cells2 {c0 c1 c2 c3 c4 c5 c6 c7 c8 c9 c10 c11 d e : Prop} (h : c0 ∧ c1 ∧ c2 ∧ c3 ∧ c4 ∧ c5 ∧ c6 ∧ c7 ∧ c8 ∧ c9 ∧ c10 ∧ c11) (hd : d) (he : e) : c0 ∧ c1 ∧ c2 ∧ c3 ∧ c4 ∧ c5 ∧ c6 ∧ c7 ∧ c8 ∧ c9 ∧ c10 ∧ c11 ∧ d ∧ e :=
  ⟨h.1, h.2.1, h.2.2.1, h.2.2.2.1, h.2.2.2.2.1, h.2.2.2.2.2.1, h.2.2.2.2.2.2.1, h.2.2.2.2.2.2.2.1, h.2.2.2.2.2.2.2.2.1, h.2.2.2.2.2.2.2.2.2.1, h.2.2.2.2.2.2.2.2.2.2.1, h.2.2.2.2.2.2.2.2.2.2.2, hd, he⟩
set_option maxRecDepth 100000 in
set_option maxRecDepth 100000 in
set_option maxHeartbeats 16000000 in
theorem inherits_walk {w : World} {A : Option Addr} {n c : Nat} {l : List Fac} (h : Rd w (.slice A n c) 8 n (rows Fac.cells l)) : Calls Try.prog 7 #[.slice A n c] w fun e w' => e = .returned (.bool true) ∧ Below w.heap.size w w' := by
  have HR := hide h
  clear h
  go_enter Try.func7, Try.ntmps7
  go_wp2_with fail
  refine (Calls.mono (known_any _)) ?_
  rintro r w2 ⟨rfl, hb2⟩
  have B2 := hide hb2
  have HR2 := hide (HR.out.belowF hb2)
  clear hb2
  go_wp2_with fail
  refine (Calls.mono (long_any HR2.out)) ?_
  rintro r w3 ⟨rfl, rfl⟩
  cases hl : longF l with
  | true =>
    go_wp2
    go_ret
    exact ⟨rfl, B2.out⟩
  | false =>
    have HN := hide (longF_no hl)
    clear hl
    go_wp2_with fail
    refine (Calls.mono ((played_any HR2.out (by have := HN.out.1; have := rd_lenF HR2.out; omega) HN.out.2))) ?_
    rintro r w4 ⟨fb, mb, rfl, h4⟩
    have HG := hide (good_play good_new l)
    have H4 := hide h4
    clear h4
    obtain ⟨D, hD⟩ : ∃ D, D = playF [(dflt, attZero)] l := ⟨_, rfl⟩
    rw [← hD] at H4 HG
    clear hD
    go_wp2_with fail
    refine (Calls.mono (names_any H4.out HG.out)) ?_
    rintro r w5 ⟨v, rfl, hs, _, hb5⟩
    obtain ⟨B, d, rfl, _⟩ := hs.form
    have HS := hide hs
    have H5 := hide (H4.out.below hb5)
    have B5 := hide (B2.out.trans (H5.out.bel.mono B2.out.size))
    clear hs hb5
    obtain ⟨N, hN⟩ : ∃ N, N = (namesF D).length := ⟨_, rfl⟩
    rw [← hN] at HS ⊢
    have HNN := hide (show N ≤ 256 ∧ 1 ≤ N from by
      rw [hN, namesF_len]
      refine ⟨HG.out.le, ?_⟩
      cases hD : D with
      | nil => have := HG.out.d; rw [hD] at this; cases this
      | cons _ _ => exact Nat.succ_pos _)
    have HNE := hide hN
    have hN6 : N ≤ 1000000 := by have := HNN.out.1; omega
    clear hN
    go_wp2_with fail
    go_loopw [6] (fun t wr => ∃ k : Nat, t = .int .i64 (k : Int) ∧ k ≤ N ∧ Own w5 wr []) (fun t _ => N - (intOf t).toNat)
    case atStart => exact ⟨0, rfl, Nat.zero_le _, Own.refl _⟩
    case round =>
      obtain ⟨k, rfl, hk, hI⟩ := hrel
      have HI := hide hI
      clear hI
      by_cases hlt : k < N
      · have y1 : decide (k < N) = true := by simpa using hlt
        have y2 : decide ((k : Int) < (N : Int)) = true := by simp; omega
        obtain ⟨x, hx⟩ : ∃ x, (namesF D)[k]? = some x := ⟨_, List.getElem?_eq_getElem (by rw [← HNE.out]; exact hlt)⟩
        have hxs : (look D x).isSome = true := (names_mem D x).1 (List.mem_of_getElem? hx)
        obtain ⟨own, hown⟩ : ∃ own, own = lookZ D x := ⟨_, rfl⟩
        obtain ⟨up, hup⟩ : ∃ up, up = fullA D own.inh := ⟨_, rfl⟩
        obtain ⟨v, hv⟩ : ∃ v, v = over own up := ⟨_, rfl⟩
        have HF := hide (full_v HG.out hxs hown hup hv)
        have HSY := hide (says_yes own up v hv)
        have HOV := hide (fun w => overT hv.symm w)
        have HUP := hide (show own.inh = ⟨#[]⟩ ∨ fullE D own.inh = 0 by rw [hown]; exact up_e HG.out hxs)
        have HA := hide (show ∀ w', Below w5.heap.size w5 w' → Calls Try.prog 27 #[.pointer (some ⟨fb, 0, none⟩), .string x] w' (fun e w'' => e = .returned (.tuple #[own.val, .bool true]) ∧ Below w'.heap.size w' w'') from fun w' hb => by
          have := attrs_any (H5.out.below hb).fin x
          rwa [← hown, hxs] at this)
        have HFu := hide (show ∀ w', Below w5.heap.size w5 w' → Calls Try.prog 26 #[.pointer (some ⟨fb, 0, none⟩), .string x] w' (fun e w'' => e = .returned (.tuple #[.agg #[.int .i64 v.fo, .int .i64 v.ba, .int .i64 v.bo, .int .i64 v.un, .int .i64 v.iv, .string ⟨#[]⟩], .int .i64 0]) ∧ Below w'.heap.size w' w'') from fun w' hb => by
          have := full_any (H5.out.below hb).fin HG.out.ch x
          rwa [HF.out, show fullE D x = 0 from by unfold fullE; rw [if_pos hxs]] at this)
        have HFp := hide (show ∀ w', Below w5.heap.size w5 w' → Calls Try.prog 26 #[.pointer (some ⟨fb, 0, none⟩), .string own.inh] w' (fun e w'' => e = .returned (.tuple #[up.val, .int .i64 (fullE D own.inh)]) ∧ Below w'.heap.size w' w'') from fun w' hb => by
          have := full_any (H5.out.below hb).fin HG.out.ch own.inh
          rwa [← hup] at this)
        obtain ⟨g, off, rfl, hcell⟩ := rd_str HS.out.rd hx
        have HC := hide (show ∀ w', Below w5.heap.size w5 w' → w'.cell? ⟨g, off + k, none⟩ = some (.string x) from fun w' hb => (World.cell?_of_block (hb.block g (World.block_lt_of_cell? _ _ hcell))).trans hcell)
        have HLT := hide hlt
        clear hown hup hv hcell hxs
        have c0 := HC.out wr HI.out.bel
        go_wp2_with fail
        refine Calls.mono (HA.out _ HI.out.bel) ?_
        rintro r w6 ⟨rfl, hb6⟩
        have H6 := hide ((HI.out.below hb6).newCells 23 own.cells.toArray)
        clear hb6 c0
        have c0 := HC.out _ H6.out.bel
        go_wp2_with fail
        refine Calls.mono (HFu.out _ H6.out.bel) ?_
        rintro r w7 ⟨rfl, hb7⟩
        have H7 := hide ((H6.out.below hb7).newCells 23 #[.int .i64 v.fo, .int .i64 v.ba, .int .i64 v.bo, .int .i64 v.un, .int .i64 v.iv, .string ⟨#[]⟩])
        clear hb7 c0
        go_wp2_with fail
        have HQ := hide (fun w' h => inh_cells (w5 := w5) (g6 := w6.heap.size) (g7 := w7.heap.size) (own := own) (v := v) (w' := w') h)
        cases k with
        | zero =>
          rw [show ((0 : Nat) : Int) = 0 from rfl]
          have B0 := hide (Own.drew H7.out)
          refine wp_region_held_drew (S := fun w' => w'.cell? ⟨w6.heap.size, 0, none⟩ = some (.int .i64 own.fo) ∧ w'.cell? ⟨w6.heap.size, 1, none⟩ = some (.int .i64 own.ba) ∧ w'.cell? ⟨w6.heap.size, 2, none⟩ = some (.int .i64 own.bo) ∧ w'.cell? ⟨w6.heap.size, 3, none⟩ = some (.int .i64 own.un) ∧ w'.cell? ⟨w6.heap.size, 4, none⟩ = some (.int .i64 own.iv) ∧ w'.cell? ⟨w6.heap.size, 5, none⟩ = some (.string own.inh) ∧ w'.cell? ⟨w7.heap.size, 0, none⟩ = some (.int .i64 v.fo) ∧ w'.cell? ⟨w7.heap.size, 1, none⟩ = some (.int .i64 v.ba) ∧ w'.cell? ⟨w7.heap.size, 2, none⟩ = some (.int .i64 v.bo) ∧ w'.cell? ⟨w7.heap.size, 3, none⟩ = some (.int .i64 v.un) ∧ w'.cell? ⟨w7.heap.size, 4, none⟩ = some (.int .i64 v.iv) ∧ w'.cell? ⟨w7.heap.size, 5, none⟩ = some (.string ⟨#[]⟩)) (by kernel_rfl) (by (try dsimp only); exact HQ.out _ B0.out) (fun hHeld => ?_)
          refine wpAnyH_take (i := 0) (oi := { dst := some 46, op := Op.move (Operand.tmp 8), type := 4, pos := "law.go:192", after := #[], guard := none }) (v := ?_) rfl (by kernel_rfl) (by kernel_rfl) (by kernel_rfl) (fun _ _ _ h => h) (Or.inl ⟨by rfl, ?_⟩) (by assumption) ?_
          rotate_left
          · intro w hSw
            (try dsimp only at hSw)
            go_simp
            all_goals with_reducible rfl
          simp only [Act.put, List.setIfInBounds_toArray, List.set_cons_zero, List.set_cons_succ]
          refine wpAnyH_take (i := 1) (oi := { dst := some 47, op := Op.unOp UnOp.not 4 (Operand.tmp 46), type := 4, pos := "law.go:192", after := #[{ on := 0, ground := Ground.data }], guard := none }) (v := ?_) rfl (by kernel_rfl) (by kernel_rfl) (by kernel_rfl) (fun _ _ _ h => h) (Or.inl ⟨by rfl, ?_⟩) (by assumption) ?_
          rotate_left
          · intro w hSw
            (try dsimp only at hSw)
            go_simp
            all_goals with_reducible rfl
          simp only [Act.put, List.setIfInBounds_toArray, List.set_cons_zero, List.set_cons_succ]
          refine wpAnyH_take (i := 2) (oi := { dst := some 48, op := Op.move (Operand.tmp 47), type := 4, pos := "law.go:192", after := #[{ on := 1, ground := Ground.data }], guard := none }) (v := ?_) rfl (by kernel_rfl) (by kernel_rfl) (by kernel_rfl) (fun _ _ _ h => h) (Or.inl ⟨by rfl, ?_⟩) (by assumption) ?_
          rotate_left
          · intro w hSw
            (try dsimp only at hSw)
            go_simp
            all_goals with_reducible rfl
          simp only [Act.put, List.setIfInBounds_toArray, List.set_cons_zero, List.set_cons_succ]
          refine wpAnyH_take (i := 3) (oi := { dst := some 49, op := Op.move (Operand.tmp 10), type := 35, pos := "law.go:192", after := #[{ on := 2, ground := Ground.guard }], guard := some (2, false) }) (v := ?_) rfl (by kernel_rfl) (by kernel_rfl) (by kernel_rfl) (fun _ _ _ h => h) (Or.inl ⟨by rfl, ?_⟩) (by assumption) ?_
          rotate_left
          · intro w hSw
            (try dsimp only at hSw)
            go_simp
            all_goals with_reducible rfl
          simp only [Act.put, List.setIfInBounds_toArray, List.set_cons_zero, List.set_cons_succ]
          refine wpAnyH_take (i := 4) (oi := { dst := some 50, op := Op.binOp BinOp.neq 35 (Operand.tmp 49) (Operand.const (Value.int IntKind.i64 0)) 35, type := 4, pos := "law.go:192", after := #[{ on := 3, ground := Ground.data }, { on := 2, ground := Ground.guard }], guard := some (2, false) }) (v := ?_) rfl (by kernel_rfl) (by kernel_rfl) (by kernel_rfl) (fun _ _ _ h => h) (Or.inl ⟨by rfl, ?_⟩) (by assumption) ?_
          rotate_left
          · intro w hSw
            (try dsimp only at hSw)
            go_simp
            all_goals with_reducible rfl
          simp only [Act.put, List.setIfInBounds_toArray, List.set_cons_zero, List.set_cons_succ]
          refine wpAnyH_take (i := 5) (oi := { dst := some 51, op := Op.pick (Operand.tmp 48) (Operand.const (Value.bool true)) (Operand.tmp 50), type := 4, pos := "law.go:192", after := #[{ on := 2, ground := Ground.data }, { on := 4, ground := Ground.data }], guard := none }) (v := ?_) rfl (by kernel_rfl) (by kernel_rfl) (by kernel_rfl) (fun _ _ _ h => h) (Or.inl ⟨by rfl, ?_⟩) (by assumption) ?_
          rotate_left
          · intro w hSw
            (try dsimp only at hSw)
            go_simp
            all_goals with_reducible rfl
          simp only [Act.put, List.setIfInBounds_toArray, List.set_cons_zero, List.set_cons_succ]
          refine wpAnyH_take (i := 6) (oi := { dst := some 52, op := Op.move (Operand.tmp 51), type := 4, pos := "law.go:192", after := #[{ on := 5, ground := Ground.data }, { on := 2, ground := Ground.chain }], guard := none }) (v := ?_) rfl (by kernel_rfl) (by kernel_rfl) (by kernel_rfl) (fun _ _ _ h => h) (Or.inl ⟨by rfl, ?_⟩) (by assumption) ?_
          rotate_left
          · intro w hSw
            (try dsimp only at hSw)
            go_simp
            all_goals with_reducible rfl
          simp only [Act.put, List.setIfInBounds_toArray, List.set_cons_zero, List.set_cons_succ]
          refine wpAnyH_take (i := 7) (oi := { dst := some 53, op := Op.load 23 (Operand.tmp 7), type := 23, pos := "law.go:192", after := #[{ on := 6, ground := Ground.guard }], guard := some (6, false) }) (v := ?_) rfl (by kernel_rfl) (by kernel_rfl) (by kernel_rfl) (fun _ _ _ h => h) (Or.inl ⟨by rfl, ?_⟩) (by assumption) ?_
          rotate_left
          · intro w hSw
            (try dsimp only at hSw)
            go_simp
            all_goals with_reducible rfl
          simp only [Act.put, List.setIfInBounds_toArray, List.set_cons_zero, List.set_cons_succ]
          refine wpAnyH_take (i := 8) (oi := { dst := some 54, op := Op.load 23 (Operand.tmp 9), type := 23, pos := "law.go:192", after := #[{ on := 6, ground := Ground.guard }], guard := some (6, false) }) (v := ?_) rfl (by kernel_rfl) (by kernel_rfl) (by kernel_rfl) (fun _ _ _ h => h) (Or.inl ⟨by rfl, ?_⟩) (by assumption) ?_
          rotate_left
          · intro w hSw
            (try dsimp only at hSw)
            go_simp
            all_goals with_reducible rfl
          simp only [Act.put, List.setIfInBounds_toArray, List.set_cons_zero, List.set_cons_succ]
          refine wpAnyH_ready (rs := [9]) (by kernel_rfl) (by simp) ?_
          refine AllReadyH.cons (o := { dst := some 55, op := Op.call { callee := Callee.value (Operand.func 31), args := #[Operand.tmp 53, Operand.tmp 54], argTypes := #[23, 23] }, type := 4, pos := "law.go:192", after := #[{ on := 7, ground := Ground.data }, { on := 8, ground := Ground.data }, { on := 6, ground := Ground.chain }, { on := 6, ground := Ground.guard }], guard := some (6, false) }) rfl (fun K hK => ?_) AllReadyH.nil
          go_simp
          go_at_call 31
          refine (HSY.out _).mono ?_
          rintro r w8 ⟨rfl, hb⟩
          have B1 := hide (B0.out.below hb)
          clear hb
          refine hK.out _ _ (by (try dsimp only); exact HQ.out _ B1.out) (fun hHeld => ?_)
          clear hK K
          try simp only [Act.put, List.setIfInBounds_toArray, List.set_cons_zero, List.set_cons_succ]
          refine wpAnyH_take (i := 10) (oi := { dst := some 56, op := Op.unOp UnOp.not 4 (Operand.tmp 55), type := 4, pos := "law.go:192", after := #[{ on := 9, ground := Ground.data }, { on := 6, ground := Ground.guard }], guard := some (6, false) }) (v := ?_) rfl (by kernel_rfl) (by kernel_rfl) (by kernel_rfl) (fun _ _ _ h => h) (Or.inl ⟨by rfl, ?_⟩) (by assumption) ?_
          rotate_left
          · intro w hSw
            (try dsimp only at hSw)
            go_simp
            all_goals with_reducible rfl
          simp only [Act.put, List.setIfInBounds_toArray, List.set_cons_zero, List.set_cons_succ]
          refine wpAnyH_take (i := 11) (oi := { dst := some 57, op := Op.pick (Operand.tmp 52) (Operand.const (Value.bool true)) (Operand.tmp 56), type := 4, pos := "law.go:192", after := #[{ on := 6, ground := Ground.data }, { on := 10, ground := Ground.data }], guard := none }) (v := ?_) rfl (by kernel_rfl) (by kernel_rfl) (by kernel_rfl) (fun _ _ _ h => h) (Or.inl ⟨by rfl, ?_⟩) (by assumption) ?_
          rotate_left
          · intro w hSw
            (try dsimp only at hSw)
            go_simp
            all_goals with_reducible rfl
          simp only [Act.put, List.setIfInBounds_toArray, List.set_cons_zero, List.set_cons_succ]
          refine wpAnyH_take (i := 12) (oi := { dst := some 58, op := Op.move (Operand.tmp 57), type := 4, pos := "law.go:192", after := #[{ on := 11, ground := Ground.data }, { on := 9, ground := Ground.chain }], guard := none }) (v := ?_) rfl (by kernel_rfl) (by kernel_rfl) (by kernel_rfl) (fun _ _ _ h => h) (Or.inl ⟨by rfl, ?_⟩) (by assumption) ?_
          rotate_left
          · intro w hSw
            (try dsimp only at hSw)
            go_simp
            all_goals with_reducible rfl
          simp only [Act.put, List.setIfInBounds_toArray, List.set_cons_zero, List.set_cons_succ]
          refine wpAnyH_take (i := 13) (oi := { dst := some 59, op := Op.move (Operand.tmp 6), type := 3, pos := "law.go:192", after := #[{ on := 12, ground := Ground.guard }], guard := some (12, false) }) (v := ?_) rfl (by kernel_rfl) (by kernel_rfl) (by kernel_rfl) (fun _ _ _ h => h) (Or.inl ⟨by rfl, ?_⟩) (by assumption) ?_
          rotate_left
          · intro w hSw
            (try dsimp only at hSw)
            go_simp
            all_goals with_reducible rfl
          simp only [Act.put, List.setIfInBounds_toArray, List.set_cons_zero, List.set_cons_succ]
          refine wpAnyH_take (i := 14) (oi := { dst := some 60, op := Op.binOp BinOp.gtr 3 (Operand.tmp 59) (Operand.const (Value.int IntKind.i64 0)) 3, type := 4, pos := "law.go:192", after := #[{ on := 13, ground := Ground.data }, { on := 12, ground := Ground.guard }], guard := some (12, false) }) (v := ?_) rfl (by kernel_rfl) (by kernel_rfl) (by kernel_rfl) (fun _ _ _ h => h) (Or.inl ⟨by rfl, ?_⟩) (by assumption) ?_
          rotate_left
          · intro w hSw
            (try dsimp only at hSw)
            go_simp
            all_goals with_reducible rfl
          simp only [Act.put, List.setIfInBounds_toArray, List.set_cons_zero, List.set_cons_succ]
          refine wpAnyH_take (i := 15) (oi := { dst := some 61, op := Op.move (Operand.tmp 60), type := 4, pos := "law.go:192", after := #[{ on := 14, ground := Ground.data }, { on := 12, ground := Ground.chain }, { on := 12, ground := Ground.guard }], guard := some (12, false) }) (v := ?_) rfl (by kernel_rfl) (by kernel_rfl) (by kernel_rfl) (fun _ _ _ h => h) (Or.inl ⟨by rfl, ?_⟩) (by assumption) ?_
          rotate_left
          · intro w hSw
            (try dsimp only at hSw)
            go_simp
            all_goals with_reducible rfl
          simp only [Act.put, List.setIfInBounds_toArray, List.set_cons_zero, List.set_cons_succ]
          refine wpAnyH_take (i := 16) (oi := { dst := some 62, op := Op.move (Operand.tmp 5), type := 39, pos := "law.go:192", after := #[{ on := 15, ground := Ground.guard }], guard := some (15, true) }) (v := undef) rfl (by kernel_rfl) (by kernel_rfl) (by kernel_rfl) (fun _ _ _ h => h) (Or.inr ⟨by rfl, rfl⟩) (by assumption) ?_
          simp only [Act.put, List.setIfInBounds_toArray, List.set_cons_zero, List.set_cons_succ]
          refine wpAnyH_take (i := 17) (oi := { dst := some 63, op := Op.move (Operand.tmp 6), type := 3, pos := "law.go:192", after := #[{ on := 15, ground := Ground.guard }], guard := some (15, true) }) (v := undef) rfl (by kernel_rfl) (by kernel_rfl) (by kernel_rfl) (fun _ _ _ h => h) (Or.inr ⟨by rfl, rfl⟩) (by assumption) ?_
          simp only [Act.put, List.setIfInBounds_toArray, List.set_cons_zero, List.set_cons_succ]
          refine wpAnyH_take (i := 18) (oi := { dst := some 64, op := Op.indexAddr 39 (Operand.tmp 62) (Operand.tmp 63), type := 0, pos := "law.go:192", after := #[{ on := 16, ground := Ground.data }, { on := 17, ground := Ground.data }, { on := 15, ground := Ground.guard }], guard := some (15, true) }) (v := undef) rfl (by kernel_rfl) (by kernel_rfl) (by kernel_rfl) (fun _ _ _ h => h) (Or.inr ⟨by rfl, rfl⟩) (by assumption) ?_
          simp only [Act.put, List.setIfInBounds_toArray, List.set_cons_zero, List.set_cons_succ]
          refine wpAnyH_take (i := 19) (oi := { dst := some 65, op := Op.load 9 (Operand.tmp 64), type := 9, pos := "law.go:192", after := #[{ on := 18, ground := Ground.data }, { on := 15, ground := Ground.guard }], guard := some (15, true) }) (v := undef) rfl (by kernel_rfl) (by kernel_rfl) (by kernel_rfl) (fun _ _ _ h => h) (Or.inr ⟨by rfl, rfl⟩) (by assumption) ?_
          simp only [Act.put, List.setIfInBounds_toArray, List.set_cons_zero, List.set_cons_succ]
          refine wpAnyH_take (i := 20) (oi := { dst := some 66, op := Op.move (Operand.tmp 5), type := 39, pos := "law.go:192", after := #[{ on := 15, ground := Ground.guard }], guard := some (15, true) }) (v := undef) rfl (by kernel_rfl) (by kernel_rfl) (by kernel_rfl) (fun _ _ _ h => h) (Or.inr ⟨by rfl, rfl⟩) (by assumption) ?_
          simp only [Act.put, List.setIfInBounds_toArray, List.set_cons_zero, List.set_cons_succ]
          refine wpAnyH_take (i := 21) (oi := { dst := some 67, op := Op.move (Operand.tmp 6), type := 3, pos := "law.go:192", after := #[{ on := 15, ground := Ground.guard }], guard := some (15, true) }) (v := undef) rfl (by kernel_rfl) (by kernel_rfl) (by kernel_rfl) (fun _ _ _ h => h) (Or.inr ⟨by rfl, rfl⟩) (by assumption) ?_
          simp only [Act.put, List.setIfInBounds_toArray, List.set_cons_zero, List.set_cons_succ]
          refine wpAnyH_take (i := 22) (oi := { dst := some 68, op := Op.binOp BinOp.sub 3 (Operand.tmp 67) (Operand.const (Value.int IntKind.i64 1)) 3, type := 3, pos := "law.go:192", after := #[{ on := 21, ground := Ground.data }, { on := 15, ground := Ground.guard }], guard := some (15, true) }) (v := undef) rfl (by kernel_rfl) (by kernel_rfl) (by kernel_rfl) (fun _ _ _ h => h) (Or.inr ⟨by rfl, rfl⟩) (by assumption) ?_
          simp only [Act.put, List.setIfInBounds_toArray, List.set_cons_zero, List.set_cons_succ]
          refine wpAnyH_take (i := 23) (oi := { dst := some 69, op := Op.indexAddr 39 (Operand.tmp 66) (Operand.tmp 68), type := 0, pos := "law.go:192", after := #[{ on := 20, ground := Ground.data }, { on := 22, ground := Ground.data }, { on := 15, ground := Ground.guard }], guard := some (15, true) }) (v := undef) rfl (by kernel_rfl) (by kernel_rfl) (by kernel_rfl) (fun _ _ _ h => h) (Or.inr ⟨by rfl, rfl⟩) (by assumption) ?_
          simp only [Act.put, List.setIfInBounds_toArray, List.set_cons_zero, List.set_cons_succ]
          refine wpAnyH_take (i := 24) (oi := { dst := some 70, op := Op.load 9 (Operand.tmp 69), type := 9, pos := "law.go:192", after := #[{ on := 23, ground := Ground.data }, { on := 15, ground := Ground.guard }], guard := some (15, true) }) (v := undef) rfl (by kernel_rfl) (by kernel_rfl) (by kernel_rfl) (fun _ _ _ h => h) (Or.inr ⟨by rfl, rfl⟩) (by assumption) ?_
          simp only [Act.put, List.setIfInBounds_toArray, List.set_cons_zero, List.set_cons_succ]
          refine wpAnyH_take (i := 25) (oi := { dst := some 71, op := Op.binOp BinOp.leq 9 (Operand.tmp 65) (Operand.tmp 70) 9, type := 4, pos := "law.go:192", after := #[{ on := 19, ground := Ground.data }, { on := 24, ground := Ground.data }, { on := 15, ground := Ground.guard }], guard := some (15, true) }) (v := undef) rfl (by kernel_rfl) (by kernel_rfl) (by kernel_rfl) (fun _ _ _ h => h) (Or.inr ⟨by rfl, rfl⟩) (by assumption) ?_
          simp only [Act.put, List.setIfInBounds_toArray, List.set_cons_zero, List.set_cons_succ]
          refine wpAnyH_take (i := 26) (oi := { dst := some 72, op := Op.pick (Operand.tmp 61) (Operand.tmp 71) (Operand.const (Value.bool false)), type := 4, pos := "law.go:192", after := #[{ on := 15, ground := Ground.data }, { on := 25, ground := Ground.data }, { on := 12, ground := Ground.guard }], guard := some (12, false) }) (v := ?_) rfl (by kernel_rfl) (by kernel_rfl) (by kernel_rfl) (fun _ _ _ h => h) (Or.inl ⟨by rfl, ?_⟩) (by assumption) ?_
          rotate_left
          · intro w hSw
            (try dsimp only at hSw)
            go_simp
            all_goals with_reducible rfl
          simp only [Act.put, List.setIfInBounds_toArray, List.set_cons_zero, List.set_cons_succ]
          refine wpAnyH_take (i := 27) (oi := { dst := some 73, op := Op.pick (Operand.tmp 58) (Operand.const (Value.bool true)) (Operand.tmp 72), type := 4, pos := "law.go:192", after := #[{ on := 12, ground := Ground.data }, { on := 26, ground := Ground.data }], guard := none }) (v := ?_) rfl (by kernel_rfl) (by kernel_rfl) (by kernel_rfl) (fun _ _ _ h => h) (Or.inl ⟨by rfl, ?_⟩) (by assumption) ?_
          rotate_left
          · intro w hSw
            (try dsimp only at hSw)
            go_simp
            all_goals with_reducible rfl
          simp only [Act.put, List.setIfInBounds_toArray, List.set_cons_zero, List.set_cons_succ]
          refine wpAnyH_done (by kernel_rfl) ?_ _
          have H8 := hide (B1.out)
          obtain ⟨a0, a1, a2, a3, a4, a5, v0, v1, v2, v3, v4, v5⟩ := HQ.out _ H8.out
          go_wp2_with fail
          refine Calls.mono (HFp.out _ H8.out.bel) ?_
          rintro r w9 ⟨rfl, hb9⟩
          have H9 := hide ((H8.out.below hb9).newCells 23 up.cells.toArray)
          clear hb9 a0 a1 a2 a3 a4 a5 v0 v1 v2 v3 v4 v5
          obtain ⟨a0, a1, a2, a3, a4, a5, v0, v1, v2, v3, v4, v5⟩ := HQ.out _ H9.out.tail
          obtain ⟨u0, u1, u2, u3, u4, u5⟩ := Blk.att (a := up) (H9.out.blk (g := w9.heap.size) (t := 23) (by simp))
          go_wp2_with fail
          refine Calls.mono (HOV.out _) ?_
          rintro r w10 ⟨rfl, hb10⟩
          have H10 := hide ((H9.out.below hb10).newCells 23 #[.int .i64 v.fo, .int .i64 v.ba, .int .i64 v.bo, .int .i64 v.un, .int .i64 v.iv, .string v.inh])
          have H11 := hide (H10.out.setCell 5 (.string ⟨#[]⟩))
          clear a0 a1 a2 a3 a4 a5 v0 v1 v2 v3 v4 v5 u0 u1 u2 u3 u4 u5
          obtain ⟨a0, a1, a2, a3, a4, a5, v0, v1, v2, v3, v4, v5⟩ := HQ.out _ H11.out.tail.tail
          obtain ⟨u0, u1, u2, u3, u4, u5⟩ := Blk.att (a := ⟨v.fo, v.ba, v.bo, v.un, v.iv, ⟨#[]⟩⟩) (H11.out.blk (g := w10.heap.size) (t := 23) (by simp))
          dsimp only at u0 u1 u2 u3 u4 u5
          have fz : (w10.alloc (.cells #[.int .i64 v.fo, .int .i64 v.ba, .int .i64 v.bo, .int .i64 v.un, .int .i64 v.iv, .string v.inh] 23)).frozen? ⟨w10.heap.size, 5, none⟩ = false := Blk.frozen (H10.out.blk (t := 23) (cs := #[.int .i64 v.fo, .int .i64 v.ba, .int .i64 v.bo, .int .i64 v.un, .int .i64 v.iv, .string v.inh]) (by simp)) 5
          have H12 := hide ((H9.out.below hb10).newCells 23 #[.int .i64 v.fo, .int .i64 v.ba, .int .i64 v.bo, .int .i64 v.un, .int .i64 v.iv, .string ⟨#[]⟩])
          obtain ⟨c0, c1, c2, c3, c4, c5, d0, d1, d2, d3, d4, d5⟩ := HQ.out _ H12.out.tail.tail
          obtain ⟨f0, f1, f2, f3, f4, f5⟩ := Blk.att (a := ⟨v.fo, v.ba, v.bo, v.un, v.iv, ⟨#[]⟩⟩) (H12.out.blk (g := w10.heap.size) (t := 23) (by simp))
          dsimp only at f0 f1 f2 f3 f4 f5
          have eN := fun w => neq_attE w v
          have hu := HUP.out
          by_cases hi : own.inh = ⟨#[]⟩
          · have z1 := empty_is hi
            have z2 : (own.inh.toList == []) = true := by
              cases hl : own.inh.toList with
              | nil => rfl
              | cons _ _ => rw [hl] at z1; cases z1
            have HI2 := hide hi
            clear hi hu
            go_wp2
            go_roundw
            case rel => exact ⟨0 + 1, by go_num, HLT.out, by first | exact H11.out.sub (List.nil_sublist _) | exact H12.out.sub (List.nil_sublist _)⟩
            case measure => have := HLT.out; simp [intOf]; omega
          · have z1 := ne_empty hi
            have hu0 := hu.resolve_left hi
            have z2 : (own.inh.toList == []) = false := by
              cases hl : own.inh.toList with
              | nil => rw [hl] at z1; cases z1
              | cons _ _ => rfl
            have HI2 := hide hi
            clear hi hu
            go_wp2
            go_roundw
            case rel => exact ⟨0 + 1, by go_num, HLT.out, by first | exact H11.out.sub (List.nil_sublist _) | exact H12.out.sub (List.nil_sublist _)⟩
            case measure => have := HLT.out; simp [intOf]; omega
        | succ j =>
          obtain ⟨y, hy⟩ : ∃ y, (namesF D)[j]? = some y := ⟨_, List.getElem?_eq_getElem (by rw [← HNE.out]; have := HLT.out; omega)⟩
          have hasc := names_asc HG.out.nd hy hx
          obtain ⟨s1, s2⟩ := hasc
          have HS1 := hide s1
          have hcy : ∀ w', Below w5.heap.size w5 w' → w'.cell? ⟨g, off + j, none⟩ = some (.string y) := fun w' hb => by
            obtain ⟨g', off', e, hcell⟩ := rd_str HS.out.rd hy
            injection e with e
            injection e with e1 e2
            subst e1 e2
            exact (World.cell?_of_block (hb.block g (World.block_lt_of_cell? _ _ hcell))).trans hcell
          have HR8 := hide (fun w' (h : Own w5 w' [(w7.heap.size, .cells 23 #[.int .i64 v.fo, .int .i64 v.ba, .int .i64 v.bo, .int .i64 v.un, .int .i64 v.iv, .string ⟨#[]⟩]), (w6.heap.size, .cells 23 own.cells.toArray)]) => inh_cells2 (HQ.out w' h) (HC.out w' h.bel) (hcy w' h.bel))
          clear hcy hy
          have m1 : IntKind.i64.wrap (((j + 1 : Nat) : Int) - 1) = (j : Int) := by
            rw [show (((j + 1 : Nat) : Int) - 1) = (j : Int) by omega]
            exact IntWalk.i64_in _ (by have := HLT.out; omega)
          have m2 : IntKind.i64.wrap ((j : Int) + 1 - 1) = (j : Int) := by
            rw [show ((j : Int) + 1 - 1) = (j : Int) by omega]
            exact IntWalk.i64_in _ (by have := HLT.out; omega)
          have m9 : IntKind.i64.wrap (j : Int) = (j : Int) := IntWalk.i64_in _ (by have := HLT.out; omega)
          have m3 : decide (0 < j + 1) = true := by simp
          have m4 : decide ((0 : Int) < ((j + 1 : Nat) : Int)) = true := decide_eq_true (by omega)
          have hj : j < N := by have := HLT.out; omega
          have m5 : (0 : Int) ≤ (j : Int) + 1 := by omega
          have m6 : (j : Int) + 1 < (N : Int) := by have := HLT.out; omega
          have m7 : (0 : Int) ≤ (j : Int) := by omega
          have m8 : (j : Int) < (N : Int) := by omega
          have B0 := hide (Own.drew H7.out)
          refine wp_region_held_drew (S := fun w' => w'.cell? ⟨w6.heap.size, 0, none⟩ = some (.int .i64 own.fo) ∧ w'.cell? ⟨w6.heap.size, 1, none⟩ = some (.int .i64 own.ba) ∧ w'.cell? ⟨w6.heap.size, 2, none⟩ = some (.int .i64 own.bo) ∧ w'.cell? ⟨w6.heap.size, 3, none⟩ = some (.int .i64 own.un) ∧ w'.cell? ⟨w6.heap.size, 4, none⟩ = some (.int .i64 own.iv) ∧ w'.cell? ⟨w6.heap.size, 5, none⟩ = some (.string own.inh) ∧ w'.cell? ⟨w7.heap.size, 0, none⟩ = some (.int .i64 v.fo) ∧ w'.cell? ⟨w7.heap.size, 1, none⟩ = some (.int .i64 v.ba) ∧ w'.cell? ⟨w7.heap.size, 2, none⟩ = some (.int .i64 v.bo) ∧ w'.cell? ⟨w7.heap.size, 3, none⟩ = some (.int .i64 v.un) ∧ w'.cell? ⟨w7.heap.size, 4, none⟩ = some (.int .i64 v.iv) ∧ w'.cell? ⟨w7.heap.size, 5, none⟩ = some (.string ⟨#[]⟩) ∧ w'.cell? ⟨g, off + (j + 1), none⟩ = some (.string x) ∧ w'.cell? ⟨g, off + j, none⟩ = some (.string y)) (by kernel_rfl) (by (try dsimp only); exact HR8.out _ B0.out) (fun hHeld => ?_)
          refine wpAnyH_take (i := 0) (oi := { dst := some 46, op := Op.move (Operand.tmp 8), type := 4, pos := "law.go:192", after := #[], guard := none }) (v := ?_) rfl (by kernel_rfl) (by kernel_rfl) (by kernel_rfl) (fun _ _ _ h => h) (Or.inl ⟨by rfl, ?_⟩) (by assumption) ?_
          rotate_left
          · intro w hSw
            (try dsimp only at hSw)
            go_simp
            all_goals with_reducible rfl
          simp only [Act.put, List.setIfInBounds_toArray, List.set_cons_zero, List.set_cons_succ]
          refine wpAnyH_take (i := 1) (oi := { dst := some 47, op := Op.unOp UnOp.not 4 (Operand.tmp 46), type := 4, pos := "law.go:192", after := #[{ on := 0, ground := Ground.data }], guard := none }) (v := ?_) rfl (by kernel_rfl) (by kernel_rfl) (by kernel_rfl) (fun _ _ _ h => h) (Or.inl ⟨by rfl, ?_⟩) (by assumption) ?_
          rotate_left
          · intro w hSw
            (try dsimp only at hSw)
            go_simp
            all_goals with_reducible rfl
          simp only [Act.put, List.setIfInBounds_toArray, List.set_cons_zero, List.set_cons_succ]
          refine wpAnyH_take (i := 2) (oi := { dst := some 48, op := Op.move (Operand.tmp 47), type := 4, pos := "law.go:192", after := #[{ on := 1, ground := Ground.data }], guard := none }) (v := ?_) rfl (by kernel_rfl) (by kernel_rfl) (by kernel_rfl) (fun _ _ _ h => h) (Or.inl ⟨by rfl, ?_⟩) (by assumption) ?_
          rotate_left
          · intro w hSw
            (try dsimp only at hSw)
            go_simp
            all_goals with_reducible rfl
          simp only [Act.put, List.setIfInBounds_toArray, List.set_cons_zero, List.set_cons_succ]
          refine wpAnyH_take (i := 3) (oi := { dst := some 49, op := Op.move (Operand.tmp 10), type := 35, pos := "law.go:192", after := #[{ on := 2, ground := Ground.guard }], guard := some (2, false) }) (v := ?_) rfl (by kernel_rfl) (by kernel_rfl) (by kernel_rfl) (fun _ _ _ h => h) (Or.inl ⟨by rfl, ?_⟩) (by assumption) ?_
          rotate_left
          · intro w hSw
            (try dsimp only at hSw)
            go_simp
            all_goals with_reducible rfl
          simp only [Act.put, List.setIfInBounds_toArray, List.set_cons_zero, List.set_cons_succ]
          refine wpAnyH_take (i := 4) (oi := { dst := some 50, op := Op.binOp BinOp.neq 35 (Operand.tmp 49) (Operand.const (Value.int IntKind.i64 0)) 35, type := 4, pos := "law.go:192", after := #[{ on := 3, ground := Ground.data }, { on := 2, ground := Ground.guard }], guard := some (2, false) }) (v := ?_) rfl (by kernel_rfl) (by kernel_rfl) (by kernel_rfl) (fun _ _ _ h => h) (Or.inl ⟨by rfl, ?_⟩) (by assumption) ?_
          rotate_left
          · intro w hSw
            (try dsimp only at hSw)
            go_simp
            all_goals with_reducible rfl
          simp only [Act.put, List.setIfInBounds_toArray, List.set_cons_zero, List.set_cons_succ]
          refine wpAnyH_take (i := 5) (oi := { dst := some 51, op := Op.pick (Operand.tmp 48) (Operand.const (Value.bool true)) (Operand.tmp 50), type := 4, pos := "law.go:192", after := #[{ on := 2, ground := Ground.data }, { on := 4, ground := Ground.data }], guard := none }) (v := ?_) rfl (by kernel_rfl) (by kernel_rfl) (by kernel_rfl) (fun _ _ _ h => h) (Or.inl ⟨by rfl, ?_⟩) (by assumption) ?_
          rotate_left
          · intro w hSw
            (try dsimp only at hSw)
            go_simp
            all_goals with_reducible rfl
          simp only [Act.put, List.setIfInBounds_toArray, List.set_cons_zero, List.set_cons_succ]
          refine wpAnyH_take (i := 6) (oi := { dst := some 52, op := Op.move (Operand.tmp 51), type := 4, pos := "law.go:192", after := #[{ on := 5, ground := Ground.data }, { on := 2, ground := Ground.chain }], guard := none }) (v := ?_) rfl (by kernel_rfl) (by kernel_rfl) (by kernel_rfl) (fun _ _ _ h => h) (Or.inl ⟨by rfl, ?_⟩) (by assumption) ?_
          rotate_left
          · intro w hSw
            (try dsimp only at hSw)
            go_simp
            all_goals with_reducible rfl
          simp only [Act.put, List.setIfInBounds_toArray, List.set_cons_zero, List.set_cons_succ]
          refine wpAnyH_take (i := 7) (oi := { dst := some 53, op := Op.load 23 (Operand.tmp 7), type := 23, pos := "law.go:192", after := #[{ on := 6, ground := Ground.guard }], guard := some (6, false) }) (v := ?_) rfl (by kernel_rfl) (by kernel_rfl) (by kernel_rfl) (fun _ _ _ h => h) (Or.inl ⟨by rfl, ?_⟩) (by assumption) ?_
          rotate_left
          · intro w hSw
            (try dsimp only at hSw)
            go_simp
            all_goals with_reducible rfl
          simp only [Act.put, List.setIfInBounds_toArray, List.set_cons_zero, List.set_cons_succ]
          refine wpAnyH_take (i := 8) (oi := { dst := some 54, op := Op.load 23 (Operand.tmp 9), type := 23, pos := "law.go:192", after := #[{ on := 6, ground := Ground.guard }], guard := some (6, false) }) (v := ?_) rfl (by kernel_rfl) (by kernel_rfl) (by kernel_rfl) (fun _ _ _ h => h) (Or.inl ⟨by rfl, ?_⟩) (by assumption) ?_
          rotate_left
          · intro w hSw
            (try dsimp only at hSw)
            go_simp
            all_goals with_reducible rfl
          simp only [Act.put, List.setIfInBounds_toArray, List.set_cons_zero, List.set_cons_succ]
          refine wpAnyH_ready (rs := [9]) (by kernel_rfl) (by simp) ?_
          refine AllReadyH.cons (o := { dst := some 55, op := Op.call { callee := Callee.value (Operand.func 31), args := #[Operand.tmp 53, Operand.tmp 54], argTypes := #[23, 23] }, type := 4, pos := "law.go:192", after := #[{ on := 7, ground := Ground.data }, { on := 8, ground := Ground.data }, { on := 6, ground := Ground.chain }, { on := 6, ground := Ground.guard }], guard := some (6, false) }) rfl (fun K hK => ?_) AllReadyH.nil
          go_simp
          go_at_call 31
          refine (HSY.out _).mono ?_
          rintro r w8 ⟨rfl, hb⟩
          have B1 := hide (B0.out.below hb)
          clear hb
          refine hK.out _ _ (by (try dsimp only); exact HR8.out _ B1.out) (fun hHeld => ?_)
          clear hK K
          try simp only [Act.put, List.setIfInBounds_toArray, List.set_cons_zero, List.set_cons_succ]
          refine wpAnyH_take (i := 10) (oi := { dst := some 56, op := Op.unOp UnOp.not 4 (Operand.tmp 55), type := 4, pos := "law.go:192", after := #[{ on := 9, ground := Ground.data }, { on := 6, ground := Ground.guard }], guard := some (6, false) }) (v := ?_) rfl (by kernel_rfl) (by kernel_rfl) (by kernel_rfl) (fun _ _ _ h => h) (Or.inl ⟨by rfl, ?_⟩) (by assumption) ?_
          rotate_left
          · intro w hSw
            (try dsimp only at hSw)
            go_simp
            all_goals with_reducible rfl
          simp only [Act.put, List.setIfInBounds_toArray, List.set_cons_zero, List.set_cons_succ]
          refine wpAnyH_take (i := 11) (oi := { dst := some 57, op := Op.pick (Operand.tmp 52) (Operand.const (Value.bool true)) (Operand.tmp 56), type := 4, pos := "law.go:192", after := #[{ on := 6, ground := Ground.data }, { on := 10, ground := Ground.data }], guard := none }) (v := ?_) rfl (by kernel_rfl) (by kernel_rfl) (by kernel_rfl) (fun _ _ _ h => h) (Or.inl ⟨by rfl, ?_⟩) (by assumption) ?_
          rotate_left
          · intro w hSw
            (try dsimp only at hSw)
            go_simp
            all_goals with_reducible rfl
          simp only [Act.put, List.setIfInBounds_toArray, List.set_cons_zero, List.set_cons_succ]
          refine wpAnyH_take (i := 12) (oi := { dst := some 58, op := Op.move (Operand.tmp 57), type := 4, pos := "law.go:192", after := #[{ on := 11, ground := Ground.data }, { on := 9, ground := Ground.chain }], guard := none }) (v := ?_) rfl (by kernel_rfl) (by kernel_rfl) (by kernel_rfl) (fun _ _ _ h => h) (Or.inl ⟨by rfl, ?_⟩) (by assumption) ?_
          rotate_left
          · intro w hSw
            (try dsimp only at hSw)
            go_simp
            all_goals with_reducible rfl
          simp only [Act.put, List.setIfInBounds_toArray, List.set_cons_zero, List.set_cons_succ]
          refine wpAnyH_take (i := 13) (oi := { dst := some 59, op := Op.move (Operand.tmp 6), type := 3, pos := "law.go:192", after := #[{ on := 12, ground := Ground.guard }], guard := some (12, false) }) (v := ?_) rfl (by kernel_rfl) (by kernel_rfl) (by kernel_rfl) (fun _ _ _ h => h) (Or.inl ⟨by rfl, ?_⟩) (by assumption) ?_
          rotate_left
          · intro w hSw
            (try dsimp only at hSw)
            go_simp
            all_goals with_reducible rfl
          simp only [Act.put, List.setIfInBounds_toArray, List.set_cons_zero, List.set_cons_succ]
          refine wpAnyH_take (i := 14) (oi := { dst := some 60, op := Op.binOp BinOp.gtr 3 (Operand.tmp 59) (Operand.const (Value.int IntKind.i64 0)) 3, type := 4, pos := "law.go:192", after := #[{ on := 13, ground := Ground.data }, { on := 12, ground := Ground.guard }], guard := some (12, false) }) (v := ?_) rfl (by kernel_rfl) (by kernel_rfl) (by kernel_rfl) (fun _ _ _ h => h) (Or.inl ⟨by rfl, ?_⟩) (by assumption) ?_
          rotate_left
          · intro w hSw
            (try dsimp only at hSw)
            go_simp
            all_goals with_reducible rfl
          simp only [Act.put, List.setIfInBounds_toArray, List.set_cons_zero, List.set_cons_succ]
          refine wpAnyH_take (i := 15) (oi := { dst := some 61, op := Op.move (Operand.tmp 60), type := 4, pos := "law.go:192", after := #[{ on := 14, ground := Ground.data }, { on := 12, ground := Ground.chain }, { on := 12, ground := Ground.guard }], guard := some (12, false) }) (v := ?_) rfl (by kernel_rfl) (by kernel_rfl) (by kernel_rfl) (fun _ _ _ h => h) (Or.inl ⟨by rfl, ?_⟩) (by assumption) ?_
          rotate_left
          · intro w hSw
            (try dsimp only at hSw)
            go_simp
            all_goals with_reducible rfl
          simp only [Act.put, List.setIfInBounds_toArray, List.set_cons_zero, List.set_cons_succ]
          refine wpAnyH_take (i := 16) (oi := { dst := some 62, op := Op.move (Operand.tmp 5), type := 39, pos := "law.go:192", after := #[{ on := 15, ground := Ground.guard }], guard := some (15, true) }) (v := ?_) rfl (by kernel_rfl) (by kernel_rfl) (by kernel_rfl) (fun _ _ _ h => h) (Or.inl ⟨by rfl, ?_⟩) (by assumption) ?_
          rotate_left
          · intro w hSw
            (try dsimp only at hSw)
            go_simp
            all_goals with_reducible rfl
          simp only [Act.put, List.setIfInBounds_toArray, List.set_cons_zero, List.set_cons_succ]
          refine wpAnyH_take (i := 17) (oi := { dst := some 63, op := Op.move (Operand.tmp 6), type := 3, pos := "law.go:192", after := #[{ on := 15, ground := Ground.guard }], guard := some (15, true) }) (v := ?_) rfl (by kernel_rfl) (by kernel_rfl) (by kernel_rfl) (fun _ _ _ h => h) (Or.inl ⟨by rfl, ?_⟩) (by assumption) ?_
          rotate_left
          · intro w hSw
            (try dsimp only at hSw)
            go_simp
            all_goals with_reducible rfl
          simp only [Act.put, List.setIfInBounds_toArray, List.set_cons_zero, List.set_cons_succ]
          refine wpAnyH_take (i := 18) (oi := { dst := some 64, op := Op.indexAddr 39 (Operand.tmp 62) (Operand.tmp 63), type := 0, pos := "law.go:192", after := #[{ on := 16, ground := Ground.data }, { on := 17, ground := Ground.data }, { on := 15, ground := Ground.guard }], guard := some (15, true) }) (v := ?_) rfl (by kernel_rfl) (by kernel_rfl) (by kernel_rfl) (fun _ _ _ h => h) (Or.inl ⟨by rfl, ?_⟩) (by assumption) ?_
          rotate_left
          · intro w hSw
            (try dsimp only at hSw)
            go_simp
            all_goals with_reducible rfl
          simp only [Act.put, List.setIfInBounds_toArray, List.set_cons_zero, List.set_cons_succ]
          refine wpAnyH_take (i := 19) (oi := { dst := some 65, op := Op.load 9 (Operand.tmp 64), type := 9, pos := "law.go:192", after := #[{ on := 18, ground := Ground.data }, { on := 15, ground := Ground.guard }], guard := some (15, true) }) (v := ?_) rfl (by kernel_rfl) (by kernel_rfl) (by kernel_rfl) (fun _ _ _ h => h) (Or.inl ⟨by rfl, ?_⟩) (by assumption) ?_
          rotate_left
          · intro w hSw
            (try dsimp only at hSw)
            go_simp
            all_goals with_reducible rfl
          simp only [Act.put, List.setIfInBounds_toArray, List.set_cons_zero, List.set_cons_succ]
          refine wpAnyH_take (i := 20) (oi := { dst := some 66, op := Op.move (Operand.tmp 5), type := 39, pos := "law.go:192", after := #[{ on := 15, ground := Ground.guard }], guard := some (15, true) }) (v := ?_) rfl (by kernel_rfl) (by kernel_rfl) (by kernel_rfl) (fun _ _ _ h => h) (Or.inl ⟨by rfl, ?_⟩) (by assumption) ?_
          rotate_left
          · intro w hSw
            (try dsimp only at hSw)
            go_simp
            all_goals with_reducible rfl
          simp only [Act.put, List.setIfInBounds_toArray, List.set_cons_zero, List.set_cons_succ]
          refine wpAnyH_take (i := 21) (oi := { dst := some 67, op := Op.move (Operand.tmp 6), type := 3, pos := "law.go:192", after := #[{ on := 15, ground := Ground.guard }], guard := some (15, true) }) (v := ?_) rfl (by kernel_rfl) (by kernel_rfl) (by kernel_rfl) (fun _ _ _ h => h) (Or.inl ⟨by rfl, ?_⟩) (by assumption) ?_
          rotate_left
          · intro w hSw
            (try dsimp only at hSw)
            go_simp
            all_goals with_reducible rfl
          simp only [Act.put, List.setIfInBounds_toArray, List.set_cons_zero, List.set_cons_succ]
          refine wpAnyH_take (i := 22) (oi := { dst := some 68, op := Op.binOp BinOp.sub 3 (Operand.tmp 67) (Operand.const (Value.int IntKind.i64 1)) 3, type := 3, pos := "law.go:192", after := #[{ on := 21, ground := Ground.data }, { on := 15, ground := Ground.guard }], guard := some (15, true) }) (v := ?_) rfl (by kernel_rfl) (by kernel_rfl) (by kernel_rfl) (fun _ _ _ h => h) (Or.inl ⟨by rfl, ?_⟩) (by assumption) ?_
          rotate_left
          · intro w hSw
            (try dsimp only at hSw)
            go_simp
            all_goals with_reducible rfl
          simp only [Act.put, List.setIfInBounds_toArray, List.set_cons_zero, List.set_cons_succ]
          refine wpAnyH_take (i := 23) (oi := { dst := some 69, op := Op.indexAddr 39 (Operand.tmp 66) (Operand.tmp 68), type := 0, pos := "law.go:192", after := #[{ on := 20, ground := Ground.data }, { on := 22, ground := Ground.data }, { on := 15, ground := Ground.guard }], guard := some (15, true) }) (v := ?_) rfl (by kernel_rfl) (by kernel_rfl) (by kernel_rfl) (fun _ _ _ h => h) (Or.inl ⟨by rfl, ?_⟩) (by assumption) ?_
          rotate_left
          · intro w hSw
            (try dsimp only at hSw)
            go_simp
            all_goals with_reducible rfl
          simp only [Act.put, List.setIfInBounds_toArray, List.set_cons_zero, List.set_cons_succ]
          refine wpAnyH_take (i := 24) (oi := { dst := some 70, op := Op.load 9 (Operand.tmp 69), type := 9, pos := "law.go:192", after := #[{ on := 23, ground := Ground.data }, { on := 15, ground := Ground.guard }], guard := some (15, true) }) (v := ?_) rfl (by kernel_rfl) (by kernel_rfl) (by kernel_rfl) (fun _ _ _ h => h) (Or.inl ⟨by rfl, ?_⟩) (by assumption) ?_
          rotate_left
          · intro w hSw
            (try dsimp only at hSw)
            go_simp
            all_goals with_reducible rfl
          simp only [Act.put, List.setIfInBounds_toArray, List.set_cons_zero, List.set_cons_succ]
          refine wpAnyH_take (i := 25) (oi := { dst := some 71, op := Op.binOp BinOp.leq 9 (Operand.tmp 65) (Operand.tmp 70) 9, type := 4, pos := "law.go:192", after := #[{ on := 19, ground := Ground.data }, { on := 24, ground := Ground.data }, { on := 15, ground := Ground.guard }], guard := some (15, true) }) (v := ?_) rfl (by kernel_rfl) (by kernel_rfl) (by kernel_rfl) (fun _ _ _ h => h) (Or.inl ⟨by rfl, ?_⟩) (by assumption) ?_
          rotate_left
          · intro w hSw
            (try dsimp only at hSw)
            go_simp
            all_goals with_reducible rfl
          simp only [Act.put, List.setIfInBounds_toArray, List.set_cons_zero, List.set_cons_succ]
          refine wpAnyH_take (i := 26) (oi := { dst := some 72, op := Op.pick (Operand.tmp 61) (Operand.tmp 71) (Operand.const (Value.bool false)), type := 4, pos := "law.go:192", after := #[{ on := 15, ground := Ground.data }, { on := 25, ground := Ground.data }, { on := 12, ground := Ground.guard }], guard := some (12, false) }) (v := ?_) rfl (by kernel_rfl) (by kernel_rfl) (by kernel_rfl) (fun _ _ _ h => h) (Or.inl ⟨by rfl, ?_⟩) (by assumption) ?_
          rotate_left
          · intro w hSw
            (try dsimp only at hSw)
            go_simp
            all_goals with_reducible rfl
          simp only [Act.put, List.setIfInBounds_toArray, List.set_cons_zero, List.set_cons_succ]
          refine wpAnyH_take (i := 27) (oi := { dst := some 73, op := Op.pick (Operand.tmp 58) (Operand.const (Value.bool true)) (Operand.tmp 72), type := 4, pos := "law.go:192", after := #[{ on := 12, ground := Ground.data }, { on := 26, ground := Ground.data }], guard := none }) (v := ?_) rfl (by kernel_rfl) (by kernel_rfl) (by kernel_rfl) (fun _ _ _ h => h) (Or.inl ⟨by rfl, ?_⟩) (by assumption) ?_
          rotate_left
          · intro w hSw
            (try dsimp only at hSw)
            go_simp
            all_goals with_reducible rfl
          simp only [Act.put, List.setIfInBounds_toArray, List.set_cons_zero, List.set_cons_succ]
          refine wpAnyH_done (by kernel_rfl) ?_ _
          have H8 := hide (B1.out)
          obtain ⟨a0, a1, a2, a3, a4, a5, v0, v1, v2, v3, v4, v5⟩ := HQ.out _ H8.out
          go_wp2_with fail
          refine Calls.mono (HFp.out _ H8.out.bel) ?_
          rintro r w9 ⟨rfl, hb9⟩
          have H9 := hide ((H8.out.below hb9).newCells 23 up.cells.toArray)
          clear hb9 a0 a1 a2 a3 a4 a5 v0 v1 v2 v3 v4 v5
          obtain ⟨a0, a1, a2, a3, a4, a5, v0, v1, v2, v3, v4, v5⟩ := HQ.out _ H9.out.tail
          obtain ⟨u0, u1, u2, u3, u4, u5⟩ := Blk.att (a := up) (H9.out.blk (g := w9.heap.size) (t := 23) (by simp))
          go_wp2_with fail
          refine Calls.mono (HOV.out _) ?_
          rintro r w10 ⟨rfl, hb10⟩
          have H10 := hide ((H9.out.below hb10).newCells 23 #[.int .i64 v.fo, .int .i64 v.ba, .int .i64 v.bo, .int .i64 v.un, .int .i64 v.iv, .string v.inh])
          have H11 := hide (H10.out.setCell 5 (.string ⟨#[]⟩))
          clear a0 a1 a2 a3 a4 a5 v0 v1 v2 v3 v4 v5 u0 u1 u2 u3 u4 u5
          obtain ⟨a0, a1, a2, a3, a4, a5, v0, v1, v2, v3, v4, v5⟩ := HQ.out _ H11.out.tail.tail
          obtain ⟨u0, u1, u2, u3, u4, u5⟩ := Blk.att (a := ⟨v.fo, v.ba, v.bo, v.un, v.iv, ⟨#[]⟩⟩) (H11.out.blk (g := w10.heap.size) (t := 23) (by simp))
          dsimp only at u0 u1 u2 u3 u4 u5
          have fz : (w10.alloc (.cells #[.int .i64 v.fo, .int .i64 v.ba, .int .i64 v.bo, .int .i64 v.un, .int .i64 v.iv, .string v.inh] 23)).frozen? ⟨w10.heap.size, 5, none⟩ = false := Blk.frozen (H10.out.blk (t := 23) (cs := #[.int .i64 v.fo, .int .i64 v.ba, .int .i64 v.bo, .int .i64 v.un, .int .i64 v.iv, .string v.inh]) (by simp)) 5
          have H12 := hide ((H9.out.below hb10).newCells 23 #[.int .i64 v.fo, .int .i64 v.ba, .int .i64 v.bo, .int .i64 v.un, .int .i64 v.iv, .string ⟨#[]⟩])
          obtain ⟨c0, c1, c2, c3, c4, c5, d0, d1, d2, d3, d4, d5⟩ := HQ.out _ H12.out.tail.tail
          obtain ⟨f0, f1, f2, f3, f4, f5⟩ := Blk.att (a := ⟨v.fo, v.ba, v.bo, v.un, v.iv, ⟨#[]⟩⟩) (H12.out.blk (g := w10.heap.size) (t := 23) (by simp))
          dsimp only at f0 f1 f2 f3 f4 f5
          have eN := fun w => neq_attE w v
          have hu := HUP.out
          by_cases hi : own.inh = ⟨#[]⟩
          · have z1 := empty_is hi
            have z2 : (own.inh.toList == []) = true := by
              cases hl : own.inh.toList with
              | nil => rfl
              | cons _ _ => rw [hl] at z1; cases z1
            have HI2 := hide hi
            clear hi hu
            go_wp2
            go_roundw
            case rel => exact ⟨(j + 1) + 1, by go_num, HLT.out, by first | exact H11.out.sub (List.nil_sublist _) | exact H12.out.sub (List.nil_sublist _)⟩
            case measure => have := HLT.out; simp [intOf]; omega
          · have z1 := ne_empty hi
            have hu0 := hu.resolve_left hi
            have z2 : (own.inh.toList == []) = false := by
              cases hl : own.inh.toList with
              | nil => rw [hl] at z1; cases z1
              | cons _ _ => rfl
            have HI2 := hide hi
            clear hi hu
            go_wp2
            go_roundw
            case rel => exact ⟨(j + 1) + 1, by go_num, HLT.out, by first | exact H11.out.sub (List.nil_sublist _) | exact H12.out.sub (List.nil_sublist _)⟩
            case measure => have := HLT.out; simp [intOf]; omega
      · have y1 : decide (k < N) = false := by simpa using hlt
        have y2 : decide ((k : Int) < (N : Int)) = false := by simp; omega
        have y3 : decide (1 ≤ N) = true := by simpa using HNN.out.2
        have y4 : decide ((1 : Int) ≤ (N : Int)) = true := by have := HNN.out.2; simp; omega
        go_wp2
        go_ret
        exact ⟨by first | rfl | simp [y3, y4], B5.out.trans (HI.out.bel.mono B5.out.size)⟩
end Go.Proofs.Ytmjogpacajbngaa
