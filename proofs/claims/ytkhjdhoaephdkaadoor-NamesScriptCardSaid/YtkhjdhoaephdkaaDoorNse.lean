/- The reference's New. No condition but those written. -/
import Derived.Test.YtkhjdhoaephdkaaDoorNsd
import Derived.Test.YtkhjdhoaephdkaaDoorDr
namespace Go.Proofs.YtkhjdhoaephdkaaDoor
open Go.RowKit

def rFixed : List RSym := fixedNames.map fun s => RSym.fresh s true
section
variable {W w w' : World} {ob : Nat} {lv : Value} {O : List RSym} {R : Heap}
theorem RAt.apart (h : RAt W w ob lv O R) {g : Nat} (hg : lv.ownBlock = some g) {x : Nat × Ast} (hx : x ∈ R) (e : x.1 = g := by rfl) : False := by
  have hn := h.own.nod
  unfold rTab at hn
  rw [rowOf_some hg] at hn
  simp only [Heap.blocks, List.cons_append, List.nil_append, List.map_cons, List.map_append, List.nodup_cons, List.mem_cons, List.mem_append] at hn
  exact hn.2.1 (.inr (List.mem_map.2 ⟨x, hx, e⟩))
theorem rfixed_len : rFixed.length = 62 := by
  unfold rFixed
  rw [List.length_map]
  kernel_rfl
set_option maxRecDepth 100000 in
set_option maxHeartbeats 16000000 in
theorem rnew_any (h : Own W w R) : Calls Tryd.prog 33 #[] w fun e w' => ∃ ob lv, e = .returned (.pointer (some ⟨ob, 0, none⟩)) ∧ RAt W w' ob lv rFixed R := by
  have HFX := hide (fun w => fixed_any w)
  have H := hide h
  obtain ⟨FN, hFN⟩ : ∃ FN, FN = fixedNames := ⟨_, rfl⟩
  have hFL : FN.length = 62 := by rw [hFN]; kernel_rfl
  have HFC := hide (show fixedCells = (FN.map Value.string).toArray by rw [hFN]; rfl)
  have HRF := hide (show rFixed = FN.map fun s => RSym.fresh s true by rw [hFN]; rfl)
  have HFL := hide hFL
  obtain ⟨i0, hi0, hz0, hz1, hz2⟩ := info_parts info_rsym
  have HI := hide hi0
  have HZ := hide hz0
  have HZ1 := hide hz1
  have HZ2 := hide hz2
  clear h hFN hFL hi0 hz0 hz1 hz2
  go_enter Tryd.func33, Tryd.ntmps33
  go_wp2_with fail
  obtain ⟨ob, hob⟩ : ∃ ob, ob = w.heap.size := ⟨_, rfl⟩
  have H1 := hide (show Own W (w.alloc (.cells #[.slice none 0 0] 70)) ((ob, .cells 70 #[.slice none 0 0]) :: R) from by rw [hob]; exact H.out.newCells _ _)
  rw [← hob]
  clear hob
  generalize w.alloc (.cells #[.slice none 0 0] 70) = w1 at H1 ⊢
  refine Calls.mono (HFX.out w1) ?_
  rintro r w2 ⟨rfl, hb, hbel⟩
  obtain ⟨fb, hfb⟩ : ∃ fb, fb = w1.heap.size := ⟨_, rfl⟩
  rw [← hfb] at hb ⊢
  have H2 := hide (show RAt W w2 ob (.slice none 0 0) [] ((fb, .cells 9 fixedCells) :: R) from by
    have h1 := H1.out.below hbel
    have h2 : Own W w2 ((fb, .cells 9 fixedCells) :: ((ob, .cells 70 #[.slice none 0 0]) :: R)) := h1.join (by rw [hfb]; exact H1.out.not_in (Nat.le_refl _)) (by rw [hfb]; exact H1.out.bel.size) hb
    exact ⟨h2.perm (List.Perm.swap _ _ _), RowOk.nil, (fun x hx => by cases hx), Nat.zero_le _⟩)
  clear hb hbel hfb H1 HFX
  go_wp2
  go_loopw [3] (fun i wr => ∃ (q : Nat) (lv : Value), q ≤ 62 ∧ i = .int .i64 (q : Int) ∧ RAt W wr ob lv ((FN.take q).map fun s => RSym.fresh s true) ((fb, .cells 9 fixedCells) :: R)) (fun i _ => 62 - (intOf i).toNat)
  case atStart => exact ⟨0, _, by omega, rfl, H2.out⟩
  case round =>
    clear H2
    obtain ⟨q, lv, hq, rfl, hr⟩ := hrel
    have HR0 := hide hr
    clear hr
    by_cases hlt : q < 62
    · have y2 : decide ((q : Int) < 62) = true := by simp; omega
      have y3 : (q : Int) < 62 := by omega
      have q0 : (0 : Int) ≤ (q : Int) := by omega
      have wrq : IntKind.i64.wrap ((q : Int) + 1) = (q : Int) + 1 := IntWalk.i64_in _ (by omega)
      obtain ⟨s, hs⟩ : ∃ s, FN[q]? = some s := ⟨_, List.getElem?_eq_getElem (by rw [HFL.out]; exact hlt)⟩
      have HNX := hide (show ((FN.take q).map fun s => RSym.fresh s true) ++ [RSym.fresh s true] = (FN.take (q + 1)).map fun s => RSym.fresh s true by rw [List.take_add_one, hs]; simp)
      have HQL := hide (show q = ((FN.take q).map fun s => RSym.fresh s true).length by rw [List.length_map, List.length_take, HFL.out]; omega)
      have HCL := hide (fun w' (hk : Blk w' fb 9 fixedCells) => (show w'.cell? ⟨fb, q, none⟩ = some (.string s) from by rw [hk.cell, HFC.out]; simp [hs]))
      generalize ((FN.take q).map fun s => RSym.fresh s true) = O at *
      obtain ⟨A, c, hlv, -⟩ := HR0.out.c0
      rw [← HQL.out] at hlv
      subst hlv
      have HSL := hide (fun w' (hh : RAt W w' ob (.slice A q c) O ((fb, .cells 9 fixedCells) :: R)) => (show Sl w' 95 6 (.slice A q c) q (rows RSym.cells O) from by have := hh.sl; rwa [← HQL.out] at this))
      have HQ := hide (fun w' (hh : RAt W w' ob (.slice A q c) O ((fb, .cells 9 fixedCells) :: R)) => (show w'.cell? ⟨ob, 0, none⟩ = some (.slice A q c) ∧ w'.cell? ⟨fb, q, none⟩ = some (.string s) from ⟨by rw [hh.blk.cell]; rfl, HCL.out _ (hh.rest.blk (List.mem_cons_self ..))⟩))
      have HFO := hide (rows_cells (enc := RSym.cells) (L := [RSym.fresh s true]) fun z hz => rsym_one (by simp at hz; subst hz; exact fresh_ok s true))
      have HLT := hide hlt
      clear hs hlt
      go_upto_region 6 with fail
      obtain ⟨w5, rfl⟩ : ∃ w : World, w = wr := ⟨_, rfl⟩
      have H5 := hide (HR0.out.below (Below.refl _ _).drew)
      refine wp_region_d (S := fun w' => w'.cell? ⟨ob, 0, none⟩ = some (.slice A q c) ∧ w'.cell? ⟨fb, q, none⟩ = some (.string s)) (D := [14]) (by kernel_rfl) ?_
      change wpAnyD _ _ _ _ _ _ _ _ _ w5.drew
      generalize w5.drew = w0 at H5 ⊢
      have hS := HQ.out _ H5.out
      refine wpAnyD_takeW (i := 0) (oi := { dst := some 13, op := Op.move (Operand.tmp 1), type := 62, pos := "ref.go:31", after := #[], guard := none }) (v := ?_) rfl (by kernel_rfl) (by kernel_rfl) (by kernel_rfl) (fun _ _ _ h => h) (Or.inl ⟨by rfl, ?_⟩) ?_
      rotate_left
      · intro w hSw
        clear hSw
        go_simp
        all_goals with_reducible rfl
      simp only [Act.put, List.setIfInBounds_toArray, List.set_cons_zero, List.set_cons_succ]
      refine wpAnyD_takeW (i := 1) (oi := { dst := some 14, op := Op.move (Operand.tmp 1), type := 62, pos := "ref.go:31", after := #[], guard := none }) (v := ?_) rfl (by kernel_rfl) (by kernel_rfl) (by kernel_rfl) (fun _ _ _ h => h) (Or.inl ⟨by rfl, ?_⟩) ?_
      rotate_left
      · intro w hSw
        clear hSw
        go_simp
        all_goals with_reducible rfl
      simp only [Act.put, List.setIfInBounds_toArray, List.set_cons_zero, List.set_cons_succ]
      refine wpAnyD_takeW (i := 2) (oi := { dst := some 15, op := Op.nilCheck (Operand.tmp 14), type := 0, pos := "ref.go:31", after := #[{ on := 1, ground := Ground.data }], guard := none }) (v := ?_) rfl (by kernel_rfl) (by kernel_rfl) (by kernel_rfl) (fun _ _ _ h => h) (Or.inl ⟨by rfl, ?_⟩) ?_
      rotate_left
      · intro w hSw
        clear hSw
        go_simp
        all_goals with_reducible rfl
      simp only [Act.put, List.setIfInBounds_toArray, List.set_cons_zero, List.set_cons_succ]
      refine wpAnyD_takeW (i := 3) (oi := { dst := some 16, op := Op.fieldAddr 70 (Operand.tmp 15) 0, type := 0, pos := "ref.go:31", after := #[{ on := 2, ground := Ground.data }], guard := none }) (v := ?_) rfl (by kernel_rfl) (by kernel_rfl) (by kernel_rfl) (fun _ _ _ h => h) (Or.inl ⟨by rfl, ?_⟩) ?_
      rotate_left
      · intro w hSw
        clear hSw
        go_simp
        all_goals with_reducible rfl
      simp only [Act.put, List.setIfInBounds_toArray, List.set_cons_zero, List.set_cons_succ]
      refine wpAnyD_take (i := 4) (oi := { dst := some 17, op := Op.load 68 (Operand.tmp 16), type := 68, pos := "ref.go:31", after := #[{ on := 3, ground := Ground.data }], guard := none }) (v := ?_) rfl (by kernel_rfl) (by kernel_rfl) (by kernel_rfl) (by kernel_rfl) (by kernel_rfl) (fun _ _ _ h => h) (Or.inl ⟨by rfl, ?_⟩) hS ?_
      rotate_left
      · intro w hSw
        obtain ⟨s1, s2⟩ := hSw
        go_simp
        all_goals with_reducible rfl
      simp only [Act.put, List.setIfInBounds_toArray, List.set_cons_zero, List.set_cons_succ]
      refine wpAnyD_takeW (i := 5) (oi := { dst := some 18, op := Op.move (Operand.tmp 2), type := 30, pos := "ref.go:31", after := #[], guard := none }) (v := ?_) rfl (by kernel_rfl) (by kernel_rfl) (by kernel_rfl) (fun _ _ _ h => h) (Or.inl ⟨by rfl, ?_⟩) ?_
      rotate_left
      · intro w hSw
        clear hSw
        go_simp
        all_goals with_reducible rfl
      simp only [Act.put, List.setIfInBounds_toArray, List.set_cons_zero, List.set_cons_succ]
      refine wpAnyD_takeW (i := 6) (oi := { dst := some 19, op := Op.move (Operand.tmp 3), type := 3, pos := "ref.go:31", after := #[], guard := none }) (v := ?_) rfl (by kernel_rfl) (by kernel_rfl) (by kernel_rfl) (fun _ _ _ h => h) (Or.inl ⟨by rfl, ?_⟩) ?_
      rotate_left
      · intro w hSw
        clear hSw
        go_simp
        all_goals with_reducible rfl
      simp only [Act.put, List.setIfInBounds_toArray, List.set_cons_zero, List.set_cons_succ]
      refine wpAnyD_takeW (i := 7) (oi := { dst := some 20, op := Op.indexAddr 30 (Operand.tmp 18) (Operand.tmp 19), type := 0, pos := "ref.go:31", after := #[{ on := 5, ground := Ground.data }, { on := 6, ground := Ground.data }], guard := none }) (v := ?_) rfl (by kernel_rfl) (by kernel_rfl) (by kernel_rfl) (fun _ _ _ h => h) (Or.inl ⟨by rfl, ?_⟩) ?_
      rotate_left
      · intro w hSw
        clear hSw
        go_simp
        all_goals with_reducible rfl
      simp only [Act.put, List.setIfInBounds_toArray, List.set_cons_zero, List.set_cons_succ]
      refine wpAnyD_take (i := 8) (oi := { dst := some 21, op := Op.load 9 (Operand.tmp 20), type := 9, pos := "ref.go:31", after := #[{ on := 7, ground := Ground.data }], guard := none }) (v := ?_) rfl (by kernel_rfl) (by kernel_rfl) (by kernel_rfl) (by kernel_rfl) (by kernel_rfl) (fun _ _ _ h => h) (Or.inl ⟨by rfl, ?_⟩) hS ?_
      rotate_left
      · intro w hSw
        obtain ⟨s1, s2⟩ := hSw
        go_simp
        all_goals with_reducible rfl
      simp only [Act.put, List.setIfInBounds_toArray, List.set_cons_zero, List.set_cons_succ]
      refine wpAnyD_takeW (i := 9) (oi := { dst := some 22, op := Op.build 95 #[(0, Operand.tmp 21), (1, Operand.const (Value.bool true))], type := 95, pos := "ref.go:31", after := #[{ on := 8, ground := Ground.data }], guard := none }) (v := ?_) rfl (by kernel_rfl) (by kernel_rfl) (by kernel_rfl) (fun _ _ _ h => h) (Or.inl ⟨by rfl, ?_⟩) ?_
      rotate_left
      · intro w hSw
        clear hSw
        go_simp
        all_goals with_reducible rfl
      simp only [Act.put, List.setIfInBounds_toArray, List.set_cons_zero, List.set_cons_succ]
      clear hS
      refine wpAnyD_one (i := 10) (o := { dst := some 23, op := Op.buildSlice 68 1 #[(0, Operand.tmp 22)], type := 68, pos := "ref.go:31", after := #[{ on := 9, ground := Ground.data }], guard := none }) (by kernel_rfl) rfl (fun K hK => ?_)
      have b1 := hide ((Below.refl w0.heap.size w0).alloc (Nat.le_refl _) (.cells #[.string s, .bool true, .bool false, .int .i64 0, .int .i64 0, .slice none 0 0] 95))
      have H6 := hide (H5.out.below b1.out)
      go_simp
      refine hK _ _ (fun _ _ => HQ.out _ H6.out) ?_
      clear hK K
      try simp only [Act.put, List.setIfInBounds_toArray, List.set_cons_zero, List.set_cons_succ]
      refine wpAnyD_one (i := 11) (o := { dst := some 24, op := Op.call { callee := Callee.builtin Builtin.append, args := #[Operand.tmp 17, Operand.tmp 23], argTypes := #[68, 68] }, type := 68, pos := "ref.go:31", after := #[{ on := 4, ground := Ground.data }, { on := 10, ground := Ground.data }], guard := none }) (by kernel_rfl) rfl (fun K hK => ?_)
      refine step_append_w (by rfl) (.tmp 17) (.tmp 23) 68 rfl 95 i0 _ 6 64 Tryd.underlying68 HI.out HZ.out HZ1.out HZ2.out rfl (.slice A q c) q (rows RSym.cells O) rfl (HSL.out _ H6.out) _ rfl 1 (rows RSym.cells [RSym.fresh s true]) (rd_elem w0 95 6 (RSym.fresh s true).cells rfl) HFO.out (by unfold maxLen; omega) (by omega) ?_
      intro v2 w2 hs2 ho2 hv2
      obtain ⟨A2, c2, rfl, -, -⟩ := hs2.form
      have HW2 := hide (show (w2.cell? ⟨ob, 0, none⟩ = some (.slice A q c) ∧ w2.cell? ⟨fb, q, none⟩ = some (.string s)) ∧ w2.frozen? ⟨ob, 0, none⟩ = false from (by
        have k1 := H6.out.blk.only ho2 (fun e => H6.out.ne e rfl)
        have k2 := (H6.out.rest.blk (List.mem_cons_self ..)).only ho2 (fun e => H6.out.apart e (List.mem_cons_self ..))
        exact ⟨⟨by rw [k1.cell]; rfl, (HCL.out _ k2)⟩, k1.frozen 0⟩))
      have HR := hide (H6.out.snoc (by have := HQL.out; omega) (fresh_ok s true) rfl (by rw [← HQL.out]; exact hs2) ho2 hv2)
      clear hs2 ho2 hv2
      refine hK _ _ (fun _ _ => HW2.out.1) ?_
      clear hK K
      try simp only [Act.put, List.setIfInBounds_toArray, List.set_cons_zero, List.set_cons_succ]
      refine wpAnyD_takeW (i := 12) (oi := { dst := some 25, op := Op.nilCheck (Operand.tmp 13), type := 0, pos := "ref.go:31", after := #[{ on := 0, ground := Ground.data }, { on := 0, ground := Ground.phase }, { on := 1, ground := Ground.phase }, { on := 2, ground := Ground.phase }, { on := 3, ground := Ground.phase }, { on := 4, ground := Ground.phase }, { on := 5, ground := Ground.phase }, { on := 6, ground := Ground.phase }, { on := 7, ground := Ground.phase }, { on := 8, ground := Ground.phase }, { on := 9, ground := Ground.phase }, { on := 10, ground := Ground.phase }, { on := 11, ground := Ground.phase }], guard := none }) (v := ?_) rfl (by kernel_rfl) (by kernel_rfl) (by kernel_rfl) (fun _ _ _ h => h) (Or.inl ⟨by rfl, ?_⟩) ?_
      rotate_left
      · intro w hSw
        clear hSw
        go_simp
        all_goals with_reducible rfl
      simp only [Act.put, List.setIfInBounds_toArray, List.set_cons_zero, List.set_cons_succ]
      refine wpAnyD_takeW (i := 13) (oi := { dst := some 26, op := Op.fieldAddr 70 (Operand.tmp 25) 0, type := 0, pos := "ref.go:31", after := #[{ on := 12, ground := Ground.data }, { on := 0, ground := Ground.phase }, { on := 1, ground := Ground.phase }, { on := 2, ground := Ground.phase }, { on := 3, ground := Ground.phase }, { on := 4, ground := Ground.phase }, { on := 5, ground := Ground.phase }, { on := 6, ground := Ground.phase }, { on := 7, ground := Ground.phase }, { on := 8, ground := Ground.phase }, { on := 9, ground := Ground.phase }, { on := 10, ground := Ground.phase }, { on := 11, ground := Ground.phase }], guard := none }) (v := ?_) rfl (by kernel_rfl) (by kernel_rfl) (by kernel_rfl) (fun _ _ _ h => h) (Or.inl ⟨by rfl, ?_⟩) ?_
      rotate_left
      · intro w hSw
        clear hSw
        go_simp
        all_goals with_reducible rfl
      simp only [Act.put, List.setIfInBounds_toArray, List.set_cons_zero, List.set_cons_succ]
      have fz := HW2.out.2
      have hS := HW2.out.1
      have hs0 := hS.1
      refine wpAnyD_one (i := 14) (o := { dst := none, op := Op.store 68 (Operand.tmp 26) (Operand.tmp 24), type := 0, pos := "ref.go:31", after := #[{ on := 13, ground := Ground.data }, { on := 11, ground := Ground.data }, { on := 11, ground := Ground.chain }, { on := 0, ground := Ground.phase }, { on := 1, ground := Ground.phase }, { on := 2, ground := Ground.phase }, { on := 3, ground := Ground.phase }, { on := 4, ground := Ground.phase }, { on := 5, ground := Ground.phase }, { on := 6, ground := Ground.phase }, { on := 7, ground := Ground.phase }, { on := 8, ground := Ground.phase }, { on := 9, ground := Ground.phase }, { on := 10, ground := Ground.phase }, { on := 11, ground := Ground.phase }], guard := none }) (by kernel_rfl) rfl (fun K hK => ?_)
      go_simp
      refine hK _ _ (fun h => by cases h) ?_
      clear hK K
      try simp only [Act.put, List.setIfInBounds_toArray, List.set_cons_zero, List.set_cons_succ]
      refine wpAnyD_done (by kernel_rfl) ?_ _
      have HR2 := hide (show RAt W (w2.setCell ⟨ob, 0, none⟩ (.slice A2 (q + 1) c2)) ob (.slice A2 (q + 1) c2) ((FN.take (q + 1)).map fun s => RSym.fresh s true) ((fb, .cells 9 fixedCells) :: R) from HNX.out ▸ HR.out)
      go_wp2
      go_roundw
      case rel => exact ⟨q + 1, _, HLT.out, by go_num, HR2.out⟩
      case measure => have := HLT.out; simp [intOf]; omega
    · have y2 : decide ((q : Int) < 62) = false := by simp; omega
      have y3 : ¬ (q : Int) < 62 := by omega
      obtain rfl : q = 62 := by omega
      have HE := hide (show ((FN.take 62).map fun s => RSym.fresh s true) = rFixed by rw [HRF.out, List.take_of_length_le (by rw [HFL.out]; omega)])
      go_wp2
      go_ret
      have h1 := HR0.out
      rw [HE.out] at h1
      refine ⟨ob, rfl, _, ⟨h1.own.sub ?_, h1.ok, h1.okp, h1.len⟩⟩
      exact (List.Sublist.refl _).append (List.sublist_cons_self ..)
end
end Go.Proofs.YtkhjdhoaephdkaaDoor
