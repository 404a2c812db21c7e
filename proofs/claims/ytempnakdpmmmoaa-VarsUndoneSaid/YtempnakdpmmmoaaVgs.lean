/- Variables: the first part of Copy. No condition but those written. -/
import Derived.Test.YtempnakdpmmmoaaVgt
import Derived.Deep.DeepCutAuto
namespace Go.Proofs.Ytempnakdpmmmoaa
open Go.RowKit
attribute [local go_sem] neq_cells eql_cells

section
variable {P : Program} {ops : Array Oper} {Q : Exit → Act → World → Prop} {md : Region.Mode} {S : World → Prop} {D : List Nat}
theorem wpAnyD_two {i j : Nat} {o p : Oper} {fuel : Nat} {listed : Array Bool} {a : Act} {w : World} (hr : Region.ready md ops listed = [i, j]) (ho : ops[i]? = some o) (hp : ops[j]? = some p)
    (h1 : ∀ K : Act → World → Prop, (∀ a' w', (D.contains i = false → S w → S w') → wpAnyD P md ops Q S D fuel (listed.setIfInBounds i true) a' w' → K a' w') → if Region.wanted o (yielded ops a.tmps) = true then Oper.wp P o a w K Q else K (a.put o.dst undef) w)
    (h2 : ∀ K : Act → World → Prop, (∀ a' w', (D.contains j = false → S w → S w') → wpAnyD P md ops Q S D fuel (listed.setIfInBounds j true) a' w' → K a' w') → if Region.wanted p (yielded ops a.tmps) = true then Oper.wp P p a w K Q else K (a.put p.dst undef) w) : wpAnyD P md ops Q S D (fuel + 1) listed a w := by
  refine wpAnyD_all hr (by simp) fun k hk => ?_
  rcases List.mem_cons.1 hk with rfl | hk
  · exact wpOp_step ho fun K hK => h1 K fun a' w' h1 h2 => hK a' w' ⟨h1, h2⟩
  · obtain rfl : k = j := by simpa using hk
    exact wpOp_step hp fun K hK => h2 K fun a' w' h1 h2 => hK a' w' ⟨h1, h2⟩
theorem wpAnyD_three {i j k : Nat} {o p q : Oper} {fuel : Nat} {listed : Array Bool} {a : Act} {w : World} (hr : Region.ready md ops listed = [i, j, k]) (ho : ops[i]? = some o) (hp : ops[j]? = some p) (hq : ops[k]? = some q)
    (h1 : ∀ K : Act → World → Prop, (∀ a' w', (D.contains i = false → S w → S w') → wpAnyD P md ops Q S D fuel (listed.setIfInBounds i true) a' w' → K a' w') → if Region.wanted o (yielded ops a.tmps) = true then Oper.wp P o a w K Q else K (a.put o.dst undef) w)
    (h2 : ∀ K : Act → World → Prop, (∀ a' w', (D.contains j = false → S w → S w') → wpAnyD P md ops Q S D fuel (listed.setIfInBounds j true) a' w' → K a' w') → if Region.wanted p (yielded ops a.tmps) = true then Oper.wp P p a w K Q else K (a.put p.dst undef) w)
    (h3 : ∀ K : Act → World → Prop, (∀ a' w', (D.contains k = false → S w → S w') → wpAnyD P md ops Q S D fuel (listed.setIfInBounds k true) a' w' → K a' w') → if Region.wanted q (yielded ops a.tmps) = true then Oper.wp P q a w K Q else K (a.put q.dst undef) w) : wpAnyD P md ops Q S D (fuel + 1) listed a w := by
  refine wpAnyD_all hr (by simp) fun m hm => ?_
  rcases List.mem_cons.1 hm with rfl | hm
  · exact wpOp_step ho fun K hK => h1 K fun a' w' h1 h2 => hK a' w' ⟨h1, h2⟩
  · rcases List.mem_cons.1 hm with rfl | hm
    · exact wpOp_step hp fun K hK => h2 K fun a' w' h1 h2 => hK a' w' ⟨h1, h2⟩
    · obtain rfl : m = k := by simpa using hm
      exact wpOp_step hq fun K hK => h3 K fun a' w' h1 h2 => hK a' w' ⟨h1, h2⟩
end
theorem subC {W w : World} {x : Nat × Ast} {L Bs : Heap} (_ : Own W w (x :: L)) (h : ∀ y ∈ Bs, y ∈ L) : ∀ y ∈ Bs, y ∈ x :: L := fun y hy => List.mem_cons_of_mem _ (h y hy)
theorem subA {W w : World} {M L Bs : Heap} (_ : Own W w (M ++ L)) (h : ∀ y ∈ Bs, y ∈ L) : ∀ y ∈ Bs, y ∈ M ++ L := fun y hy => List.mem_append_right _ (h y hy)
/-- makeMap and box on a list of the law's own. -/
theorem step_makeMap_own {P : Program} {ops : Array Oper} {o : Oper} {a : Act} {W w : World} {L : Heap} {K : Act → World → Prop} {Q : Exit → Act → World → Prop} {E : Prop} {t : TypeId} (hg : o.guard = none) (hop : o.op = .makeMap t none) (h : Own W w L)
    (hK : ∀ d w', Own W w' ((d, .map []) :: L) → K (a.put o.dst (.map (some d))) w') : if Region.wanted o (yielded ops a.tmps) = true then Oper.wp P o a w K Q else E := by
  have hw : Region.wanted o (yielded ops a.tmps) = true := by simp [Region.wanted, hg]
  rw [if_pos hw]
  unfold Oper.wp
  simp only [execOp, hop, Sem.run_bind, Result.andThen]
  exact hK _ _ h.newMap
theorem step_box_own {P : Program} {ops : Array Oper} {o : Oper} {a : Act} {W w : World} {L : Heap} {K : Act → World → Prop} {Q : Exit → Act → World → Prop} {E : Prop} {t : TypeId} {x : Operand} {v : Array Value} (hg : o.guard = none) (hop : o.op = .box t x) (hx : a.eval x = .agg v) (h : Own W w L)
    (hK : ∀ d w', Own W w' ((d, .cells t v) :: L) → K (a.put o.dst (.pointer (some ⟨d, 0, none⟩))) w') : if Region.wanted o (yielded ops a.tmps) = true then Oper.wp P o a w K Q else E := by
  have hw : Region.wanted o (yielded ops a.tmps) = true := by simp [Region.wanted, hg]
  rw [if_pos hw]
  unfold Oper.wp
  have hr : (Instr.box t (.agg v)).run P w = .ok (.pointer (some ⟨w.heap.size, 0, none⟩)) (w.alloc (.cells v t)) := by
    unfold Instr.box
    simp [Value.cells, go_sem]
  simp only [execOp, hop, hx, hr, Sem.run_bind, Result.andThen]
  exact hK _ _ (h.newCells t v)
theorem cp_perm0 (o a b c : Nat × Ast) (D B : Heap) : (o :: (D ++ (c :: (b :: (a :: B))))).Perm (o :: a :: b :: c :: (D ++ B)) := by
  classical
  rw [List.perm_iff_count]
  intro x
  simp only [List.count_append, List.count_cons]
  omega
theorem cp_perm1 (o a b c : Nat × Ast) (D B : Heap) : (o :: (D ++ (b :: (c :: (a :: B))))).Perm (o :: a :: b :: c :: (D ++ B)) := by
  classical
  rw [List.perm_iff_count]
  intro x
  simp only [List.count_append, List.count_cons]
  omega
theorem cp_perm2 (o a b c : Nat × Ast) (D B : Heap) : (o :: (b :: (D ++ (c :: (a :: B))))).Perm (o :: a :: b :: c :: (D ++ B)) := by
  classical
  rw [List.perm_iff_count]
  intro x
  simp only [List.count_append, List.count_cons]
  omega
theorem cp_perm3 (o a b c : Nat × Ast) (D B : Heap) : (o :: (D ++ (c :: (a :: (b :: B))))).Perm (o :: a :: b :: c :: (D ++ B)) := by
  classical
  rw [List.perm_iff_count]
  intro x
  simp only [List.count_append, List.count_cons]
  omega
theorem cp_perm4 (o a b c : Nat × Ast) (D B : Heap) : (o :: (D ++ (a :: (c :: (b :: B))))).Perm (o :: a :: b :: c :: (D ++ B)) := by
  classical
  rw [List.perm_iff_count]
  intro x
  simp only [List.count_append, List.count_cons]
  omega
theorem cp_perm5 (o a b c : Nat × Ast) (D B : Heap) : (o :: (a :: (D ++ (c :: (b :: B))))).Perm (o :: a :: b :: c :: (D ++ B)) := by
  classical
  rw [List.perm_iff_count]
  intro x
  simp only [List.count_append, List.count_cons]
  omega
theorem cp_perm6 (o a b c : Nat × Ast) (D B : Heap) : (o :: (D ++ (b :: (a :: (c :: B))))).Perm (o :: a :: b :: c :: (D ++ B)) := by
  classical
  rw [List.perm_iff_count]
  intro x
  simp only [List.count_append, List.count_cons]
  omega
theorem cp_perm7 (o a b c : Nat × Ast) (D B : Heap) : (o :: (b :: (D ++ (a :: (c :: B))))).Perm (o :: a :: b :: c :: (D ++ B)) := by
  classical
  rw [List.perm_iff_count]
  intro x
  simp only [List.count_append, List.count_cons]
  omega
theorem cp_perm8 (o a b c : Nat × Ast) (D B : Heap) : (o :: (D ++ (a :: (b :: (c :: B))))).Perm (o :: a :: b :: c :: (D ++ B)) := by
  classical
  rw [List.perm_iff_count]
  intro x
  simp only [List.count_append, List.count_cons]
  omega
theorem cp_perm9 (o a b c : Nat × Ast) (D B : Heap) : (o :: (a :: (D ++ (b :: (c :: B))))).Perm (o :: a :: b :: c :: (D ++ B)) := by
  classical
  rw [List.perm_iff_count]
  intro x
  simp only [List.count_append, List.count_cons]
  omega
theorem cp_perm10 (o a b c : Nat × Ast) (D B : Heap) : (o :: (b :: (a :: (D ++ (c :: B))))).Perm (o :: a :: b :: c :: (D ++ B)) := by
  classical
  rw [List.perm_iff_count]
  intro x
  simp only [List.count_append, List.count_cons]
  omega
theorem cp_perm11 (o a b c : Nat × Ast) (D B : Heap) : (o :: (a :: (b :: (D ++ (c :: B))))).Perm (o :: a :: b :: c :: (D ++ B)) := by
  classical
  rw [List.perm_iff_count]
  intro x
  simp only [List.count_append, List.count_cons]
  omega
section
variable {W w w' : World} {b : Vb} {s : Vst} {R : Heap}
theorem perm5 (A Rw V N R : Heap) : (A ++ (Rw ++ (V ++ (N ++ R)))).Perm ((A ++ ([] ++ ([] ++ (N ++ Rw)))) ++ (V ++ R)) := by
  classical
  rw [List.perm_iff_count]
  intro x
  simp only [List.count_append, List.count_nil]
  omega
/-- The copy as it begins. -/
def st0 (s : Vst) : Vst := ⟨[], [], s.marks, s.notes, s.scope⟩
theorem st0_ok {s : Vst} (ok : s.Ok) : (st0 s).Ok := by
  refine ⟨List.nodup_nil, ?_, List.nodup_nil, ?_, ?_, ok.sc, ok.ns, ok.nl⟩ <;> (intro e he; cases he)
theorem VarsAt.of_own {W w : World} {b : Vb} {s : Vst} {R : Heap} (ho : Own W w (s.heap b ++ R)) (hr : RowOk b.nv s.notes.length) : VarsAt W w b s R :=
  ⟨ho, ho.slOf (fun _ hx => List.mem_append_left _ (List.mem_append_right _ (List.mem_append_right _ (List.mem_append_right _ (List.mem_append_right _ hx))))) (rows_len nte_len _) hr⟩
/-- What is copied lies there. -/
structure Src (q : World) (b : Vb) (s : Vst) : Prop where
  vb : Blk q b.vb 57 #[.map (some b.db), .map (some b.lb), .map (some b.mb), b.nv, .int .i64 s.scope]
  db : MapIs q b.db (entPairs s.defs)
  lb : MapIs q b.lb (locPairs s.locs)
  def_ : ∀ e ∈ s.defs, Blk q e.g 60 e.c.cells.toArray
  loc : ∀ x ∈ s.locs, MapIs q x.g (entPairs x.es)
  ent : ∀ x ∈ s.locs, ∀ e ∈ x.es, Blk q e.g 60 e.c.cells.toArray
section
variable {W w q : World} {b bo : Vb} {s so : Vst} {R M X : Heap}
theorem vrest_head {x : Nat × Ast} (hx : x ∈ b.head s) : x ∈ vrest b s := List.mem_append_left _ hx
theorem vrest_def {e : Ent} (he : e ∈ s.defs) : (e.g, celA e.c) ∈ vrest b s := List.mem_append_right _ (List.mem_append_left _ (List.mem_map.2 ⟨e, he, rfl⟩))
theorem vrest_loc {x : Loc} (hx : x ∈ s.locs) : (x.g, Ast.map (entPairs x.es)) ∈ vrest b s := List.mem_append_right _ (List.mem_append_right _ (List.mem_append_left _ (List.mem_flatMap.2 ⟨x, hx, List.mem_cons_self ..⟩)))
theorem vrest_ent {x : Loc} (hx : x ∈ s.locs) {e : Ent} (he : e ∈ x.es) : (e.g, celA e.c) ∈ vrest b s := List.mem_append_right _ (List.mem_append_right _ (List.mem_append_left _ (List.mem_flatMap.2 ⟨x, hx, List.mem_cons_of_mem _ (List.mem_map.2 ⟨e, he, rfl⟩)⟩)))
theorem vrest_db : b.db ∈ Heap.blocks (vrest b s) := mem_blocks (a := .map (entPairs s.defs)) (vrest_head (by simp [Vb.head]))
theorem vrest_lb : b.lb ∈ Heap.blocks (vrest b s) := mem_blocks (a := .map (locPairs s.locs)) (vrest_head (by simp [Vb.head]))
theorem vrest_lx {x : Loc} (hx : x ∈ s.locs) : x.g ∈ Heap.blocks (vrest b s) := mem_blocks (vrest_loc hx)
theorem Src.of (h : Own W q (vrest b s ++ M)) : Src q b s :=
  ⟨h.blk (List.mem_append_left _ (vrest_head (by simp [Vb.head]))), h.mapIs (List.mem_append_left _ (vrest_head (by simp [Vb.head]))), h.mapIs (List.mem_append_left _ (vrest_head (by simp [Vb.head]))), fun _ he => h.blk (List.mem_append_left _ (vrest_def he)), fun _ hx => h.mapIs (List.mem_append_left _ (vrest_loc hx)), fun _ hx _ he => h.blk (List.mem_append_left _ (vrest_ent hx he))⟩
theorem perm6 (A X V R : Heap) : (A ++ (X ++ (V ++ R))).Perm (V ++ (A ++ (X ++ R))) := by
  classical
  rw [List.perm_iff_count]
  intro x
  simp only [List.count_append]
  omega
theorem src_of (h : Own W w (vrest b s ++ M)) (hq : VarsAt W q bo so (X ++ (frz w (vrest b s) ++ R))) : Src q b s := Src.of (h.thaw (hq.own.perm (perm6 _ _ _ _)))
theorem keep_of (h : Own W w (vrest b s ++ M)) (hq : VarsAt W q bo so (X ++ (frz w (vrest b s) ++ R))) : ∀ g ∈ Heap.blocks (vrest b s), q.heap[g]? = w.heap[g]? :=
  fun _ hg => h.keepF hq.own (fun _ hx => List.mem_append_right _ (List.mem_append_right _ (List.mem_append_left _ hx))) hg
theorem thaw_of (h : Own W w (vrest b s ++ M)) (hq : VarsAt W q bo so (frz w (vrest b s) ++ R)) : VarsAt W q bo so (vrest b s ++ R) :=
  hq.reR ((h.thaw (hq.own.perm (List.perm_append_comm_assoc _ _ _))).perm (List.perm_append_comm_assoc _ _ _))
end
/-- What Copy leaves. -/
def CopyG (W _w : World) (b : Vb) (s : Vst) (R : Heap) (r : Ending) (w' : World) : Prop := ∃ bo so, r = .returned (.pointer (some ⟨bo.vb, 0, none⟩)) ∧ VarsAt W w' bo so (vrest b s ++ R) ∧ so.Ok ∧ so.view = s.view
set_option maxRecDepth 100000 in
set_option maxHeartbeats 16000000 in
theorem copy_any (h : VarsAt W w b s R) (ok : s.Ok) : Calls Try.prog 31 #[.pointer (some ⟨b.vb, 0, none⟩)] w (CopyG W w b s R) := by
  have HM := hide (made_any h)
  obtain ⟨A0, c0, hnv, _, _⟩ := h.sl.form
  obtain ⟨n, hn⟩ : ∃ n, n = s.notes.length := ⟨_, rfl⟩
  rw [← hn] at hnv
  obtain ⟨Bs, hBs⟩ : ∃ Bs, Bs = s.heap b ++ R := ⟨_, rfl⟩
  have h0 := h.own.drew
  rw [← hBs] at h0
  have H0 := hide h0
  have HS0 := hide (fun (x : Nat × Ast) (hx : x ∈ Bs) => hx)
  have HMM := hide (show (b.mb, Ast.map (markPairs s.marks)) ∈ Bs from by rw [hBs]; simp [Vst.heap, Vb.head])
  have HS3 := hide (fun (q : World) (L : Heap) (ho : Own W q L) (hs : ∀ x ∈ Bs, x ∈ L) => (show q.cell? ⟨b.vb, 2, none⟩ = some (.map (some b.mb)) ∧ q.cell? ⟨b.vb, 3, none⟩ = some (.slice A0 n c0) ∧ q.cell? ⟨b.vb, 4, none⟩ = some (.int .i64 s.scope) from by
    have hb := ho.blk (g := b.vb) (t := 57) (cs := #[.map (some b.db), .map (some b.lb), .map (some b.mb), b.nv, .int .i64 s.scope]) (hs _ (by rw [hBs]; simp [Vst.heap, Vb.head]))
    rw [hnv] at hb
    exact ⟨hb.cell 2, hb.cell 3, hb.cell 4⟩))
  have HNC := hide (fun (q : World) (L : Heap) (ho : Own W q L) (hs : ∀ x ∈ Bs, x ∈ L) => (show Calls Try.prog 47 #[.slice A0 n c0] q fun e w' => ∃ A c, e = .returned (.slice A n c) ∧ RowOk (.slice A n c) n ∧ Own W w' (rowOf 64 6 (.slice A n c) n (rows Nte.cells s.notes) ++ L) from by
    have h9 := clone_nts_own (v := b.nv) (l := s.notes) ho (fun x hx => hs x (by rw [hBs]; exact List.mem_append_left _ (List.mem_append_right _ (List.mem_append_right _ (List.mem_append_right _ (List.mem_append_right _ hx)))))) h.sl.rowOk ok.nl
    rw [hnv, ← hn] at h9
    exact h9))
  have HBS := hide hBs
  have H := hide h
  have HOK := hide ok
  have HN := hide hn
  clear h ok h0 hnv hBs hn
  go_enter Try.func31, Try.ntmps31
  go_wp2_with fail
  refine (Calls.mono (HM.out)) ?_
  rintro e w2 ⟨rfl, rfl⟩
  go_upto_region 3 with fail
  go_cut [3] (fun u wx => ∃ ob d0 d1 gm A2 c2, u = .pointer (some ⟨ob, 0, none⟩) ∧ RowOk (.slice A2 n c2) n ∧ Own W wx ((ob, .cells 57 #[.map (some d0), .map (some d1), .map (some gm), .slice A2 n c2, .int .i64 s.scope]) :: (d0, .map []) :: (d1, .map []) :: (gm, .map (markPairs s.marks)) :: (rowOf 64 6 (.slice A2 n c2) n (rows Nte.cells s.notes) ++ Bs)))
  case first =>
    have hS := HS3.out _ _ H0.out HS0.out
    refine wp_region_d (S := fun y => y.cell? ⟨b.vb, 2, none⟩ = some (.map (some b.mb)) ∧ y.cell? ⟨b.vb, 3, none⟩ = some (.slice A0 n c0) ∧ y.cell? ⟨b.vb, 4, none⟩ = some (.int .i64 s.scope)) (D := []) (by kernel_rfl) ?_
    change wpAnyD _ _ _ _ _ _ _ _ _ w.drew
    refine wpAnyD_takeW (i := 2) (oi := { dst := some 15, op := Op.move (Operand.tmp 0), type := 24, pos := "vars.go:353", after := #[], guard := none }) (v := ?_) rfl (by kernel_rfl) (by kernel_rfl) (by kernel_rfl) (fun _ _ _ h => h) (Or.inl ⟨by rfl, ?_⟩) ?_
    rotate_left
    · intro w hSw
      clear hSw
      go_simp
      all_goals with_reducible rfl
    simp only [Act.put, List.setIfInBounds_toArray, List.set_cons_zero, List.set_cons_succ]
    refine wpAnyD_takeW (i := 3) (oi := { dst := some 16, op := Op.nilCheck (Operand.tmp 15), type := 0, pos := "vars.go:353", after := #[{ on := 2, ground := Ground.data }], guard := none }) (v := ?_) rfl (by kernel_rfl) (by kernel_rfl) (by kernel_rfl) (fun _ _ _ h => h) (Or.inl ⟨by rfl, ?_⟩) ?_
    rotate_left
    · intro w hSw
      clear hSw
      go_simp
      all_goals with_reducible rfl
    simp only [Act.put, List.setIfInBounds_toArray, List.set_cons_zero, List.set_cons_succ]
    refine wpAnyD_takeW (i := 4) (oi := { dst := some 17, op := Op.fieldAddr 57 (Operand.tmp 16) 2, type := 0, pos := "vars.go:353", after := #[{ on := 3, ground := Ground.data }], guard := none }) (v := ?_) rfl (by kernel_rfl) (by kernel_rfl) (by kernel_rfl) (fun _ _ _ h => h) (Or.inl ⟨by rfl, ?_⟩) ?_
    rotate_left
    · intro w hSw
      clear hSw
      go_simp
      all_goals with_reducible rfl
    simp only [Act.put, List.setIfInBounds_toArray, List.set_cons_zero, List.set_cons_succ]
    refine wpAnyD_take (i := 5) (oi := { dst := some 18, op := Op.load 54 (Operand.tmp 17), type := 54, pos := "vars.go:353", after := #[{ on := 4, ground := Ground.data }], guard := none }) (v := ?_) rfl (by kernel_rfl) (by kernel_rfl) (by kernel_rfl) (by kernel_rfl) (by kernel_rfl) (fun _ _ _ h => h) (Or.inl ⟨by rfl, ?_⟩) hS ?_
    rotate_left
    · intro w hSw
      obtain ⟨g2, g3, g4⟩ := hSw
      go_simp
      all_goals with_reducible rfl
    simp only [Act.put, List.setIfInBounds_toArray, List.set_cons_zero, List.set_cons_succ]
    refine wpAnyD_takeW (i := 7) (oi := { dst := some 20, op := Op.move (Operand.tmp 0), type := 24, pos := "vars.go:353", after := #[], guard := none }) (v := ?_) rfl (by kernel_rfl) (by kernel_rfl) (by kernel_rfl) (fun _ _ _ h => h) (Or.inl ⟨by rfl, ?_⟩) ?_
    rotate_left
    · intro w hSw
      clear hSw
      go_simp
      all_goals with_reducible rfl
    simp only [Act.put, List.setIfInBounds_toArray, List.set_cons_zero, List.set_cons_succ]
    refine wpAnyD_takeW (i := 8) (oi := { dst := some 21, op := Op.nilCheck (Operand.tmp 20), type := 0, pos := "vars.go:353", after := #[{ on := 7, ground := Ground.data }], guard := none }) (v := ?_) rfl (by kernel_rfl) (by kernel_rfl) (by kernel_rfl) (fun _ _ _ h => h) (Or.inl ⟨by rfl, ?_⟩) ?_
    rotate_left
    · intro w hSw
      clear hSw
      go_simp
      all_goals with_reducible rfl
    simp only [Act.put, List.setIfInBounds_toArray, List.set_cons_zero, List.set_cons_succ]
    refine wpAnyD_takeW (i := 9) (oi := { dst := some 22, op := Op.fieldAddr 57 (Operand.tmp 21) 3, type := 0, pos := "vars.go:353", after := #[{ on := 8, ground := Ground.data }], guard := none }) (v := ?_) rfl (by kernel_rfl) (by kernel_rfl) (by kernel_rfl) (fun _ _ _ h => h) (Or.inl ⟨by rfl, ?_⟩) ?_
    rotate_left
    · intro w hSw
      clear hSw
      go_simp
      all_goals with_reducible rfl
    simp only [Act.put, List.setIfInBounds_toArray, List.set_cons_zero, List.set_cons_succ]
    refine wpAnyD_take (i := 10) (oi := { dst := some 23, op := Op.load 55 (Operand.tmp 22), type := 55, pos := "vars.go:353", after := #[{ on := 9, ground := Ground.data }], guard := none }) (v := ?_) rfl (by kernel_rfl) (by kernel_rfl) (by kernel_rfl) (by kernel_rfl) (by kernel_rfl) (fun _ _ _ h => h) (Or.inl ⟨by rfl, ?_⟩) hS ?_
    rotate_left
    · intro w hSw
      obtain ⟨g2, g3, g4⟩ := hSw
      go_simp
      all_goals with_reducible rfl
    simp only [Act.put, List.setIfInBounds_toArray, List.set_cons_zero, List.set_cons_succ]
    refine wpAnyD_takeW (i := 12) (oi := { dst := some 25, op := Op.move (Operand.tmp 0), type := 24, pos := "vars.go:353", after := #[], guard := none }) (v := ?_) rfl (by kernel_rfl) (by kernel_rfl) (by kernel_rfl) (fun _ _ _ h => h) (Or.inl ⟨by rfl, ?_⟩) ?_
    rotate_left
    · intro w hSw
      clear hSw
      go_simp
      all_goals with_reducible rfl
    simp only [Act.put, List.setIfInBounds_toArray, List.set_cons_zero, List.set_cons_succ]
    refine wpAnyD_takeW (i := 13) (oi := { dst := some 26, op := Op.nilCheck (Operand.tmp 25), type := 0, pos := "vars.go:353", after := #[{ on := 12, ground := Ground.data }], guard := none }) (v := ?_) rfl (by kernel_rfl) (by kernel_rfl) (by kernel_rfl) (fun _ _ _ h => h) (Or.inl ⟨by rfl, ?_⟩) ?_
    rotate_left
    · intro w hSw
      clear hSw
      go_simp
      all_goals with_reducible rfl
    simp only [Act.put, List.setIfInBounds_toArray, List.set_cons_zero, List.set_cons_succ]
    refine wpAnyD_takeW (i := 14) (oi := { dst := some 27, op := Op.fieldAddr 57 (Operand.tmp 26) 4, type := 0, pos := "vars.go:353", after := #[{ on := 13, ground := Ground.data }], guard := none }) (v := ?_) rfl (by kernel_rfl) (by kernel_rfl) (by kernel_rfl) (fun _ _ _ h => h) (Or.inl ⟨by rfl, ?_⟩) ?_
    rotate_left
    · intro w hSw
      clear hSw
      go_simp
      all_goals with_reducible rfl
    simp only [Act.put, List.setIfInBounds_toArray, List.set_cons_zero, List.set_cons_succ]
    refine wpAnyD_take (i := 15) (oi := { dst := some 28, op := Op.load 3 (Operand.tmp 27), type := 3, pos := "vars.go:353", after := #[{ on := 14, ground := Ground.data }], guard := none }) (v := ?_) rfl (by kernel_rfl) (by kernel_rfl) (by kernel_rfl) (by kernel_rfl) (by kernel_rfl) (fun _ _ _ h => h) (Or.inl ⟨by rfl, ?_⟩) hS ?_
    rotate_left
    · intro w hSw
      obtain ⟨g2, g3, g4⟩ := hSw
      go_simp
      all_goals with_reducible rfl
    simp only [Act.put, List.setIfInBounds_toArray, List.set_cons_zero, List.set_cons_succ]
    refine wpAnyD_three (i := 0) (j := 1) (k := 6) (o := { dst := some 13, op := Op.makeMap 52 none, type := 52, pos := "vars.go:353", after := #[], guard := none }) (p := { dst := some 14, op := Op.makeMap 53 none, type := 53, pos := "vars.go:353", after := #[], guard := none }) (q := { dst := some 19, op := Op.call { callee := Callee.value (Operand.func 46), args := #[Operand.tmp 18], argTypes := #[54] }, type := 54, pos := "vars.go:353", after := #[{ on := 5, ground := Ground.data }], guard := none }) (by kernel_rfl) rfl rfl rfl (fun K hK => ?_) (fun K hK => ?_) (fun K hK => ?_)
    · refine step_makeMap_own rfl rfl H0.out (fun d0 w1 ho1 => ?_)
      have HO1 := hide ho1
      have US1 := hide (subC HO1.out HS0.out)
      clear ho1
      refine hK _ _ (fun _ _ => HS3.out _ _ HO1.out US1.out) ?_
      clear hK K
      try simp only [Act.put, List.setIfInBounds_toArray, List.set_cons_zero, List.set_cons_succ]
      refine wpAnyD_two (i := 1) (j := 6) (o := { dst := some 14, op := Op.makeMap 53 none, type := 53, pos := "vars.go:353", after := #[], guard := none }) (p := { dst := some 19, op := Op.call { callee := Callee.value (Operand.func 46), args := #[Operand.tmp 18], argTypes := #[54] }, type := 54, pos := "vars.go:353", after := #[{ on := 5, ground := Ground.data }], guard := none }) (by kernel_rfl) rfl rfl (fun K hK => ?_) (fun K hK => ?_)
      · refine step_makeMap_own rfl rfl HO1.out (fun d1 w2 ho2 => ?_)
        have HO2 := hide ho2
        have US2 := hide (subC HO2.out US1.out)
        clear ho2
        refine hK _ _ (fun _ _ => HS3.out _ _ HO2.out US2.out) ?_
        clear hK K
        try simp only [Act.put, List.setIfInBounds_toArray, List.set_cons_zero, List.set_cons_succ]
        refine wpAnyD_one (i := 6) (o := { dst := some 19, op := Op.call { callee := Callee.value (Operand.func 46), args := #[Operand.tmp 18], argTypes := #[54] }, type := 54, pos := "vars.go:353", after := #[{ on := 5, ground := Ground.data }], guard := none }) (by kernel_rfl) rfl (fun K hK => ?_)
        go_simp
        (with_reducible refine Calls.mono (clone_mks_own HO2.out (US2.out _ HMM.out)) ?_)
        rintro r w3 ⟨gm, rfl, ho3⟩
        have HO3 := hide ho3
        have US3 := hide (subC HO3.out US2.out)
        clear ho3
        refine hK _ _ (fun _ _ => HS3.out _ _ HO3.out US3.out) ?_
        clear hK K
        try simp only [Act.put, List.setIfInBounds_toArray, List.set_cons_zero, List.set_cons_succ]
        refine wpAnyD_one (i := 11) (o := { dst := some 24, op := Op.call { callee := Callee.value (Operand.func 47), args := #[Operand.tmp 23], argTypes := #[55] }, type := 55, pos := "vars.go:353", after := #[{ on := 10, ground := Ground.data }, { on := 6, ground := Ground.chain }], guard := none }) (by kernel_rfl) rfl (fun K hK => ?_)
        go_simp
        (with_reducible refine Calls.mono (show Calls Try.prog 47 #[.slice A0 n c0] _ _ from HNC.out _ _ HO3.out US3.out) ?_)
        rintro r w4 ⟨A2, c2, rfl, hr2, ho4⟩
        have HR2 := hide hr2
        clear hr2
        have HO4 := hide ho4
        have US4 := hide (subA HO4.out US3.out)
        clear ho4
        refine hK _ _ (fun _ _ => HS3.out _ _ HO4.out US4.out) ?_
        clear hK K
        try simp only [Act.put, List.setIfInBounds_toArray, List.set_cons_zero, List.set_cons_succ]
        refine wpAnyD_takeW (i := 16) (oi := { dst := some 29, op := Op.build 57 #[(0, Operand.tmp 13), (1, Operand.tmp 14), (2, Operand.tmp 19), (3, Operand.tmp 24), (4, Operand.tmp 28)], type := 57, pos := "vars.go:353", after := #[{ on := 0, ground := Ground.data }, { on := 1, ground := Ground.data }, { on := 6, ground := Ground.data }, { on := 11, ground := Ground.data }, { on := 15, ground := Ground.data }], guard := none }) (v := ?_) rfl (by kernel_rfl) (by kernel_rfl) (by kernel_rfl) (fun _ _ _ h => h) (Or.inl ⟨by rfl, ?_⟩) ?_
        rotate_left
        · intro w hSw
          clear hSw
          go_simp
          all_goals with_reducible rfl
        simp only [Act.put, List.setIfInBounds_toArray, List.set_cons_zero, List.set_cons_succ]
        refine wpAnyD_one (i := 17) (o := { dst := some 30, op := Op.box 57 (Operand.tmp 29), type := 24, pos := "vars.go:353", after := #[{ on := 16, ground := Ground.data }], guard := none }) (by kernel_rfl) rfl (fun K hK => ?_)
        refine step_box_own rfl rfl (x := .tmp 29) (v := #[.map (some d0), .map (some d1), .map (some gm), .slice A2 n c2, .int .i64 s.scope]) rfl HO4.out (fun ob w5 ho5 => ?_)
        have HO5 := hide ho5
        clear ho5
        refine hK _ _ (fun _ _ => HS3.out _ _ HO5.out (fun x hx => List.mem_cons_of_mem _ (US4.out x hx))) ?_
        clear hK K
        try simp only [Act.put, List.setIfInBounds_toArray, List.set_cons_zero, List.set_cons_succ]
        refine wpAnyD_takeW (i := 18) (oi := { dst := some 3, op := Op.assign (Operand.tmp 30), type := 24, pos := "vars.go:353", after := #[{ on := 17, ground := Ground.data }, { on := 11, ground := Ground.chain }, { on := 0, ground := Ground.phase }, { on := 1, ground := Ground.phase }, { on := 2, ground := Ground.phase }, { on := 3, ground := Ground.phase }, { on := 4, ground := Ground.phase }, { on := 5, ground := Ground.phase }, { on := 6, ground := Ground.phase }, { on := 7, ground := Ground.phase }, { on := 8, ground := Ground.phase }, { on := 9, ground := Ground.phase }, { on := 10, ground := Ground.phase }, { on := 11, ground := Ground.phase }, { on := 12, ground := Ground.phase }, { on := 13, ground := Ground.phase }, { on := 14, ground := Ground.phase }, { on := 15, ground := Ground.phase }, { on := 16, ground := Ground.phase }, { on := 17, ground := Ground.phase }], guard := none }) (v := ?_) rfl (by kernel_rfl) (by kernel_rfl) (by kernel_rfl) (fun _ _ _ h => h) (Or.inl ⟨by rfl, ?_⟩) ?_
        rotate_left
        · intro w hSw
          clear hSw
          go_simp
          all_goals with_reducible rfl
        simp only [Act.put, List.setIfInBounds_toArray, List.set_cons_zero, List.set_cons_succ]
        refine wpAnyD_done (by kernel_rfl) ?_ _
        go_wp2_with fail
        go_meet
        exact ⟨ob, d0, d1, gm, A2, c2, rfl, HR2.out, HO5.out.perm (cp_perm0 _ _ _ _ _ _)⟩
      · go_simp
        (with_reducible refine Calls.mono (clone_mks_own HO1.out (US1.out _ HMM.out)) ?_)
        rintro r w6 ⟨gm, rfl, ho6⟩
        have HO6 := hide ho6
        have US6 := hide (subC HO6.out US1.out)
        clear ho6
        refine hK _ _ (fun _ _ => HS3.out _ _ HO6.out US6.out) ?_
        clear hK K
        try simp only [Act.put, List.setIfInBounds_toArray, List.set_cons_zero, List.set_cons_succ]
        refine wpAnyD_two (i := 1) (j := 11) (o := { dst := some 14, op := Op.makeMap 53 none, type := 53, pos := "vars.go:353", after := #[], guard := none }) (p := { dst := some 24, op := Op.call { callee := Callee.value (Operand.func 47), args := #[Operand.tmp 23], argTypes := #[55] }, type := 55, pos := "vars.go:353", after := #[{ on := 10, ground := Ground.data }, { on := 6, ground := Ground.chain }], guard := none }) (by kernel_rfl) rfl rfl (fun K hK => ?_) (fun K hK => ?_)
        · refine step_makeMap_own rfl rfl HO6.out (fun d1 w7 ho7 => ?_)
          have HO7 := hide ho7
          have US7 := hide (subC HO7.out US6.out)
          clear ho7
          refine hK _ _ (fun _ _ => HS3.out _ _ HO7.out US7.out) ?_
          clear hK K
          try simp only [Act.put, List.setIfInBounds_toArray, List.set_cons_zero, List.set_cons_succ]
          refine wpAnyD_one (i := 11) (o := { dst := some 24, op := Op.call { callee := Callee.value (Operand.func 47), args := #[Operand.tmp 23], argTypes := #[55] }, type := 55, pos := "vars.go:353", after := #[{ on := 10, ground := Ground.data }, { on := 6, ground := Ground.chain }], guard := none }) (by kernel_rfl) rfl (fun K hK => ?_)
          go_simp
          (with_reducible refine Calls.mono (show Calls Try.prog 47 #[.slice A0 n c0] _ _ from HNC.out _ _ HO7.out US7.out) ?_)
          rintro r w8 ⟨A2, c2, rfl, hr2, ho8⟩
          have HR2 := hide hr2
          clear hr2
          have HO8 := hide ho8
          have US8 := hide (subA HO8.out US7.out)
          clear ho8
          refine hK _ _ (fun _ _ => HS3.out _ _ HO8.out US8.out) ?_
          clear hK K
          try simp only [Act.put, List.setIfInBounds_toArray, List.set_cons_zero, List.set_cons_succ]
          refine wpAnyD_takeW (i := 16) (oi := { dst := some 29, op := Op.build 57 #[(0, Operand.tmp 13), (1, Operand.tmp 14), (2, Operand.tmp 19), (3, Operand.tmp 24), (4, Operand.tmp 28)], type := 57, pos := "vars.go:353", after := #[{ on := 0, ground := Ground.data }, { on := 1, ground := Ground.data }, { on := 6, ground := Ground.data }, { on := 11, ground := Ground.data }, { on := 15, ground := Ground.data }], guard := none }) (v := ?_) rfl (by kernel_rfl) (by kernel_rfl) (by kernel_rfl) (fun _ _ _ h => h) (Or.inl ⟨by rfl, ?_⟩) ?_
          rotate_left
          · intro w hSw
            clear hSw
            go_simp
            all_goals with_reducible rfl
          simp only [Act.put, List.setIfInBounds_toArray, List.set_cons_zero, List.set_cons_succ]
          refine wpAnyD_one (i := 17) (o := { dst := some 30, op := Op.box 57 (Operand.tmp 29), type := 24, pos := "vars.go:353", after := #[{ on := 16, ground := Ground.data }], guard := none }) (by kernel_rfl) rfl (fun K hK => ?_)
          refine step_box_own rfl rfl (x := .tmp 29) (v := #[.map (some d0), .map (some d1), .map (some gm), .slice A2 n c2, .int .i64 s.scope]) rfl HO8.out (fun ob w9 ho9 => ?_)
          have HO9 := hide ho9
          clear ho9
          refine hK _ _ (fun _ _ => HS3.out _ _ HO9.out (fun x hx => List.mem_cons_of_mem _ (US8.out x hx))) ?_
          clear hK K
          try simp only [Act.put, List.setIfInBounds_toArray, List.set_cons_zero, List.set_cons_succ]
          refine wpAnyD_takeW (i := 18) (oi := { dst := some 3, op := Op.assign (Operand.tmp 30), type := 24, pos := "vars.go:353", after := #[{ on := 17, ground := Ground.data }, { on := 11, ground := Ground.chain }, { on := 0, ground := Ground.phase }, { on := 1, ground := Ground.phase }, { on := 2, ground := Ground.phase }, { on := 3, ground := Ground.phase }, { on := 4, ground := Ground.phase }, { on := 5, ground := Ground.phase }, { on := 6, ground := Ground.phase }, { on := 7, ground := Ground.phase }, { on := 8, ground := Ground.phase }, { on := 9, ground := Ground.phase }, { on := 10, ground := Ground.phase }, { on := 11, ground := Ground.phase }, { on := 12, ground := Ground.phase }, { on := 13, ground := Ground.phase }, { on := 14, ground := Ground.phase }, { on := 15, ground := Ground.phase }, { on := 16, ground := Ground.phase }, { on := 17, ground := Ground.phase }], guard := none }) (v := ?_) rfl (by kernel_rfl) (by kernel_rfl) (by kernel_rfl) (fun _ _ _ h => h) (Or.inl ⟨by rfl, ?_⟩) ?_
          rotate_left
          · intro w hSw
            clear hSw
            go_simp
            all_goals with_reducible rfl
          simp only [Act.put, List.setIfInBounds_toArray, List.set_cons_zero, List.set_cons_succ]
          refine wpAnyD_done (by kernel_rfl) ?_ _
          go_wp2_with fail
          go_meet
          exact ⟨ob, d0, d1, gm, A2, c2, rfl, HR2.out, HO9.out.perm (cp_perm1 _ _ _ _ _ _)⟩
        · go_simp
          (with_reducible refine Calls.mono (show Calls Try.prog 47 #[.slice A0 n c0] _ _ from HNC.out _ _ HO6.out US6.out) ?_)
          rintro r w10 ⟨A2, c2, rfl, hr2, ho10⟩
          have HR2 := hide hr2
          clear hr2
          have HO10 := hide ho10
          have US10 := hide (subA HO10.out US6.out)
          clear ho10
          refine hK _ _ (fun _ _ => HS3.out _ _ HO10.out US10.out) ?_
          clear hK K
          try simp only [Act.put, List.setIfInBounds_toArray, List.set_cons_zero, List.set_cons_succ]
          refine wpAnyD_one (i := 1) (o := { dst := some 14, op := Op.makeMap 53 none, type := 53, pos := "vars.go:353", after := #[], guard := none }) (by kernel_rfl) rfl (fun K hK => ?_)
          refine step_makeMap_own rfl rfl HO10.out (fun d1 w11 ho11 => ?_)
          have HO11 := hide ho11
          have US11 := hide (subC HO11.out US10.out)
          clear ho11
          refine hK _ _ (fun _ _ => HS3.out _ _ HO11.out US11.out) ?_
          clear hK K
          try simp only [Act.put, List.setIfInBounds_toArray, List.set_cons_zero, List.set_cons_succ]
          refine wpAnyD_takeW (i := 16) (oi := { dst := some 29, op := Op.build 57 #[(0, Operand.tmp 13), (1, Operand.tmp 14), (2, Operand.tmp 19), (3, Operand.tmp 24), (4, Operand.tmp 28)], type := 57, pos := "vars.go:353", after := #[{ on := 0, ground := Ground.data }, { on := 1, ground := Ground.data }, { on := 6, ground := Ground.data }, { on := 11, ground := Ground.data }, { on := 15, ground := Ground.data }], guard := none }) (v := ?_) rfl (by kernel_rfl) (by kernel_rfl) (by kernel_rfl) (fun _ _ _ h => h) (Or.inl ⟨by rfl, ?_⟩) ?_
          rotate_left
          · intro w hSw
            clear hSw
            go_simp
            all_goals with_reducible rfl
          simp only [Act.put, List.setIfInBounds_toArray, List.set_cons_zero, List.set_cons_succ]
          refine wpAnyD_one (i := 17) (o := { dst := some 30, op := Op.box 57 (Operand.tmp 29), type := 24, pos := "vars.go:353", after := #[{ on := 16, ground := Ground.data }], guard := none }) (by kernel_rfl) rfl (fun K hK => ?_)
          refine step_box_own rfl rfl (x := .tmp 29) (v := #[.map (some d0), .map (some d1), .map (some gm), .slice A2 n c2, .int .i64 s.scope]) rfl HO11.out (fun ob w12 ho12 => ?_)
          have HO12 := hide ho12
          clear ho12
          refine hK _ _ (fun _ _ => HS3.out _ _ HO12.out (fun x hx => List.mem_cons_of_mem _ (US11.out x hx))) ?_
          clear hK K
          try simp only [Act.put, List.setIfInBounds_toArray, List.set_cons_zero, List.set_cons_succ]
          refine wpAnyD_takeW (i := 18) (oi := { dst := some 3, op := Op.assign (Operand.tmp 30), type := 24, pos := "vars.go:353", after := #[{ on := 17, ground := Ground.data }, { on := 11, ground := Ground.chain }, { on := 0, ground := Ground.phase }, { on := 1, ground := Ground.phase }, { on := 2, ground := Ground.phase }, { on := 3, ground := Ground.phase }, { on := 4, ground := Ground.phase }, { on := 5, ground := Ground.phase }, { on := 6, ground := Ground.phase }, { on := 7, ground := Ground.phase }, { on := 8, ground := Ground.phase }, { on := 9, ground := Ground.phase }, { on := 10, ground := Ground.phase }, { on := 11, ground := Ground.phase }, { on := 12, ground := Ground.phase }, { on := 13, ground := Ground.phase }, { on := 14, ground := Ground.phase }, { on := 15, ground := Ground.phase }, { on := 16, ground := Ground.phase }, { on := 17, ground := Ground.phase }], guard := none }) (v := ?_) rfl (by kernel_rfl) (by kernel_rfl) (by kernel_rfl) (fun _ _ _ h => h) (Or.inl ⟨by rfl, ?_⟩) ?_
          rotate_left
          · intro w hSw
            clear hSw
            go_simp
            all_goals with_reducible rfl
          simp only [Act.put, List.setIfInBounds_toArray, List.set_cons_zero, List.set_cons_succ]
          refine wpAnyD_done (by kernel_rfl) ?_ _
          go_wp2_with fail
          go_meet
          exact ⟨ob, d0, d1, gm, A2, c2, rfl, HR2.out, HO12.out.perm (cp_perm2 _ _ _ _ _ _)⟩
    · refine step_makeMap_own rfl rfl H0.out (fun d1 w13 ho13 => ?_)
      have HO13 := hide ho13
      have US13 := hide (subC HO13.out HS0.out)
      clear ho13
      refine hK _ _ (fun _ _ => HS3.out _ _ HO13.out US13.out) ?_
      clear hK K
      try simp only [Act.put, List.setIfInBounds_toArray, List.set_cons_zero, List.set_cons_succ]
      refine wpAnyD_two (i := 0) (j := 6) (o := { dst := some 13, op := Op.makeMap 52 none, type := 52, pos := "vars.go:353", after := #[], guard := none }) (p := { dst := some 19, op := Op.call { callee := Callee.value (Operand.func 46), args := #[Operand.tmp 18], argTypes := #[54] }, type := 54, pos := "vars.go:353", after := #[{ on := 5, ground := Ground.data }], guard := none }) (by kernel_rfl) rfl rfl (fun K hK => ?_) (fun K hK => ?_)
      · refine step_makeMap_own rfl rfl HO13.out (fun d0 w14 ho14 => ?_)
        have HO14 := hide ho14
        have US14 := hide (subC HO14.out US13.out)
        clear ho14
        refine hK _ _ (fun _ _ => HS3.out _ _ HO14.out US14.out) ?_
        clear hK K
        try simp only [Act.put, List.setIfInBounds_toArray, List.set_cons_zero, List.set_cons_succ]
        refine wpAnyD_one (i := 6) (o := { dst := some 19, op := Op.call { callee := Callee.value (Operand.func 46), args := #[Operand.tmp 18], argTypes := #[54] }, type := 54, pos := "vars.go:353", after := #[{ on := 5, ground := Ground.data }], guard := none }) (by kernel_rfl) rfl (fun K hK => ?_)
        go_simp
        (with_reducible refine Calls.mono (clone_mks_own HO14.out (US14.out _ HMM.out)) ?_)
        rintro r w15 ⟨gm, rfl, ho15⟩
        have HO15 := hide ho15
        have US15 := hide (subC HO15.out US14.out)
        clear ho15
        refine hK _ _ (fun _ _ => HS3.out _ _ HO15.out US15.out) ?_
        clear hK K
        try simp only [Act.put, List.setIfInBounds_toArray, List.set_cons_zero, List.set_cons_succ]
        refine wpAnyD_one (i := 11) (o := { dst := some 24, op := Op.call { callee := Callee.value (Operand.func 47), args := #[Operand.tmp 23], argTypes := #[55] }, type := 55, pos := "vars.go:353", after := #[{ on := 10, ground := Ground.data }, { on := 6, ground := Ground.chain }], guard := none }) (by kernel_rfl) rfl (fun K hK => ?_)
        go_simp
        (with_reducible refine Calls.mono (show Calls Try.prog 47 #[.slice A0 n c0] _ _ from HNC.out _ _ HO15.out US15.out) ?_)
        rintro r w16 ⟨A2, c2, rfl, hr2, ho16⟩
        have HR2 := hide hr2
        clear hr2
        have HO16 := hide ho16
        have US16 := hide (subA HO16.out US15.out)
        clear ho16
        refine hK _ _ (fun _ _ => HS3.out _ _ HO16.out US16.out) ?_
        clear hK K
        try simp only [Act.put, List.setIfInBounds_toArray, List.set_cons_zero, List.set_cons_succ]
        refine wpAnyD_takeW (i := 16) (oi := { dst := some 29, op := Op.build 57 #[(0, Operand.tmp 13), (1, Operand.tmp 14), (2, Operand.tmp 19), (3, Operand.tmp 24), (4, Operand.tmp 28)], type := 57, pos := "vars.go:353", after := #[{ on := 0, ground := Ground.data }, { on := 1, ground := Ground.data }, { on := 6, ground := Ground.data }, { on := 11, ground := Ground.data }, { on := 15, ground := Ground.data }], guard := none }) (v := ?_) rfl (by kernel_rfl) (by kernel_rfl) (by kernel_rfl) (fun _ _ _ h => h) (Or.inl ⟨by rfl, ?_⟩) ?_
        rotate_left
        · intro w hSw
          clear hSw
          go_simp
          all_goals with_reducible rfl
        simp only [Act.put, List.setIfInBounds_toArray, List.set_cons_zero, List.set_cons_succ]
        refine wpAnyD_one (i := 17) (o := { dst := some 30, op := Op.box 57 (Operand.tmp 29), type := 24, pos := "vars.go:353", after := #[{ on := 16, ground := Ground.data }], guard := none }) (by kernel_rfl) rfl (fun K hK => ?_)
        refine step_box_own rfl rfl (x := .tmp 29) (v := #[.map (some d0), .map (some d1), .map (some gm), .slice A2 n c2, .int .i64 s.scope]) rfl HO16.out (fun ob w17 ho17 => ?_)
        have HO17 := hide ho17
        clear ho17
        refine hK _ _ (fun _ _ => HS3.out _ _ HO17.out (fun x hx => List.mem_cons_of_mem _ (US16.out x hx))) ?_
        clear hK K
        try simp only [Act.put, List.setIfInBounds_toArray, List.set_cons_zero, List.set_cons_succ]
        refine wpAnyD_takeW (i := 18) (oi := { dst := some 3, op := Op.assign (Operand.tmp 30), type := 24, pos := "vars.go:353", after := #[{ on := 17, ground := Ground.data }, { on := 11, ground := Ground.chain }, { on := 0, ground := Ground.phase }, { on := 1, ground := Ground.phase }, { on := 2, ground := Ground.phase }, { on := 3, ground := Ground.phase }, { on := 4, ground := Ground.phase }, { on := 5, ground := Ground.phase }, { on := 6, ground := Ground.phase }, { on := 7, ground := Ground.phase }, { on := 8, ground := Ground.phase }, { on := 9, ground := Ground.phase }, { on := 10, ground := Ground.phase }, { on := 11, ground := Ground.phase }, { on := 12, ground := Ground.phase }, { on := 13, ground := Ground.phase }, { on := 14, ground := Ground.phase }, { on := 15, ground := Ground.phase }, { on := 16, ground := Ground.phase }, { on := 17, ground := Ground.phase }], guard := none }) (v := ?_) rfl (by kernel_rfl) (by kernel_rfl) (by kernel_rfl) (fun _ _ _ h => h) (Or.inl ⟨by rfl, ?_⟩) ?_
        rotate_left
        · intro w hSw
          clear hSw
          go_simp
          all_goals with_reducible rfl
        simp only [Act.put, List.setIfInBounds_toArray, List.set_cons_zero, List.set_cons_succ]
        refine wpAnyD_done (by kernel_rfl) ?_ _
        go_wp2_with fail
        go_meet
        exact ⟨ob, d0, d1, gm, A2, c2, rfl, HR2.out, HO17.out.perm (cp_perm3 _ _ _ _ _ _)⟩
      · go_simp
        (with_reducible refine Calls.mono (clone_mks_own HO13.out (US13.out _ HMM.out)) ?_)
        rintro r w18 ⟨gm, rfl, ho18⟩
        have HO18 := hide ho18
        have US18 := hide (subC HO18.out US13.out)
        clear ho18
        refine hK _ _ (fun _ _ => HS3.out _ _ HO18.out US18.out) ?_
        clear hK K
        try simp only [Act.put, List.setIfInBounds_toArray, List.set_cons_zero, List.set_cons_succ]
        refine wpAnyD_two (i := 0) (j := 11) (o := { dst := some 13, op := Op.makeMap 52 none, type := 52, pos := "vars.go:353", after := #[], guard := none }) (p := { dst := some 24, op := Op.call { callee := Callee.value (Operand.func 47), args := #[Operand.tmp 23], argTypes := #[55] }, type := 55, pos := "vars.go:353", after := #[{ on := 10, ground := Ground.data }, { on := 6, ground := Ground.chain }], guard := none }) (by kernel_rfl) rfl rfl (fun K hK => ?_) (fun K hK => ?_)
        · refine step_makeMap_own rfl rfl HO18.out (fun d0 w19 ho19 => ?_)
          have HO19 := hide ho19
          have US19 := hide (subC HO19.out US18.out)
          clear ho19
          refine hK _ _ (fun _ _ => HS3.out _ _ HO19.out US19.out) ?_
          clear hK K
          try simp only [Act.put, List.setIfInBounds_toArray, List.set_cons_zero, List.set_cons_succ]
          refine wpAnyD_one (i := 11) (o := { dst := some 24, op := Op.call { callee := Callee.value (Operand.func 47), args := #[Operand.tmp 23], argTypes := #[55] }, type := 55, pos := "vars.go:353", after := #[{ on := 10, ground := Ground.data }, { on := 6, ground := Ground.chain }], guard := none }) (by kernel_rfl) rfl (fun K hK => ?_)
          go_simp
          (with_reducible refine Calls.mono (show Calls Try.prog 47 #[.slice A0 n c0] _ _ from HNC.out _ _ HO19.out US19.out) ?_)
          rintro r w20 ⟨A2, c2, rfl, hr2, ho20⟩
          have HR2 := hide hr2
          clear hr2
          have HO20 := hide ho20
          have US20 := hide (subA HO20.out US19.out)
          clear ho20
          refine hK _ _ (fun _ _ => HS3.out _ _ HO20.out US20.out) ?_
          clear hK K
          try simp only [Act.put, List.setIfInBounds_toArray, List.set_cons_zero, List.set_cons_succ]
          refine wpAnyD_takeW (i := 16) (oi := { dst := some 29, op := Op.build 57 #[(0, Operand.tmp 13), (1, Operand.tmp 14), (2, Operand.tmp 19), (3, Operand.tmp 24), (4, Operand.tmp 28)], type := 57, pos := "vars.go:353", after := #[{ on := 0, ground := Ground.data }, { on := 1, ground := Ground.data }, { on := 6, ground := Ground.data }, { on := 11, ground := Ground.data }, { on := 15, ground := Ground.data }], guard := none }) (v := ?_) rfl (by kernel_rfl) (by kernel_rfl) (by kernel_rfl) (fun _ _ _ h => h) (Or.inl ⟨by rfl, ?_⟩) ?_
          rotate_left
          · intro w hSw
            clear hSw
            go_simp
            all_goals with_reducible rfl
          simp only [Act.put, List.setIfInBounds_toArray, List.set_cons_zero, List.set_cons_succ]
          refine wpAnyD_one (i := 17) (o := { dst := some 30, op := Op.box 57 (Operand.tmp 29), type := 24, pos := "vars.go:353", after := #[{ on := 16, ground := Ground.data }], guard := none }) (by kernel_rfl) rfl (fun K hK => ?_)
          refine step_box_own rfl rfl (x := .tmp 29) (v := #[.map (some d0), .map (some d1), .map (some gm), .slice A2 n c2, .int .i64 s.scope]) rfl HO20.out (fun ob w21 ho21 => ?_)
          have HO21 := hide ho21
          clear ho21
          refine hK _ _ (fun _ _ => HS3.out _ _ HO21.out (fun x hx => List.mem_cons_of_mem _ (US20.out x hx))) ?_
          clear hK K
          try simp only [Act.put, List.setIfInBounds_toArray, List.set_cons_zero, List.set_cons_succ]
          refine wpAnyD_takeW (i := 18) (oi := { dst := some 3, op := Op.assign (Operand.tmp 30), type := 24, pos := "vars.go:353", after := #[{ on := 17, ground := Ground.data }, { on := 11, ground := Ground.chain }, { on := 0, ground := Ground.phase }, { on := 1, ground := Ground.phase }, { on := 2, ground := Ground.phase }, { on := 3, ground := Ground.phase }, { on := 4, ground := Ground.phase }, { on := 5, ground := Ground.phase }, { on := 6, ground := Ground.phase }, { on := 7, ground := Ground.phase }, { on := 8, ground := Ground.phase }, { on := 9, ground := Ground.phase }, { on := 10, ground := Ground.phase }, { on := 11, ground := Ground.phase }, { on := 12, ground := Ground.phase }, { on := 13, ground := Ground.phase }, { on := 14, ground := Ground.phase }, { on := 15, ground := Ground.phase }, { on := 16, ground := Ground.phase }, { on := 17, ground := Ground.phase }], guard := none }) (v := ?_) rfl (by kernel_rfl) (by kernel_rfl) (by kernel_rfl) (fun _ _ _ h => h) (Or.inl ⟨by rfl, ?_⟩) ?_
          rotate_left
          · intro w hSw
            clear hSw
            go_simp
            all_goals with_reducible rfl
          simp only [Act.put, List.setIfInBounds_toArray, List.set_cons_zero, List.set_cons_succ]
          refine wpAnyD_done (by kernel_rfl) ?_ _
          go_wp2_with fail
          go_meet
          exact ⟨ob, d0, d1, gm, A2, c2, rfl, HR2.out, HO21.out.perm (cp_perm4 _ _ _ _ _ _)⟩
        · go_simp
          (with_reducible refine Calls.mono (show Calls Try.prog 47 #[.slice A0 n c0] _ _ from HNC.out _ _ HO18.out US18.out) ?_)
          rintro r w22 ⟨A2, c2, rfl, hr2, ho22⟩
          have HR2 := hide hr2
          clear hr2
          have HO22 := hide ho22
          have US22 := hide (subA HO22.out US18.out)
          clear ho22
          refine hK _ _ (fun _ _ => HS3.out _ _ HO22.out US22.out) ?_
          clear hK K
          try simp only [Act.put, List.setIfInBounds_toArray, List.set_cons_zero, List.set_cons_succ]
          refine wpAnyD_one (i := 0) (o := { dst := some 13, op := Op.makeMap 52 none, type := 52, pos := "vars.go:353", after := #[], guard := none }) (by kernel_rfl) rfl (fun K hK => ?_)
          refine step_makeMap_own rfl rfl HO22.out (fun d0 w23 ho23 => ?_)
          have HO23 := hide ho23
          have US23 := hide (subC HO23.out US22.out)
          clear ho23
          refine hK _ _ (fun _ _ => HS3.out _ _ HO23.out US23.out) ?_
          clear hK K
          try simp only [Act.put, List.setIfInBounds_toArray, List.set_cons_zero, List.set_cons_succ]
          refine wpAnyD_takeW (i := 16) (oi := { dst := some 29, op := Op.build 57 #[(0, Operand.tmp 13), (1, Operand.tmp 14), (2, Operand.tmp 19), (3, Operand.tmp 24), (4, Operand.tmp 28)], type := 57, pos := "vars.go:353", after := #[{ on := 0, ground := Ground.data }, { on := 1, ground := Ground.data }, { on := 6, ground := Ground.data }, { on := 11, ground := Ground.data }, { on := 15, ground := Ground.data }], guard := none }) (v := ?_) rfl (by kernel_rfl) (by kernel_rfl) (by kernel_rfl) (fun _ _ _ h => h) (Or.inl ⟨by rfl, ?_⟩) ?_
          rotate_left
          · intro w hSw
            clear hSw
            go_simp
            all_goals with_reducible rfl
          simp only [Act.put, List.setIfInBounds_toArray, List.set_cons_zero, List.set_cons_succ]
          refine wpAnyD_one (i := 17) (o := { dst := some 30, op := Op.box 57 (Operand.tmp 29), type := 24, pos := "vars.go:353", after := #[{ on := 16, ground := Ground.data }], guard := none }) (by kernel_rfl) rfl (fun K hK => ?_)
          refine step_box_own rfl rfl (x := .tmp 29) (v := #[.map (some d0), .map (some d1), .map (some gm), .slice A2 n c2, .int .i64 s.scope]) rfl HO23.out (fun ob w24 ho24 => ?_)
          have HO24 := hide ho24
          clear ho24
          refine hK _ _ (fun _ _ => HS3.out _ _ HO24.out (fun x hx => List.mem_cons_of_mem _ (US23.out x hx))) ?_
          clear hK K
          try simp only [Act.put, List.setIfInBounds_toArray, List.set_cons_zero, List.set_cons_succ]
          refine wpAnyD_takeW (i := 18) (oi := { dst := some 3, op := Op.assign (Operand.tmp 30), type := 24, pos := "vars.go:353", after := #[{ on := 17, ground := Ground.data }, { on := 11, ground := Ground.chain }, { on := 0, ground := Ground.phase }, { on := 1, ground := Ground.phase }, { on := 2, ground := Ground.phase }, { on := 3, ground := Ground.phase }, { on := 4, ground := Ground.phase }, { on := 5, ground := Ground.phase }, { on := 6, ground := Ground.phase }, { on := 7, ground := Ground.phase }, { on := 8, ground := Ground.phase }, { on := 9, ground := Ground.phase }, { on := 10, ground := Ground.phase }, { on := 11, ground := Ground.phase }, { on := 12, ground := Ground.phase }, { on := 13, ground := Ground.phase }, { on := 14, ground := Ground.phase }, { on := 15, ground := Ground.phase }, { on := 16, ground := Ground.phase }, { on := 17, ground := Ground.phase }], guard := none }) (v := ?_) rfl (by kernel_rfl) (by kernel_rfl) (by kernel_rfl) (fun _ _ _ h => h) (Or.inl ⟨by rfl, ?_⟩) ?_
          rotate_left
          · intro w hSw
            clear hSw
            go_simp
            all_goals with_reducible rfl
          simp only [Act.put, List.setIfInBounds_toArray, List.set_cons_zero, List.set_cons_succ]
          refine wpAnyD_done (by kernel_rfl) ?_ _
          go_wp2_with fail
          go_meet
          exact ⟨ob, d0, d1, gm, A2, c2, rfl, HR2.out, HO24.out.perm (cp_perm5 _ _ _ _ _ _)⟩
    · go_simp
      (with_reducible refine Calls.mono (clone_mks_own H0.out (HS0.out _ HMM.out)) ?_)
      rintro r w25 ⟨gm, rfl, ho25⟩
      have HO25 := hide ho25
      have US25 := hide (subC HO25.out HS0.out)
      clear ho25
      refine hK _ _ (fun _ _ => HS3.out _ _ HO25.out US25.out) ?_
      clear hK K
      try simp only [Act.put, List.setIfInBounds_toArray, List.set_cons_zero, List.set_cons_succ]
      refine wpAnyD_three (i := 0) (j := 1) (k := 11) (o := { dst := some 13, op := Op.makeMap 52 none, type := 52, pos := "vars.go:353", after := #[], guard := none }) (p := { dst := some 14, op := Op.makeMap 53 none, type := 53, pos := "vars.go:353", after := #[], guard := none }) (q := { dst := some 24, op := Op.call { callee := Callee.value (Operand.func 47), args := #[Operand.tmp 23], argTypes := #[55] }, type := 55, pos := "vars.go:353", after := #[{ on := 10, ground := Ground.data }, { on := 6, ground := Ground.chain }], guard := none }) (by kernel_rfl) rfl rfl rfl (fun K hK => ?_) (fun K hK => ?_) (fun K hK => ?_)
      · refine step_makeMap_own rfl rfl HO25.out (fun d0 w26 ho26 => ?_)
        have HO26 := hide ho26
        have US26 := hide (subC HO26.out US25.out)
        clear ho26
        refine hK _ _ (fun _ _ => HS3.out _ _ HO26.out US26.out) ?_
        clear hK K
        try simp only [Act.put, List.setIfInBounds_toArray, List.set_cons_zero, List.set_cons_succ]
        refine wpAnyD_two (i := 1) (j := 11) (o := { dst := some 14, op := Op.makeMap 53 none, type := 53, pos := "vars.go:353", after := #[], guard := none }) (p := { dst := some 24, op := Op.call { callee := Callee.value (Operand.func 47), args := #[Operand.tmp 23], argTypes := #[55] }, type := 55, pos := "vars.go:353", after := #[{ on := 10, ground := Ground.data }, { on := 6, ground := Ground.chain }], guard := none }) (by kernel_rfl) rfl rfl (fun K hK => ?_) (fun K hK => ?_)
        · refine step_makeMap_own rfl rfl HO26.out (fun d1 w27 ho27 => ?_)
          have HO27 := hide ho27
          have US27 := hide (subC HO27.out US26.out)
          clear ho27
          refine hK _ _ (fun _ _ => HS3.out _ _ HO27.out US27.out) ?_
          clear hK K
          try simp only [Act.put, List.setIfInBounds_toArray, List.set_cons_zero, List.set_cons_succ]
          refine wpAnyD_one (i := 11) (o := { dst := some 24, op := Op.call { callee := Callee.value (Operand.func 47), args := #[Operand.tmp 23], argTypes := #[55] }, type := 55, pos := "vars.go:353", after := #[{ on := 10, ground := Ground.data }, { on := 6, ground := Ground.chain }], guard := none }) (by kernel_rfl) rfl (fun K hK => ?_)
          go_simp
          (with_reducible refine Calls.mono (show Calls Try.prog 47 #[.slice A0 n c0] _ _ from HNC.out _ _ HO27.out US27.out) ?_)
          rintro r w28 ⟨A2, c2, rfl, hr2, ho28⟩
          have HR2 := hide hr2
          clear hr2
          have HO28 := hide ho28
          have US28 := hide (subA HO28.out US27.out)
          clear ho28
          refine hK _ _ (fun _ _ => HS3.out _ _ HO28.out US28.out) ?_
          clear hK K
          try simp only [Act.put, List.setIfInBounds_toArray, List.set_cons_zero, List.set_cons_succ]
          refine wpAnyD_takeW (i := 16) (oi := { dst := some 29, op := Op.build 57 #[(0, Operand.tmp 13), (1, Operand.tmp 14), (2, Operand.tmp 19), (3, Operand.tmp 24), (4, Operand.tmp 28)], type := 57, pos := "vars.go:353", after := #[{ on := 0, ground := Ground.data }, { on := 1, ground := Ground.data }, { on := 6, ground := Ground.data }, { on := 11, ground := Ground.data }, { on := 15, ground := Ground.data }], guard := none }) (v := ?_) rfl (by kernel_rfl) (by kernel_rfl) (by kernel_rfl) (fun _ _ _ h => h) (Or.inl ⟨by rfl, ?_⟩) ?_
          rotate_left
          · intro w hSw
            clear hSw
            go_simp
            all_goals with_reducible rfl
          simp only [Act.put, List.setIfInBounds_toArray, List.set_cons_zero, List.set_cons_succ]
          refine wpAnyD_one (i := 17) (o := { dst := some 30, op := Op.box 57 (Operand.tmp 29), type := 24, pos := "vars.go:353", after := #[{ on := 16, ground := Ground.data }], guard := none }) (by kernel_rfl) rfl (fun K hK => ?_)
          refine step_box_own rfl rfl (x := .tmp 29) (v := #[.map (some d0), .map (some d1), .map (some gm), .slice A2 n c2, .int .i64 s.scope]) rfl HO28.out (fun ob w29 ho29 => ?_)
          have HO29 := hide ho29
          clear ho29
          refine hK _ _ (fun _ _ => HS3.out _ _ HO29.out (fun x hx => List.mem_cons_of_mem _ (US28.out x hx))) ?_
          clear hK K
          try simp only [Act.put, List.setIfInBounds_toArray, List.set_cons_zero, List.set_cons_succ]
          refine wpAnyD_takeW (i := 18) (oi := { dst := some 3, op := Op.assign (Operand.tmp 30), type := 24, pos := "vars.go:353", after := #[{ on := 17, ground := Ground.data }, { on := 11, ground := Ground.chain }, { on := 0, ground := Ground.phase }, { on := 1, ground := Ground.phase }, { on := 2, ground := Ground.phase }, { on := 3, ground := Ground.phase }, { on := 4, ground := Ground.phase }, { on := 5, ground := Ground.phase }, { on := 6, ground := Ground.phase }, { on := 7, ground := Ground.phase }, { on := 8, ground := Ground.phase }, { on := 9, ground := Ground.phase }, { on := 10, ground := Ground.phase }, { on := 11, ground := Ground.phase }, { on := 12, ground := Ground.phase }, { on := 13, ground := Ground.phase }, { on := 14, ground := Ground.phase }, { on := 15, ground := Ground.phase }, { on := 16, ground := Ground.phase }, { on := 17, ground := Ground.phase }], guard := none }) (v := ?_) rfl (by kernel_rfl) (by kernel_rfl) (by kernel_rfl) (fun _ _ _ h => h) (Or.inl ⟨by rfl, ?_⟩) ?_
          rotate_left
          · intro w hSw
            clear hSw
            go_simp
            all_goals with_reducible rfl
          simp only [Act.put, List.setIfInBounds_toArray, List.set_cons_zero, List.set_cons_succ]
          refine wpAnyD_done (by kernel_rfl) ?_ _
          go_wp2_with fail
          go_meet
          exact ⟨ob, d0, d1, gm, A2, c2, rfl, HR2.out, HO29.out.perm (cp_perm6 _ _ _ _ _ _)⟩
        · go_simp
          (with_reducible refine Calls.mono (show Calls Try.prog 47 #[.slice A0 n c0] _ _ from HNC.out _ _ HO26.out US26.out) ?_)
          rintro r w30 ⟨A2, c2, rfl, hr2, ho30⟩
          have HR2 := hide hr2
          clear hr2
          have HO30 := hide ho30
          have US30 := hide (subA HO30.out US26.out)
          clear ho30
          refine hK _ _ (fun _ _ => HS3.out _ _ HO30.out US30.out) ?_
          clear hK K
          try simp only [Act.put, List.setIfInBounds_toArray, List.set_cons_zero, List.set_cons_succ]
          refine wpAnyD_one (i := 1) (o := { dst := some 14, op := Op.makeMap 53 none, type := 53, pos := "vars.go:353", after := #[], guard := none }) (by kernel_rfl) rfl (fun K hK => ?_)
          refine step_makeMap_own rfl rfl HO30.out (fun d1 w31 ho31 => ?_)
          have HO31 := hide ho31
          have US31 := hide (subC HO31.out US30.out)
          clear ho31
          refine hK _ _ (fun _ _ => HS3.out _ _ HO31.out US31.out) ?_
          clear hK K
          try simp only [Act.put, List.setIfInBounds_toArray, List.set_cons_zero, List.set_cons_succ]
          refine wpAnyD_takeW (i := 16) (oi := { dst := some 29, op := Op.build 57 #[(0, Operand.tmp 13), (1, Operand.tmp 14), (2, Operand.tmp 19), (3, Operand.tmp 24), (4, Operand.tmp 28)], type := 57, pos := "vars.go:353", after := #[{ on := 0, ground := Ground.data }, { on := 1, ground := Ground.data }, { on := 6, ground := Ground.data }, { on := 11, ground := Ground.data }, { on := 15, ground := Ground.data }], guard := none }) (v := ?_) rfl (by kernel_rfl) (by kernel_rfl) (by kernel_rfl) (fun _ _ _ h => h) (Or.inl ⟨by rfl, ?_⟩) ?_
          rotate_left
          · intro w hSw
            clear hSw
            go_simp
            all_goals with_reducible rfl
          simp only [Act.put, List.setIfInBounds_toArray, List.set_cons_zero, List.set_cons_succ]
          refine wpAnyD_one (i := 17) (o := { dst := some 30, op := Op.box 57 (Operand.tmp 29), type := 24, pos := "vars.go:353", after := #[{ on := 16, ground := Ground.data }], guard := none }) (by kernel_rfl) rfl (fun K hK => ?_)
          refine step_box_own rfl rfl (x := .tmp 29) (v := #[.map (some d0), .map (some d1), .map (some gm), .slice A2 n c2, .int .i64 s.scope]) rfl HO31.out (fun ob w32 ho32 => ?_)
          have HO32 := hide ho32
          clear ho32
          refine hK _ _ (fun _ _ => HS3.out _ _ HO32.out (fun x hx => List.mem_cons_of_mem _ (US31.out x hx))) ?_
          clear hK K
          try simp only [Act.put, List.setIfInBounds_toArray, List.set_cons_zero, List.set_cons_succ]
          refine wpAnyD_takeW (i := 18) (oi := { dst := some 3, op := Op.assign (Operand.tmp 30), type := 24, pos := "vars.go:353", after := #[{ on := 17, ground := Ground.data }, { on := 11, ground := Ground.chain }, { on := 0, ground := Ground.phase }, { on := 1, ground := Ground.phase }, { on := 2, ground := Ground.phase }, { on := 3, ground := Ground.phase }, { on := 4, ground := Ground.phase }, { on := 5, ground := Ground.phase }, { on := 6, ground := Ground.phase }, { on := 7, ground := Ground.phase }, { on := 8, ground := Ground.phase }, { on := 9, ground := Ground.phase }, { on := 10, ground := Ground.phase }, { on := 11, ground := Ground.phase }, { on := 12, ground := Ground.phase }, { on := 13, ground := Ground.phase }, { on := 14, ground := Ground.phase }, { on := 15, ground := Ground.phase }, { on := 16, ground := Ground.phase }, { on := 17, ground := Ground.phase }], guard := none }) (v := ?_) rfl (by kernel_rfl) (by kernel_rfl) (by kernel_rfl) (fun _ _ _ h => h) (Or.inl ⟨by rfl, ?_⟩) ?_
          rotate_left
          · intro w hSw
            clear hSw
            go_simp
            all_goals with_reducible rfl
          simp only [Act.put, List.setIfInBounds_toArray, List.set_cons_zero, List.set_cons_succ]
          refine wpAnyD_done (by kernel_rfl) ?_ _
          go_wp2_with fail
          go_meet
          exact ⟨ob, d0, d1, gm, A2, c2, rfl, HR2.out, HO32.out.perm (cp_perm7 _ _ _ _ _ _)⟩
      · refine step_makeMap_own rfl rfl HO25.out (fun d1 w33 ho33 => ?_)
        have HO33 := hide ho33
        have US33 := hide (subC HO33.out US25.out)
        clear ho33
        refine hK _ _ (fun _ _ => HS3.out _ _ HO33.out US33.out) ?_
        clear hK K
        try simp only [Act.put, List.setIfInBounds_toArray, List.set_cons_zero, List.set_cons_succ]
        refine wpAnyD_two (i := 0) (j := 11) (o := { dst := some 13, op := Op.makeMap 52 none, type := 52, pos := "vars.go:353", after := #[], guard := none }) (p := { dst := some 24, op := Op.call { callee := Callee.value (Operand.func 47), args := #[Operand.tmp 23], argTypes := #[55] }, type := 55, pos := "vars.go:353", after := #[{ on := 10, ground := Ground.data }, { on := 6, ground := Ground.chain }], guard := none }) (by kernel_rfl) rfl rfl (fun K hK => ?_) (fun K hK => ?_)
        · refine step_makeMap_own rfl rfl HO33.out (fun d0 w34 ho34 => ?_)
          have HO34 := hide ho34
          have US34 := hide (subC HO34.out US33.out)
          clear ho34
          refine hK _ _ (fun _ _ => HS3.out _ _ HO34.out US34.out) ?_
          clear hK K
          try simp only [Act.put, List.setIfInBounds_toArray, List.set_cons_zero, List.set_cons_succ]
          refine wpAnyD_one (i := 11) (o := { dst := some 24, op := Op.call { callee := Callee.value (Operand.func 47), args := #[Operand.tmp 23], argTypes := #[55] }, type := 55, pos := "vars.go:353", after := #[{ on := 10, ground := Ground.data }, { on := 6, ground := Ground.chain }], guard := none }) (by kernel_rfl) rfl (fun K hK => ?_)
          go_simp
          (with_reducible refine Calls.mono (show Calls Try.prog 47 #[.slice A0 n c0] _ _ from HNC.out _ _ HO34.out US34.out) ?_)
          rintro r w35 ⟨A2, c2, rfl, hr2, ho35⟩
          have HR2 := hide hr2
          clear hr2
          have HO35 := hide ho35
          have US35 := hide (subA HO35.out US34.out)
          clear ho35
          refine hK _ _ (fun _ _ => HS3.out _ _ HO35.out US35.out) ?_
          clear hK K
          try simp only [Act.put, List.setIfInBounds_toArray, List.set_cons_zero, List.set_cons_succ]
          refine wpAnyD_takeW (i := 16) (oi := { dst := some 29, op := Op.build 57 #[(0, Operand.tmp 13), (1, Operand.tmp 14), (2, Operand.tmp 19), (3, Operand.tmp 24), (4, Operand.tmp 28)], type := 57, pos := "vars.go:353", after := #[{ on := 0, ground := Ground.data }, { on := 1, ground := Ground.data }, { on := 6, ground := Ground.data }, { on := 11, ground := Ground.data }, { on := 15, ground := Ground.data }], guard := none }) (v := ?_) rfl (by kernel_rfl) (by kernel_rfl) (by kernel_rfl) (fun _ _ _ h => h) (Or.inl ⟨by rfl, ?_⟩) ?_
          rotate_left
          · intro w hSw
            clear hSw
            go_simp
            all_goals with_reducible rfl
          simp only [Act.put, List.setIfInBounds_toArray, List.set_cons_zero, List.set_cons_succ]
          refine wpAnyD_one (i := 17) (o := { dst := some 30, op := Op.box 57 (Operand.tmp 29), type := 24, pos := "vars.go:353", after := #[{ on := 16, ground := Ground.data }], guard := none }) (by kernel_rfl) rfl (fun K hK => ?_)
          refine step_box_own rfl rfl (x := .tmp 29) (v := #[.map (some d0), .map (some d1), .map (some gm), .slice A2 n c2, .int .i64 s.scope]) rfl HO35.out (fun ob w36 ho36 => ?_)
          have HO36 := hide ho36
          clear ho36
          refine hK _ _ (fun _ _ => HS3.out _ _ HO36.out (fun x hx => List.mem_cons_of_mem _ (US35.out x hx))) ?_
          clear hK K
          try simp only [Act.put, List.setIfInBounds_toArray, List.set_cons_zero, List.set_cons_succ]
          refine wpAnyD_takeW (i := 18) (oi := { dst := some 3, op := Op.assign (Operand.tmp 30), type := 24, pos := "vars.go:353", after := #[{ on := 17, ground := Ground.data }, { on := 11, ground := Ground.chain }, { on := 0, ground := Ground.phase }, { on := 1, ground := Ground.phase }, { on := 2, ground := Ground.phase }, { on := 3, ground := Ground.phase }, { on := 4, ground := Ground.phase }, { on := 5, ground := Ground.phase }, { on := 6, ground := Ground.phase }, { on := 7, ground := Ground.phase }, { on := 8, ground := Ground.phase }, { on := 9, ground := Ground.phase }, { on := 10, ground := Ground.phase }, { on := 11, ground := Ground.phase }, { on := 12, ground := Ground.phase }, { on := 13, ground := Ground.phase }, { on := 14, ground := Ground.phase }, { on := 15, ground := Ground.phase }, { on := 16, ground := Ground.phase }, { on := 17, ground := Ground.phase }], guard := none }) (v := ?_) rfl (by kernel_rfl) (by kernel_rfl) (by kernel_rfl) (fun _ _ _ h => h) (Or.inl ⟨by rfl, ?_⟩) ?_
          rotate_left
          · intro w hSw
            clear hSw
            go_simp
            all_goals with_reducible rfl
          simp only [Act.put, List.setIfInBounds_toArray, List.set_cons_zero, List.set_cons_succ]
          refine wpAnyD_done (by kernel_rfl) ?_ _
          go_wp2_with fail
          go_meet
          exact ⟨ob, d0, d1, gm, A2, c2, rfl, HR2.out, HO36.out.perm (cp_perm8 _ _ _ _ _ _)⟩
        · go_simp
          (with_reducible refine Calls.mono (show Calls Try.prog 47 #[.slice A0 n c0] _ _ from HNC.out _ _ HO33.out US33.out) ?_)
          rintro r w37 ⟨A2, c2, rfl, hr2, ho37⟩
          have HR2 := hide hr2
          clear hr2
          have HO37 := hide ho37
          have US37 := hide (subA HO37.out US33.out)
          clear ho37
          refine hK _ _ (fun _ _ => HS3.out _ _ HO37.out US37.out) ?_
          clear hK K
          try simp only [Act.put, List.setIfInBounds_toArray, List.set_cons_zero, List.set_cons_succ]
          refine wpAnyD_one (i := 0) (o := { dst := some 13, op := Op.makeMap 52 none, type := 52, pos := "vars.go:353", after := #[], guard := none }) (by kernel_rfl) rfl (fun K hK => ?_)
          refine step_makeMap_own rfl rfl HO37.out (fun d0 w38 ho38 => ?_)
          have HO38 := hide ho38
          have US38 := hide (subC HO38.out US37.out)
          clear ho38
          refine hK _ _ (fun _ _ => HS3.out _ _ HO38.out US38.out) ?_
          clear hK K
          try simp only [Act.put, List.setIfInBounds_toArray, List.set_cons_zero, List.set_cons_succ]
          refine wpAnyD_takeW (i := 16) (oi := { dst := some 29, op := Op.build 57 #[(0, Operand.tmp 13), (1, Operand.tmp 14), (2, Operand.tmp 19), (3, Operand.tmp 24), (4, Operand.tmp 28)], type := 57, pos := "vars.go:353", after := #[{ on := 0, ground := Ground.data }, { on := 1, ground := Ground.data }, { on := 6, ground := Ground.data }, { on := 11, ground := Ground.data }, { on := 15, ground := Ground.data }], guard := none }) (v := ?_) rfl (by kernel_rfl) (by kernel_rfl) (by kernel_rfl) (fun _ _ _ h => h) (Or.inl ⟨by rfl, ?_⟩) ?_
          rotate_left
          · intro w hSw
            clear hSw
            go_simp
            all_goals with_reducible rfl
          simp only [Act.put, List.setIfInBounds_toArray, List.set_cons_zero, List.set_cons_succ]
          refine wpAnyD_one (i := 17) (o := { dst := some 30, op := Op.box 57 (Operand.tmp 29), type := 24, pos := "vars.go:353", after := #[{ on := 16, ground := Ground.data }], guard := none }) (by kernel_rfl) rfl (fun K hK => ?_)
          refine step_box_own rfl rfl (x := .tmp 29) (v := #[.map (some d0), .map (some d1), .map (some gm), .slice A2 n c2, .int .i64 s.scope]) rfl HO38.out (fun ob w39 ho39 => ?_)
          have HO39 := hide ho39
          clear ho39
          refine hK _ _ (fun _ _ => HS3.out _ _ HO39.out (fun x hx => List.mem_cons_of_mem _ (US38.out x hx))) ?_
          clear hK K
          try simp only [Act.put, List.setIfInBounds_toArray, List.set_cons_zero, List.set_cons_succ]
          refine wpAnyD_takeW (i := 18) (oi := { dst := some 3, op := Op.assign (Operand.tmp 30), type := 24, pos := "vars.go:353", after := #[{ on := 17, ground := Ground.data }, { on := 11, ground := Ground.chain }, { on := 0, ground := Ground.phase }, { on := 1, ground := Ground.phase }, { on := 2, ground := Ground.phase }, { on := 3, ground := Ground.phase }, { on := 4, ground := Ground.phase }, { on := 5, ground := Ground.phase }, { on := 6, ground := Ground.phase }, { on := 7, ground := Ground.phase }, { on := 8, ground := Ground.phase }, { on := 9, ground := Ground.phase }, { on := 10, ground := Ground.phase }, { on := 11, ground := Ground.phase }, { on := 12, ground := Ground.phase }, { on := 13, ground := Ground.phase }, { on := 14, ground := Ground.phase }, { on := 15, ground := Ground.phase }, { on := 16, ground := Ground.phase }, { on := 17, ground := Ground.phase }], guard := none }) (v := ?_) rfl (by kernel_rfl) (by kernel_rfl) (by kernel_rfl) (fun _ _ _ h => h) (Or.inl ⟨by rfl, ?_⟩) ?_
          rotate_left
          · intro w hSw
            clear hSw
            go_simp
            all_goals with_reducible rfl
          simp only [Act.put, List.setIfInBounds_toArray, List.set_cons_zero, List.set_cons_succ]
          refine wpAnyD_done (by kernel_rfl) ?_ _
          go_wp2_with fail
          go_meet
          exact ⟨ob, d0, d1, gm, A2, c2, rfl, HR2.out, HO39.out.perm (cp_perm9 _ _ _ _ _ _)⟩
      · go_simp
        (with_reducible refine Calls.mono (show Calls Try.prog 47 #[.slice A0 n c0] _ _ from HNC.out _ _ HO25.out US25.out) ?_)
        rintro r w40 ⟨A2, c2, rfl, hr2, ho40⟩
        have HR2 := hide hr2
        clear hr2
        have HO40 := hide ho40
        have US40 := hide (subA HO40.out US25.out)
        clear ho40
        refine hK _ _ (fun _ _ => HS3.out _ _ HO40.out US40.out) ?_
        clear hK K
        try simp only [Act.put, List.setIfInBounds_toArray, List.set_cons_zero, List.set_cons_succ]
        refine wpAnyD_two (i := 0) (j := 1) (o := { dst := some 13, op := Op.makeMap 52 none, type := 52, pos := "vars.go:353", after := #[], guard := none }) (p := { dst := some 14, op := Op.makeMap 53 none, type := 53, pos := "vars.go:353", after := #[], guard := none }) (by kernel_rfl) rfl rfl (fun K hK => ?_) (fun K hK => ?_)
        · refine step_makeMap_own rfl rfl HO40.out (fun d0 w41 ho41 => ?_)
          have HO41 := hide ho41
          have US41 := hide (subC HO41.out US40.out)
          clear ho41
          refine hK _ _ (fun _ _ => HS3.out _ _ HO41.out US41.out) ?_
          clear hK K
          try simp only [Act.put, List.setIfInBounds_toArray, List.set_cons_zero, List.set_cons_succ]
          refine wpAnyD_one (i := 1) (o := { dst := some 14, op := Op.makeMap 53 none, type := 53, pos := "vars.go:353", after := #[], guard := none }) (by kernel_rfl) rfl (fun K hK => ?_)
          refine step_makeMap_own rfl rfl HO41.out (fun d1 w42 ho42 => ?_)
          have HO42 := hide ho42
          have US42 := hide (subC HO42.out US41.out)
          clear ho42
          refine hK _ _ (fun _ _ => HS3.out _ _ HO42.out US42.out) ?_
          clear hK K
          try simp only [Act.put, List.setIfInBounds_toArray, List.set_cons_zero, List.set_cons_succ]
          refine wpAnyD_takeW (i := 16) (oi := { dst := some 29, op := Op.build 57 #[(0, Operand.tmp 13), (1, Operand.tmp 14), (2, Operand.tmp 19), (3, Operand.tmp 24), (4, Operand.tmp 28)], type := 57, pos := "vars.go:353", after := #[{ on := 0, ground := Ground.data }, { on := 1, ground := Ground.data }, { on := 6, ground := Ground.data }, { on := 11, ground := Ground.data }, { on := 15, ground := Ground.data }], guard := none }) (v := ?_) rfl (by kernel_rfl) (by kernel_rfl) (by kernel_rfl) (fun _ _ _ h => h) (Or.inl ⟨by rfl, ?_⟩) ?_
          rotate_left
          · intro w hSw
            clear hSw
            go_simp
            all_goals with_reducible rfl
          simp only [Act.put, List.setIfInBounds_toArray, List.set_cons_zero, List.set_cons_succ]
          refine wpAnyD_one (i := 17) (o := { dst := some 30, op := Op.box 57 (Operand.tmp 29), type := 24, pos := "vars.go:353", after := #[{ on := 16, ground := Ground.data }], guard := none }) (by kernel_rfl) rfl (fun K hK => ?_)
          refine step_box_own rfl rfl (x := .tmp 29) (v := #[.map (some d0), .map (some d1), .map (some gm), .slice A2 n c2, .int .i64 s.scope]) rfl HO42.out (fun ob w43 ho43 => ?_)
          have HO43 := hide ho43
          clear ho43
          refine hK _ _ (fun _ _ => HS3.out _ _ HO43.out (fun x hx => List.mem_cons_of_mem _ (US42.out x hx))) ?_
          clear hK K
          try simp only [Act.put, List.setIfInBounds_toArray, List.set_cons_zero, List.set_cons_succ]
          refine wpAnyD_takeW (i := 18) (oi := { dst := some 3, op := Op.assign (Operand.tmp 30), type := 24, pos := "vars.go:353", after := #[{ on := 17, ground := Ground.data }, { on := 11, ground := Ground.chain }, { on := 0, ground := Ground.phase }, { on := 1, ground := Ground.phase }, { on := 2, ground := Ground.phase }, { on := 3, ground := Ground.phase }, { on := 4, ground := Ground.phase }, { on := 5, ground := Ground.phase }, { on := 6, ground := Ground.phase }, { on := 7, ground := Ground.phase }, { on := 8, ground := Ground.phase }, { on := 9, ground := Ground.phase }, { on := 10, ground := Ground.phase }, { on := 11, ground := Ground.phase }, { on := 12, ground := Ground.phase }, { on := 13, ground := Ground.phase }, { on := 14, ground := Ground.phase }, { on := 15, ground := Ground.phase }, { on := 16, ground := Ground.phase }, { on := 17, ground := Ground.phase }], guard := none }) (v := ?_) rfl (by kernel_rfl) (by kernel_rfl) (by kernel_rfl) (fun _ _ _ h => h) (Or.inl ⟨by rfl, ?_⟩) ?_
          rotate_left
          · intro w hSw
            clear hSw
            go_simp
            all_goals with_reducible rfl
          simp only [Act.put, List.setIfInBounds_toArray, List.set_cons_zero, List.set_cons_succ]
          refine wpAnyD_done (by kernel_rfl) ?_ _
          go_wp2_with fail
          go_meet
          exact ⟨ob, d0, d1, gm, A2, c2, rfl, HR2.out, HO43.out.perm (cp_perm10 _ _ _ _ _ _)⟩
        · refine step_makeMap_own rfl rfl HO40.out (fun d1 w44 ho44 => ?_)
          have HO44 := hide ho44
          have US44 := hide (subC HO44.out US40.out)
          clear ho44
          refine hK _ _ (fun _ _ => HS3.out _ _ HO44.out US44.out) ?_
          clear hK K
          try simp only [Act.put, List.setIfInBounds_toArray, List.set_cons_zero, List.set_cons_succ]
          refine wpAnyD_one (i := 0) (o := { dst := some 13, op := Op.makeMap 52 none, type := 52, pos := "vars.go:353", after := #[], guard := none }) (by kernel_rfl) rfl (fun K hK => ?_)
          refine step_makeMap_own rfl rfl HO44.out (fun d0 w45 ho45 => ?_)
          have HO45 := hide ho45
          have US45 := hide (subC HO45.out US44.out)
          clear ho45
          refine hK _ _ (fun _ _ => HS3.out _ _ HO45.out US45.out) ?_
          clear hK K
          try simp only [Act.put, List.setIfInBounds_toArray, List.set_cons_zero, List.set_cons_succ]
          refine wpAnyD_takeW (i := 16) (oi := { dst := some 29, op := Op.build 57 #[(0, Operand.tmp 13), (1, Operand.tmp 14), (2, Operand.tmp 19), (3, Operand.tmp 24), (4, Operand.tmp 28)], type := 57, pos := "vars.go:353", after := #[{ on := 0, ground := Ground.data }, { on := 1, ground := Ground.data }, { on := 6, ground := Ground.data }, { on := 11, ground := Ground.data }, { on := 15, ground := Ground.data }], guard := none }) (v := ?_) rfl (by kernel_rfl) (by kernel_rfl) (by kernel_rfl) (fun _ _ _ h => h) (Or.inl ⟨by rfl, ?_⟩) ?_
          rotate_left
          · intro w hSw
            clear hSw
            go_simp
            all_goals with_reducible rfl
          simp only [Act.put, List.setIfInBounds_toArray, List.set_cons_zero, List.set_cons_succ]
          refine wpAnyD_one (i := 17) (o := { dst := some 30, op := Op.box 57 (Operand.tmp 29), type := 24, pos := "vars.go:353", after := #[{ on := 16, ground := Ground.data }], guard := none }) (by kernel_rfl) rfl (fun K hK => ?_)
          refine step_box_own rfl rfl (x := .tmp 29) (v := #[.map (some d0), .map (some d1), .map (some gm), .slice A2 n c2, .int .i64 s.scope]) rfl HO45.out (fun ob w46 ho46 => ?_)
          have HO46 := hide ho46
          clear ho46
          refine hK _ _ (fun _ _ => HS3.out _ _ HO46.out (fun x hx => List.mem_cons_of_mem _ (US45.out x hx))) ?_
          clear hK K
          try simp only [Act.put, List.setIfInBounds_toArray, List.set_cons_zero, List.set_cons_succ]
          refine wpAnyD_takeW (i := 18) (oi := { dst := some 3, op := Op.assign (Operand.tmp 30), type := 24, pos := "vars.go:353", after := #[{ on := 17, ground := Ground.data }, { on := 11, ground := Ground.chain }, { on := 0, ground := Ground.phase }, { on := 1, ground := Ground.phase }, { on := 2, ground := Ground.phase }, { on := 3, ground := Ground.phase }, { on := 4, ground := Ground.phase }, { on := 5, ground := Ground.phase }, { on := 6, ground := Ground.phase }, { on := 7, ground := Ground.phase }, { on := 8, ground := Ground.phase }, { on := 9, ground := Ground.phase }, { on := 10, ground := Ground.phase }, { on := 11, ground := Ground.phase }, { on := 12, ground := Ground.phase }, { on := 13, ground := Ground.phase }, { on := 14, ground := Ground.phase }, { on := 15, ground := Ground.phase }, { on := 16, ground := Ground.phase }, { on := 17, ground := Ground.phase }], guard := none }) (v := ?_) rfl (by kernel_rfl) (by kernel_rfl) (by kernel_rfl) (fun _ _ _ h => h) (Or.inl ⟨by rfl, ?_⟩) ?_
          rotate_left
          · intro w hSw
            clear hSw
            go_simp
            all_goals with_reducible rfl
          simp only [Act.put, List.setIfInBounds_toArray, List.set_cons_zero, List.set_cons_succ]
          refine wpAnyD_done (by kernel_rfl) ?_ _
          go_wp2_with fail
          go_meet
          exact ⟨ob, d0, d1, gm, A2, c2, rfl, HR2.out, HO46.out.perm (cp_perm11 _ _ _ _ _ _)⟩
  case rest =>
    obtain ⟨ob, d0, d1, gm, A2, c2, rfl, hr2, ho⟩ := hcut
    clear HNC HMM HS3 H0 HS0 HM
    obtain rfl := HN.out
    rw [HBS.out] at ho
    obtain ⟨bo, hbo⟩ : ∃ bo : Vb, bo = ⟨ob, d0, d1, gm, .slice A2 s.notes.length c2⟩ := ⟨_, rfl⟩
    have hob : ob = bo.vb := by rw [hbo]
    have ho1 : Own W wc (Vst.heap (st0 s) bo ++ (vrest b s ++ R)) := by
      rw [hbo]
      exact ho.perm ((List.Perm.append_left [_, _, _, _] ((vrest_perm b s R).append_left _)).trans (perm5 [_, _, _, _] _ _ _ _))
    have hrk : RowOk bo.nv (st0 s).notes.length := by rw [hbo]; exact hr2
    rw [hob]
    clear ho hbo hob hr2 HBS
    have HF0 := hide (ho1.perm (List.perm_append_comm_assoc _ _ _))
    have hs0 : VarsAt W wc bo (st0 s) (frz wc (vrest b s) ++ R) := VarsAt.of_own (HF0.out.frz.perm (List.perm_append_comm_assoc _ _ _)) hrk
    have HS0 := hide hs0
    have HSRC := hide (fun (q : World) (so : Vst) (X : Heap) (hq : VarsAt W q bo so (X ++ (frz wc (vrest b s) ++ R))) => src_of HF0.out hq)
    have HKP := hide (fun (q : World) (so : Vst) (X : Heap) (hq : VarsAt W q bo so (X ++ (frz wc (vrest b s) ++ R))) => keep_of HF0.out hq)
    have HTH := hide (fun (q : World) (so : Vst) (hq : VarsAt W q bo so (frz wc (vrest b s) ++ R)) => thaw_of HF0.out hq)
    obtain ⟨VF, hVF⟩ : ∃ VF, VF = frz wc (vrest b s) ++ R := ⟨_, rfl⟩
    rw [← hVF] at HS0 HSRC HKP HTH
    have hsrc := HSRC.out wc (st0 s) [] HS0.out
    have e0 := hsrc.vb.cell 0
    have hdb := hsrc.db
    clear ho1 hrk hs0 hsrc hVF HF0
    go_wp2_with (refine wpList_range_r rfl _ rfl Try.underlying52 rfl hdb ?_; intro r w5 hr hrg hb5; have HRR := hide hr; clear hr)
    have HC0 := hide (HS0.out.newIt HRR.out hb5 hrg)
    have HG0 := hide hrg
    clear HRR hrg hb5 e0 hdb
    try simp only [Act.put, List.setIfInBounds_toArray, List.set_cons_succ, List.set_cons_zero]
    go_loopw [] (fun wr => ∃ so it T L, VarsAt W wr bo so ([(r, .obj it)] ++ VF) ∧ MapRg wr b.db r (entPairs s.defs) (L.map entP) ∧ (T ++ L).Perm s.defs ∧ so.Ok ∧ so.view = cpD s T) (fun wr => wr.rangeLeft b.db r)
    case atStart =>
      obtain ⟨it, h0⟩ := HC0.out
      exact ⟨st0 s, it, [], s.defs, h0, HG0.out, List.Perm.refl _, st0_ok HOK.out, rfl⟩
    case round =>
      obtain ⟨so, it, T, L, hc, hg, hp, hok, hvw⟩ := hrel
      have HC := hide hc
      have HG := hide hg
      have HP := hide (And.intro hp (And.intro hok hvw))
      have hleft := hg.left
      clear hc hg hp hok hvw
      rcases HG.out.next_r (P := Try.prog) entP L 0 with ⟨hE, hrun⟩ | ⟨x, w6, hMx, hrun, hen⟩
      · clear hleft
        have HS1 := hide (show VarsAt W wr bo so ([] ++ VF) from HC.out.drop)
        have HV1 := hide (show so.Ok ∧ so.view = cpL s [] from ⟨HP.out.2.1, by rw [HP.out.2.2]; exact cpD_end HOK.out (by have h9 := HP.out.1; rwa [hE.out, List.append_nil] at h9)⟩)
        have hsrc := HSRC.out wr so [] HS1.out
        have e1 := hsrc.vb.cell 1
        have hlb := hsrc.lb
        clear hsrc hE HC HG HP HC0 HG0 HS0
        obtain ⟨w4, rfl⟩ : ∃ x : World, x = wr := ⟨_, rfl⟩
        go_wp2_with (refine wpList_range_r rfl _ rfl Try.underlying53 rfl hlb ?_; intro r2 w5 hr hrg hb5; have HRR := hide hr; clear hr)
        have HC0 := hide (HS1.out.newIt HRR.out hb5 hrg)
        have HG0 := hide hrg
        clear HRR hrg hb5 e1 hlb HS1
        try simp only [Act.put, List.setIfInBounds_toArray, List.set_cons_succ, List.set_cons_zero]
        go_loopw [] (fun wr => ∃ so it T L, VarsAt W wr bo so ([(r2, .obj it)] ++ VF) ∧ MapRg wr b.lb r2 (locPairs s.locs) (L.map locP) ∧ (T ++ L).Perm s.locs ∧ so.Ok ∧ so.view = cpL s T) (fun wr => wr.rangeLeft b.lb r2)
        case atStart =>
          obtain ⟨it, h0⟩ := HC0.out
          exact ⟨so, it, [], s.locs, h0, HG0.out, List.Perm.refl _, HV1.out.1, HV1.out.2⟩
        case round =>
          obtain ⟨so, it, T, L, hc, hg, hp, hok, hvw⟩ := hrel
          have HC := hide hc
          have HG := hide hg
          have HP := hide (And.intro hp (And.intro hok hvw))
          have hleft := hg.left
          clear hc hg hp hok hvw
          rcases HG.out.next_r (P := Try.prog) locP L 0 with ⟨hE, hrun⟩ | ⟨x, w6, hMx, hrun, hen⟩
          · have HF := hide (show CopyG W w b s R (.returned (.pointer (some ⟨bo.vb, 0, none⟩))) wr from ⟨bo, so, rfl, HTH.out wr so HC.out.drop, HP.out.2.1, by rw [HP.out.2.2]; exact cpL_end HOK.out (by have h9 := HP.out.1; rwa [hE.out, List.append_nil] at h9)⟩)
            clear hleft hE HC HG HP
            go_wp2
            go_ret
            exact HF.out
          · simp only [locP] at hrun hen
            obtain ⟨A', B', hL, hg6, ho6⟩ := hMx.out
            obtain ⟨it', hc6⟩ := HC.out.turnIt ho6 hg6
            have HC6 := hide (show VarsAt W w6 bo so ([(r2, .obj it')] ++ VF) from hc6)
            have HG6 := hide hg6
            have HX := hide (show x ∈ s.locs ∧ ((x :: T) ++ (A' ++ B')).Perm s.locs ∧ (A' ++ B').length + 1 = L.length ∧ ∀ y ∈ T, y.k ≠ x.k from by
              have h9 := HP.out.1
              rw [hL] at h9
              have h8 : ((x :: T) ++ (A' ++ B')).Perm s.locs := by
                refine List.Perm.trans ?_ h9
                classical
                rw [List.perm_iff_count]
                intro x
                simp only [List.count_append, List.count_cons]
                omega
              refine ⟨h8.mem_iff.1 (by simp), h8, by rw [hL]; simp; omega, fun y hy e => ?_⟩
              have h7 := (h8.map (fun z : Loc => z.k)).nodup_iff.2 HOK.out.ln
              rw [List.cons_append, List.map_cons, List.nodup_cons] at h7
              exact h7.1 (List.mem_map.2 ⟨y, List.mem_append_left _ hy, e⟩))
            have hxk := HOK.out.lr x HX.out.1
            have hlx := (HSRC.out w6 so [(r2, .obj it')] HC6.out).loc x HX.out.1
            have HLF := hide hleft
            clear hMx hL hg6 ho6 hc6 hleft HC HG
            have HXK := hide hxk
            clear hxk
            go_wp2_with (refine wpList_range_r rfl _ rfl Try.underlying52 rfl hlx ?_; intro r3 w7 hr hrg hb7; have HRR := hide hr; clear hr)
            have HC3 := hide (HC6.out.newIt HRR.out hb7 hrg)
            have HG3 := hide hrg
            have HG7 := hide (HG6.out.below hb7)
            clear HRR hrg hb7 hlx
            try simp only [Act.put, List.setIfInBounds_toArray, List.set_cons_succ, List.set_cons_zero]
            obtain ⟨w4b, rfl⟩ : ∃ x : World, x = wr := ⟨_, rfl⟩
            go_loopw [] (fun wr => ∃ so it3 E L3, VarsAt W wr bo so ([(r3, .obj it3), (r2, .obj it')] ++ VF) ∧ MapRg wr x.g r3 (entPairs x.es) (L3.map entP) ∧ MapRg wr b.lb r2 (locPairs s.locs) ((A' ++ B').map locP) ∧ (E ++ L3).Perm x.es ∧ so.Ok ∧ so.view = cpE s T x.k E) (fun wr => wr.rangeLeft x.g r3)
            case atStart =>
              obtain ⟨it3, h0⟩ := HC3.out
              exact ⟨so, it3, [], x.es, h0, HG3.out, HG7.out, List.Perm.refl _, HP.out.2.1, HP.out.2.2.trans (cpE_start s HX.out.2.2.2)⟩
            case round =>
              obtain ⟨so3, it3, E, L3, hc, hg, hg2, hp, hok, hvw⟩ := hrel
              have HC := hide hc
              have HG := hide hg
              have HG2 := hide hg2
              have HP3 := hide (And.intro hp (And.intro hok hvw))
              have hleft := hg.left
              clear hc hg hg2 hp hok hvw
              rcases HG.out.next_r (P := Try.prog) entP L3 0 with ⟨hE, hrun⟩ | ⟨y, w8, hMx, hrun, hen⟩
              · have HV3 := hide (show so3.view = cpL s (x :: T) from by rw [HP3.out.2.2]; exact cpE_end HOK.out T HX.out.1 (by have h9 := HP3.out.1; rwa [hE.out, List.append_nil] at h9))
                have HCd := hide (show VarsAt W wr bo so3 ([(r2, .obj it')] ++ VF) from HC.out.drop)
                clear hleft hE
                go_wp2
                go_roundw
                case rel => exact ⟨so3, it', x :: T, A' ++ B', HCd.out, HG2.out, HX.out.2.1, HP3.out.2.1, HV3.out⟩
                case measure =>
                  have h1 := HG2.out.left
                  rw [h1, HLF.out]
                  simp only [List.length_map]
                  have := HX.out.2.2.1
                  omega
              · simp only [entP] at hrun hen
                obtain ⟨A3, B3, hL, hg8, ho8⟩ := hMx.out
                obtain ⟨it4, hc8⟩ := HC.out.turnIt ho8 hg8
                have HC8 := hide (show VarsAt W w8 bo so3 ([(r3, .obj it4), (r2, .obj it')] ++ VF) from hc8)
                have HG8 := hide hg8
                have HG28 := hide (HG2.out.stay HC.out.own HC8.out.own (it := it') (List.mem_append_right _ (by simp)) (List.mem_append_right _ (by simp)) (((HKP.out _ _ [(r3, .obj it4), (r2, .obj it')] HC8.out) b.lb vrest_lb).trans ((HKP.out _ _ [(r3, .obj it3), (r2, .obj it')] HC.out) b.lb vrest_lb).symm))
                have HY := hide (show y ∈ x.es ∧ ((y :: E) ++ (A3 ++ B3)).Perm x.es ∧ (A3 ++ B3).length + 1 = L3.length ∧ ∀ e ∈ E, e.n ≠ y.n from by
                  have h9 := HP3.out.1
                  rw [hL] at h9
                  have h8 : ((y :: E) ++ (A3 ++ B3)).Perm x.es := by
                    refine List.Perm.trans ?_ h9
                    classical
                    rw [List.perm_iff_count]
                    intro x
                    simp only [List.count_append, List.count_cons]
                    omega
                  refine ⟨h8.mem_iff.1 (by simp), h8, by rw [hL]; simp; omega, fun z hz e => ?_⟩
                  have h7 := (h8.map (fun z : Ent => z.n)).nodup_iff.2 (HOK.out.en x HX.out.1).1
                  rw [List.cons_append, List.map_cons, List.nodup_cons] at h7
                  exact h7.1 (List.mem_map.2 ⟨z, List.mem_append_left _ hz, e⟩))
                obtain ⟨k0, k1, k2, _, _, _⟩ := cel_cells ((HSRC.out w8 so3 [(r3, .obj it4), (r2, .obj it')] HC8.out).ent x HX.out.1 y HY.out.1)
                have HIN := hide (in_any HC8.out HP3.out.2.1 (k := x.k) HXK.out (n := y.n) ((HOK.out.en x HX.out.1).2 y HY.out.1) (by
                  have h9 : so3.view.l x.k y.n = none := by rw [HP3.out.2.2]; exact cpE_none HY.out.2.2.2
                  rw [view_l] at h9
                  exact Option.map_eq_none_iff.1 h9) y.c)
                have HLF3 := hide hleft
                clear hMx hL hg8 ho8 hc8 hleft
                go_wp2_with fail
                refine (Calls.mono HIN.out) ?_
                rintro rr w9 ⟨g9, rfl, s9, hV9, hok9, hvw9⟩
                have HV9 := hide (show VarsAt W w9 bo s9 ([(r3, .obj it4), (r2, .obj it')] ++ VF) from hV9)
                have HW9 := hide (show s9.Ok ∧ s9.view = cpE s T x.k (y :: E) from ⟨hok9, by rw [hvw9, HP3.out.2.2]; exact cpE_step s T (by have := HXK.out; omega) E y⟩)
                have HG9 := hide (HG8.out.stay HC8.out.own HV9.out.own (it := it4) (List.mem_append_right _ (by simp)) (List.mem_append_right _ (by simp)) (((HKP.out _ _ [(r3, .obj it4), (r2, .obj it')] HV9.out) x.g (vrest_lx HX.out.1)).trans ((HKP.out _ _ [(r3, .obj it4), (r2, .obj it')] HC8.out) x.g (vrest_lx HX.out.1)).symm))
                have HG29 := hide (HG28.out.stay HC8.out.own HV9.out.own (it := it') (List.mem_append_right _ (by simp)) (List.mem_append_right _ (by simp)) (((HKP.out _ _ [(r3, .obj it4), (r2, .obj it')] HV9.out) b.lb vrest_lb).trans ((HKP.out _ _ [(r3, .obj it4), (r2, .obj it')] HC8.out) b.lb vrest_lb).symm))
                clear hV9 hok9 hvw9 HIN
                go_wp2
                go_roundw
                case rel => exact ⟨s9, it4, y :: E, A3 ++ B3, HV9.out, HG9.out, HG29.out, HY.out.2.1, HW9.out.1, HW9.out.2⟩
                case measure =>
                  have h1 := HG9.out.left
                  rw [h1, HLF3.out]
                  simp only [List.length_map]
                  have := HY.out.2.2.1
                  omega
      · simp only [entP] at hrun hen
        obtain ⟨A', B', hL, hg6, ho6⟩ := hMx.out
        obtain ⟨it', hc6⟩ := HC.out.turnIt ho6 hg6
        have HC6 := hide hc6
        have HG6 := hide hg6
        have HX := hide (show x ∈ s.defs ∧ ((x :: T) ++ (A' ++ B')).Perm s.defs ∧ (A' ++ B').length + 1 = L.length from by
          have h9 := HP.out.1
          rw [hL] at h9
          have h8 : ((x :: T) ++ (A' ++ B')).Perm s.defs := by
            refine List.Perm.trans ?_ h9
            classical
            rw [List.perm_iff_count]
            intro x
            simp only [List.count_append, List.count_cons]
            omega
          exact ⟨h8.mem_iff.1 (by simp), h8, by rw [hL]; simp; omega⟩)
        have hxv := HOK.out.dr x HX.out.1
        have HSR := hide (fun (q : World) (so : Vst) (X : Heap) (hq : VarsAt W q bo so (X ++ VF)) => (cel_cells ((HSRC.out q so X hq).def_ x HX.out.1)))
        obtain ⟨k0, k1, k2, _, _, _⟩ := HSR.out w6 so [(r, .obj it')] hc6
        have HLF := hide hleft
        clear hMx hL hg6 ho6 hc6 hleft HC HG
        have HV := hide HC6.out.drew
        go_wp2
        go_region_with (go_at_call 37; refine (global_any HV.out x.n).mono ?_; rintro rr w3 ⟨g, rfl, hV3, hf⟩; obtain ⟨q0, q1, q2, f0, f1, f2⟩ := cel_cells (hV3.cel (mem_def hf)); obtain ⟨l0, l1, l2, _, _, _⟩ := HSR.out w3 _ [(r, .obj it')] hV3; have HSS := hide (hV3.store (mem_def hf) x.c); have HFF := hide hf; clear hV3 hf)
        all_goals
          go_wp2
          go_roundw
          case rel =>
            refine ⟨_, it', x :: T, A' ++ B', HSS.out, ?_, HX.out.2.1, upd_ok (glob_ok HP.out.2.1 hxv g) g x.c, ?_⟩
            · exact HG6.out.stay HC6.out.own HSS.out.own (List.mem_append_right _ (List.mem_cons_self ..)) (List.mem_append_right _ (List.mem_cons_self ..)) (((HKP.out _ _ [(r, .obj it')] HSS.out) b.db vrest_db).trans ((HKP.out _ _ [(r, .obj it')] HC6.out) b.db vrest_db).symm)
            · rw [upd_def HSS.out HFF.out, glob_view, HP.out.2.2, cpD_step]
          case measure =>
            have h1 := (HG6.out.stay HC6.out.own HSS.out.own (List.mem_append_right _ (List.mem_cons_self ..)) (List.mem_append_right _ (List.mem_cons_self ..)) (((HKP.out _ _ [(r, .obj it')] HSS.out) b.db vrest_db).trans ((HKP.out _ _ [(r, .obj it')] HC6.out) b.db vrest_db).symm)).left
            rw [h1, HLF.out]
            simp only [List.length_map]
            have := HX.out.2.2
            omega
end
end Go.Proofs.Ytempnakdpmmmoaa
