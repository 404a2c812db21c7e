/- A set of buffers that are known whole: add and New. No condition but those written. -/
import Derived.Test.YtnbhejbpofjamaaGreatDoorBmg
import Derived.Test.YtnbhejbpofjamaaGreatDoorDraw
namespace Go.Proofs.YtnbhejbpofjamaaGreatDoor
open Go.RowKit

theorem below_box (w : World) (o : Obj) : Below w.heap.size w (w.alloc o) := (Below.refl _ w).alloc (Nat.le_refl _) _
theorem cell_keep {w w' : World} {p : Addr} {u : Value} (h : w.cell? p = some u) (hb : Below w.heap.size w w') : w'.cell? p = some u := (hb.cell (World.block_lt_of_cell? _ _ h)).trans h
section
variable {W w w' : World} {b : Bb} {s : Bst} {R : Heap}
theorem BAt.box (h : BAt W w b s R) (t : TypeId) (cs : Array Value) : BAt W (w.alloc (.cells cs t)) b s ((w.heap.size, .cells t cs) :: R) :=
  ⟨(h.own.newCells t cs).perm List.perm_middle.symm, h.sl.alloc _⟩
theorem perm_new (A Z R : Heap) : (Z ++ (A ++ R)).Perm (A ++ (Z ++ R)) := List.perm_append_comm_assoc Z A R
set_option maxRecDepth 100000 in
set_option maxHeartbeats 4000000 in
theorem add_any (h : BAt W w b s R) (hT : Tabs W) (hf : fndB s.all (s.next : Int) = none) (hl : s.order.length ≤ 1000000) (hn : s.next ≤ 1000000) (n : ByteArray) :
    Calls Tryz.prog 42 #[.pointer (some ⟨b.sb, 0, none⟩), .string n] w fun e w' => e = .returned (.int .i64 (s.next : Int)) ∧ ∃ g z, SAt W w' b.sb (addS s n g z.bp) (zHeap z ⟨[], 0, s.p, s.q, s.r⟩ ++ R) ∧ ZOk z ⟨[], 0, s.p, s.q, s.r⟩ := by
  have HADD := hide (fun (w6 : World) (bp : Nat) (R' : Heap) (h6 : BAt W w6 b s R') => (show ∃ w8, (Instr.mapUpdate 69 (.map (some b.mb)) (.int .i64 (s.next : Int)) (.pointer (some ⟨w6.heap.size, 0, none⟩))).run Tryz.prog (w6.alloc (.cells #[.pointer (some ⟨bp, 0, none⟩), .string n] 77)) = .ok () w8 ∧ BAt W w8 b (s.withAll (s.all ++ [⟨s.next, w6.heap.size, bp, n⟩])) R' from by
    have h7 := h6.box 77 #[.pointer (some ⟨bp, 0, none⟩), .string n]
    obtain ⟨w8, hru, hm, ho⟩ := (h7.mb).update (P := Tryz.prog) (nb_keys s.all) Tryz.underlying69 Tryz.underlying3 (.int _ (s.next : Int)) (.pointer (some ⟨w6.heap.size, 0, none⟩))
    rw [nb_put ⟨s.next, w6.heap.size, bp, n⟩ s.all hf] at hm
    exact ⟨w8, hru, BAt.addNb (x := ⟨s.next, w6.heap.size, bp, n⟩) h7 ho hm⟩))
  have HBW := hide (fun (y : World) (hb : Below w.heap.size w y) => (h.below hb).own)
  have HBN := hide (fun (y : World) (z : Zb) (hz : BufAt W y z ⟨[], 0, s.p, s.q, s.r⟩ (s.heap b ++ R)) => (show BAt W y b s (zHeap z ⟨[], 0, s.p, s.q, s.r⟩ ++ R) from h.reR (hz.own_.perm (perm_new _ _ _))))
  have HT := hide hT
  obtain ⟨i0, hi, hi1, hi2, hi3⟩ := info_parts info_int
  have HI := hide hi
  have HI1 := hide hi1
  have HI2 := hide hi2
  have HI3 := hide hi3
  have c0 := h.c0
  have c3 := h.c3
  have c4 : w.cell? ⟨b.sb, 4, none⟩ = some (.int .i64 s.p) := (h.sb.cell 4).trans rfl
  have c5 : w.cell? ⟨b.sb, 5, none⟩ = some (.int .i64 s.q) := (h.sb.cell 5).trans rfl
  have c6 : w.cell? ⟨b.sb, 6, none⟩ = some (.int .i64 s.r) := (h.sb.cell 6).trans rfl
  obtain ⟨A, c, hov, _, _⟩ := h.sl.form
  obtain ⟨sb, mb, ov⟩ := b
  simp only [] at hov c0 c3 c4 c5 c6 HADD HBW HBN ⊢
  subst hov
  obtain ⟨al, od, cu, nx, sp, sq, sr⟩ := s
  simp only [] at hl hn c3 c4 c5 c6 HADD HBW HBN ⊢
  have HL := hide hl
  have HN := hide hn
  clear h hf hT hi hi1 hi2 hi3 hl
  go_enter Tryz.func42, Tryz.ntmps42
  go_upto_region 2 with fail
  have HS0 := hide (show (w.cell? ⟨sb, 0, none⟩ = some (.map (some mb)) ∧ w.cell? ⟨sb, 4, none⟩ = some (.int .i64 sp) ∧ w.cell? ⟨sb, 5, none⟩ = some (.int .i64 sq) ∧ w.cell? ⟨sb, 6, none⟩ = some (.int .i64 sr)) from ⟨c0, c4, c5, c6⟩)
  refine wp_region_d (S := fun y => (y.cell? ⟨sb, 0, none⟩ = some (.map (some mb)) ∧ y.cell? ⟨sb, 4, none⟩ = some (.int .i64 sp) ∧ y.cell? ⟨sb, 5, none⟩ = some (.int .i64 sq) ∧ y.cell? ⟨sb, 6, none⟩ = some (.int .i64 sr))) (D := [24]) (by kernel_rfl) ?_
  change wpAnyD _ _ _ _ _ _ _ _ _ w.drew
  have HB2 := hide ((Below.refl w.heap.size w).drew)
  obtain ⟨w2, hw2⟩ : ∃ y : World, y = w.drew := ⟨_, rfl⟩
  rw [← hw2] at HB2 ⊢
  clear hw2
  have hS : (w2.cell? ⟨sb, 0, none⟩ = some (.map (some mb)) ∧ w2.cell? ⟨sb, 4, none⟩ = some (.int .i64 sp) ∧ w2.cell? ⟨sb, 5, none⟩ = some (.int .i64 sq) ∧ w2.cell? ⟨sb, 6, none⟩ = some (.int .i64 sr)) := ⟨cell_keep HS0.out.1 HB2.out, cell_keep HS0.out.2.1 HB2.out, cell_keep HS0.out.2.2.1 HB2.out, cell_keep HS0.out.2.2.2 HB2.out⟩
  clear c0 c4 c5 c6
  refine wpAnyD_takeW (i := 0) (oi := { dst := some 10, op := Op.move (Operand.tmp 0), type := 25, pos := "buffers.go:41", after := #[], guard := none }) (v := ?_) rfl (by kernel_rfl) (by kernel_rfl) (by kernel_rfl) (fun _ _ _ h => h) (Or.inl ⟨by rfl, ?_⟩) ?_
  rotate_left
  · intro w hSw
    clear hSw
    go_simp
    all_goals with_reducible rfl
  simp only [Act.put, List.setIfInBounds_toArray, List.set_cons_zero, List.set_cons_succ]
  refine wpAnyD_takeW (i := 1) (oi := { dst := some 11, op := Op.nilCheck (Operand.tmp 10), type := 0, pos := "buffers.go:41", after := #[{ on := 0, ground := Ground.data }], guard := none }) (v := ?_) rfl (by kernel_rfl) (by kernel_rfl) (by kernel_rfl) (fun _ _ _ h => h) (Or.inl ⟨by rfl, ?_⟩) ?_
  rotate_left
  · intro w hSw
    clear hSw
    go_simp
    all_goals with_reducible rfl
  simp only [Act.put, List.setIfInBounds_toArray, List.set_cons_zero, List.set_cons_succ]
  refine wpAnyD_takeW (i := 2) (oi := { dst := some 12, op := Op.fieldAddr 72 (Operand.tmp 11) 0, type := 0, pos := "buffers.go:41", after := #[{ on := 1, ground := Ground.data }], guard := none }) (v := ?_) rfl (by kernel_rfl) (by kernel_rfl) (by kernel_rfl) (fun _ _ _ h => h) (Or.inl ⟨by rfl, ?_⟩) ?_
  rotate_left
  · intro w hSw
    clear hSw
    go_simp
    all_goals with_reducible rfl
  simp only [Act.put, List.setIfInBounds_toArray, List.set_cons_zero, List.set_cons_succ]
  refine wpAnyD_take (i := 3) (oi := { dst := some 13, op := Op.load 69 (Operand.tmp 12), type := 69, pos := "buffers.go:41", after := #[{ on := 2, ground := Ground.data }], guard := none }) (v := ?_) rfl (by kernel_rfl) (by kernel_rfl) (by kernel_rfl) (by kernel_rfl) (by kernel_rfl) (fun _ _ _ h => h) (Or.inl ⟨by rfl, ?_⟩) hS ?_
  rotate_left
  · intro w hSw
    obtain ⟨s0, s1, s2, s3⟩ := hSw
    go_simp
    all_goals with_reducible rfl
  simp only [Act.put, List.setIfInBounds_toArray, List.set_cons_zero, List.set_cons_succ]
  refine wpAnyD_takeW (i := 4) (oi := { dst := some 14, op := Op.move (Operand.tmp 5), type := 3, pos := "buffers.go:41", after := #[], guard := none }) (v := ?_) rfl (by kernel_rfl) (by kernel_rfl) (by kernel_rfl) (fun _ _ _ h => h) (Or.inl ⟨by rfl, ?_⟩) ?_
  rotate_left
  · intro w hSw
    clear hSw
    go_simp
    all_goals with_reducible rfl
  simp only [Act.put, List.setIfInBounds_toArray, List.set_cons_zero, List.set_cons_succ]
  refine wpAnyD_takeW (i := 5) (oi := { dst := some 15, op := Op.move (Operand.tmp 0), type := 25, pos := "buffers.go:41", after := #[], guard := none }) (v := ?_) rfl (by kernel_rfl) (by kernel_rfl) (by kernel_rfl) (fun _ _ _ h => h) (Or.inl ⟨by rfl, ?_⟩) ?_
  rotate_left
  · intro w hSw
    clear hSw
    go_simp
    all_goals with_reducible rfl
  simp only [Act.put, List.setIfInBounds_toArray, List.set_cons_zero, List.set_cons_succ]
  refine wpAnyD_takeW (i := 6) (oi := { dst := some 16, op := Op.nilCheck (Operand.tmp 15), type := 0, pos := "buffers.go:41", after := #[{ on := 5, ground := Ground.data }], guard := none }) (v := ?_) rfl (by kernel_rfl) (by kernel_rfl) (by kernel_rfl) (fun _ _ _ h => h) (Or.inl ⟨by rfl, ?_⟩) ?_
  rotate_left
  · intro w hSw
    clear hSw
    go_simp
    all_goals with_reducible rfl
  simp only [Act.put, List.setIfInBounds_toArray, List.set_cons_zero, List.set_cons_succ]
  refine wpAnyD_takeW (i := 7) (oi := { dst := some 17, op := Op.fieldAddr 72 (Operand.tmp 16) 4, type := 0, pos := "buffers.go:41", after := #[{ on := 6, ground := Ground.data }], guard := none }) (v := ?_) rfl (by kernel_rfl) (by kernel_rfl) (by kernel_rfl) (fun _ _ _ h => h) (Or.inl ⟨by rfl, ?_⟩) ?_
  rotate_left
  · intro w hSw
    clear hSw
    go_simp
    all_goals with_reducible rfl
  simp only [Act.put, List.setIfInBounds_toArray, List.set_cons_zero, List.set_cons_succ]
  refine wpAnyD_takeW (i := 8) (oi := { dst := some 18, op := Op.indexAddr 70 (Operand.tmp 17) (Operand.const (Value.int IntKind.i64 0)), type := 0, pos := "buffers.go:41", after := #[{ on := 7, ground := Ground.data }], guard := none }) (v := ?_) rfl (by kernel_rfl) (by kernel_rfl) (by kernel_rfl) (fun _ _ _ h => h) (Or.inl ⟨by rfl, ?_⟩) ?_
  rotate_left
  · intro w hSw
    clear hSw
    go_simp
    all_goals with_reducible rfl
  simp only [Act.put, List.setIfInBounds_toArray, List.set_cons_zero, List.set_cons_succ]
  refine wpAnyD_take (i := 9) (oi := { dst := some 19, op := Op.load 3 (Operand.tmp 18), type := 3, pos := "buffers.go:41", after := #[{ on := 8, ground := Ground.data }], guard := none }) (v := ?_) rfl (by kernel_rfl) (by kernel_rfl) (by kernel_rfl) (by kernel_rfl) (by kernel_rfl) (fun _ _ _ h => h) (Or.inl ⟨by rfl, ?_⟩) hS ?_
  rotate_left
  · intro w hSw
    obtain ⟨s0, s1, s2, s3⟩ := hSw
    go_simp
    all_goals with_reducible rfl
  simp only [Act.put, List.setIfInBounds_toArray, List.set_cons_zero, List.set_cons_succ]
  refine wpAnyD_takeW (i := 10) (oi := { dst := some 20, op := Op.move (Operand.tmp 0), type := 25, pos := "buffers.go:41", after := #[], guard := none }) (v := ?_) rfl (by kernel_rfl) (by kernel_rfl) (by kernel_rfl) (fun _ _ _ h => h) (Or.inl ⟨by rfl, ?_⟩) ?_
  rotate_left
  · intro w hSw
    clear hSw
    go_simp
    all_goals with_reducible rfl
  simp only [Act.put, List.setIfInBounds_toArray, List.set_cons_zero, List.set_cons_succ]
  refine wpAnyD_takeW (i := 11) (oi := { dst := some 21, op := Op.nilCheck (Operand.tmp 20), type := 0, pos := "buffers.go:41", after := #[{ on := 10, ground := Ground.data }], guard := none }) (v := ?_) rfl (by kernel_rfl) (by kernel_rfl) (by kernel_rfl) (fun _ _ _ h => h) (Or.inl ⟨by rfl, ?_⟩) ?_
  rotate_left
  · intro w hSw
    clear hSw
    go_simp
    all_goals with_reducible rfl
  simp only [Act.put, List.setIfInBounds_toArray, List.set_cons_zero, List.set_cons_succ]
  refine wpAnyD_takeW (i := 12) (oi := { dst := some 22, op := Op.fieldAddr 72 (Operand.tmp 21) 4, type := 0, pos := "buffers.go:41", after := #[{ on := 11, ground := Ground.data }], guard := none }) (v := ?_) rfl (by kernel_rfl) (by kernel_rfl) (by kernel_rfl) (fun _ _ _ h => h) (Or.inl ⟨by rfl, ?_⟩) ?_
  rotate_left
  · intro w hSw
    clear hSw
    go_simp
    all_goals with_reducible rfl
  simp only [Act.put, List.setIfInBounds_toArray, List.set_cons_zero, List.set_cons_succ]
  refine wpAnyD_takeW (i := 13) (oi := { dst := some 23, op := Op.indexAddr 70 (Operand.tmp 22) (Operand.const (Value.int IntKind.i64 1)), type := 0, pos := "buffers.go:41", after := #[{ on := 12, ground := Ground.data }], guard := none }) (v := ?_) rfl (by kernel_rfl) (by kernel_rfl) (by kernel_rfl) (fun _ _ _ h => h) (Or.inl ⟨by rfl, ?_⟩) ?_
  rotate_left
  · intro w hSw
    clear hSw
    go_simp
    all_goals with_reducible rfl
  simp only [Act.put, List.setIfInBounds_toArray, List.set_cons_zero, List.set_cons_succ]
  refine wpAnyD_take (i := 14) (oi := { dst := some 24, op := Op.load 3 (Operand.tmp 23), type := 3, pos := "buffers.go:41", after := #[{ on := 13, ground := Ground.data }], guard := none }) (v := ?_) rfl (by kernel_rfl) (by kernel_rfl) (by kernel_rfl) (by kernel_rfl) (by kernel_rfl) (fun _ _ _ h => h) (Or.inl ⟨by rfl, ?_⟩) hS ?_
  rotate_left
  · intro w hSw
    obtain ⟨s0, s1, s2, s3⟩ := hSw
    go_simp
    all_goals with_reducible rfl
  simp only [Act.put, List.setIfInBounds_toArray, List.set_cons_zero, List.set_cons_succ]
  refine wpAnyD_takeW (i := 15) (oi := { dst := some 25, op := Op.move (Operand.tmp 0), type := 25, pos := "buffers.go:41", after := #[], guard := none }) (v := ?_) rfl (by kernel_rfl) (by kernel_rfl) (by kernel_rfl) (fun _ _ _ h => h) (Or.inl ⟨by rfl, ?_⟩) ?_
  rotate_left
  · intro w hSw
    clear hSw
    go_simp
    all_goals with_reducible rfl
  simp only [Act.put, List.setIfInBounds_toArray, List.set_cons_zero, List.set_cons_succ]
  refine wpAnyD_takeW (i := 16) (oi := { dst := some 26, op := Op.nilCheck (Operand.tmp 25), type := 0, pos := "buffers.go:41", after := #[{ on := 15, ground := Ground.data }], guard := none }) (v := ?_) rfl (by kernel_rfl) (by kernel_rfl) (by kernel_rfl) (fun _ _ _ h => h) (Or.inl ⟨by rfl, ?_⟩) ?_
  rotate_left
  · intro w hSw
    clear hSw
    go_simp
    all_goals with_reducible rfl
  simp only [Act.put, List.setIfInBounds_toArray, List.set_cons_zero, List.set_cons_succ]
  refine wpAnyD_takeW (i := 17) (oi := { dst := some 27, op := Op.fieldAddr 72 (Operand.tmp 26) 4, type := 0, pos := "buffers.go:41", after := #[{ on := 16, ground := Ground.data }], guard := none }) (v := ?_) rfl (by kernel_rfl) (by kernel_rfl) (by kernel_rfl) (fun _ _ _ h => h) (Or.inl ⟨by rfl, ?_⟩) ?_
  rotate_left
  · intro w hSw
    clear hSw
    go_simp
    all_goals with_reducible rfl
  simp only [Act.put, List.setIfInBounds_toArray, List.set_cons_zero, List.set_cons_succ]
  refine wpAnyD_takeW (i := 18) (oi := { dst := some 28, op := Op.indexAddr 70 (Operand.tmp 27) (Operand.const (Value.int IntKind.i64 2)), type := 0, pos := "buffers.go:41", after := #[{ on := 17, ground := Ground.data }], guard := none }) (v := ?_) rfl (by kernel_rfl) (by kernel_rfl) (by kernel_rfl) (fun _ _ _ h => h) (Or.inl ⟨by rfl, ?_⟩) ?_
  rotate_left
  · intro w hSw
    clear hSw
    go_simp
    all_goals with_reducible rfl
  simp only [Act.put, List.setIfInBounds_toArray, List.set_cons_zero, List.set_cons_succ]
  refine wpAnyD_take (i := 19) (oi := { dst := some 29, op := Op.load 3 (Operand.tmp 28), type := 3, pos := "buffers.go:41", after := #[{ on := 18, ground := Ground.data }], guard := none }) (v := ?_) rfl (by kernel_rfl) (by kernel_rfl) (by kernel_rfl) (by kernel_rfl) (by kernel_rfl) (fun _ _ _ h => h) (Or.inl ⟨by rfl, ?_⟩) hS ?_
  rotate_left
  · intro w hSw
    obtain ⟨s0, s1, s2, s3⟩ := hSw
    go_simp
    all_goals with_reducible rfl
  simp only [Act.put, List.setIfInBounds_toArray, List.set_cons_zero, List.set_cons_succ]
  refine wpAnyD_takeW (i := 21) (oi := { dst := some 31, op := Op.move (Operand.tmp 1), type := 9, pos := "buffers.go:41", after := #[], guard := none }) (v := ?_) rfl (by kernel_rfl) (by kernel_rfl) (by kernel_rfl) (fun _ _ _ h => h) (Or.inl ⟨by rfl, ?_⟩) ?_
  rotate_left
  · intro w hSw
    clear hSw
    go_simp
    all_goals with_reducible rfl
  simp only [Act.put, List.setIfInBounds_toArray, List.set_cons_zero, List.set_cons_succ]
  refine wpAnyD_one (i := 20) (o := { dst := some 30, op := Op.call { callee := Callee.value (Operand.func 68), args := #[Operand.tmp 19, Operand.tmp 24, Operand.tmp 29], argTypes := #[3, 3, 3] }, type := 39, pos := "buffers.go:41", after := #[{ on := 9, ground := Ground.data }, { on := 14, ground := Ground.data }, { on := 19, ground := Ground.data }], guard := none }) (by kernel_rfl) rfl (fun K hK => ?_)
  go_simp
  (with_reducible refine Calls.mono (buffer_own (HBW.out w2 HB2.out) HT.out sp sq sr) ?_)
  rintro r w6 ⟨z, rfl, hz6⟩
  have H6 := hide (HBN.out w6 z hz6)
  have HZ6 := hide hz6.zok
  obtain ⟨bp, hbp⟩ : ∃ bp, bp = z.bp := ⟨_, rfl⟩
  rw [← hbp]
  have HBP := hide hbp
  have hS6 : (w6.cell? ⟨sb, 0, none⟩ = some (.map (some mb)) ∧ w6.cell? ⟨sb, 4, none⟩ = some (.int .i64 sp) ∧ w6.cell? ⟨sb, 5, none⟩ = some (.int .i64 sq) ∧ w6.cell? ⟨sb, 6, none⟩ = some (.int .i64 sr)) := ⟨H6.out.c0, (H6.out.sb.cell 4).trans rfl, (H6.out.sb.cell 5).trans rfl, (H6.out.sb.cell 6).trans rfl⟩
  refine hK _ _ (fun _ _ => hS6) ?_
  clear hK K hS hz6 hbp
  try simp only [Act.put, List.setIfInBounds_toArray, List.set_cons_zero, List.set_cons_succ]
  have hS := hS6
  clear hS6
  refine wpAnyD_takeW (i := 22) (oi := { dst := some 32, op := Op.build 77 #[(0, Operand.tmp 30), (1, Operand.tmp 31)], type := 77, pos := "buffers.go:41", after := #[{ on := 20, ground := Ground.data }, { on := 21, ground := Ground.data }], guard := none }) (v := ?_) rfl (by kernel_rfl) (by kernel_rfl) (by kernel_rfl) (fun _ _ _ h => h) (Or.inl ⟨by rfl, ?_⟩) ?_
  rotate_left
  · intro w hSw
    clear hSw
    go_simp
    all_goals with_reducible rfl
  simp only [Act.put, List.setIfInBounds_toArray, List.set_cons_zero, List.set_cons_succ]
  refine wpAnyD_one (i := 23) (o := { dst := some 33, op := Op.box 77 (Operand.tmp 32), type := 78, pos := "buffers.go:41", after := #[{ on := 22, ground := Ground.data }], guard := none }) (by kernel_rfl) rfl (fun K hK => ?_)
  go_simp
  refine hK _ _ (fun _ _ => ⟨cell_keep hS.1 (below_box w6 (.cells #[.pointer (some ⟨bp, 0, none⟩), .string n] 77)), cell_keep hS.2.1 (below_box w6 (.cells #[.pointer (some ⟨bp, 0, none⟩), .string n] 77)), cell_keep hS.2.2.1 (below_box w6 (.cells #[.pointer (some ⟨bp, 0, none⟩), .string n] 77)), cell_keep hS.2.2.2 (below_box w6 (.cells #[.pointer (some ⟨bp, 0, none⟩), .string n] 77))⟩) ?_
  clear hK K hS
  try simp only [Act.put, List.setIfInBounds_toArray, List.set_cons_zero, List.set_cons_succ]
  obtain ⟨w8, hru, h8⟩ := HADD.out w6 bp _ H6.out
  have H8 := hide h8
  clear h8
  refine wpAnyD_one (i := 24) (o := { dst := none, op := Op.mapUpdate 69 (Operand.tmp 13) (Operand.tmp 14) (Operand.tmp 33), type := 0, pos := "buffers.go:41", after := #[{ on := 3, ground := Ground.data }, { on := 4, ground := Ground.data }, { on := 23, ground := Ground.data }, { on := 20, ground := Ground.chain }, { on := 0, ground := Ground.phase }, { on := 1, ground := Ground.phase }, { on := 2, ground := Ground.phase }, { on := 3, ground := Ground.phase }, { on := 4, ground := Ground.phase }, { on := 5, ground := Ground.phase }, { on := 6, ground := Ground.phase }, { on := 7, ground := Ground.phase }, { on := 8, ground := Ground.phase }, { on := 9, ground := Ground.phase }, { on := 10, ground := Ground.phase }, { on := 11, ground := Ground.phase }, { on := 12, ground := Ground.phase }, { on := 13, ground := Ground.phase }, { on := 14, ground := Ground.phase }, { on := 15, ground := Ground.phase }, { on := 16, ground := Ground.phase }, { on := 17, ground := Ground.phase }, { on := 18, ground := Ground.phase }, { on := 19, ground := Ground.phase }, { on := 20, ground := Ground.phase }, { on := 21, ground := Ground.phase }, { on := 22, ground := Ground.phase }, { on := 23, ground := Ground.phase }], guard := none }) (by kernel_rfl) rfl (fun K hK => ?_)
  go_simp
  refine hK _ _ (fun h => by cases h) ?_
  clear hK K hru
  try simp only [Act.put, List.setIfInBounds_toArray, List.set_cons_zero, List.set_cons_succ]
  refine wpAnyD_done (by kernel_rfl) ?_ _
  have d1 : w8.cell? ⟨sb, 1, none⟩ = some (.slice A od.length c) := H8.out.c1
  have HAP := hide (fun o => H8.out.skip o)
  obtain ⟨nl, hnl⟩ : ∃ nl, nl = od.length := ⟨_, rfl⟩
  rw [← hnl] at d1
  have HNL := hide hnl
  have d1' : (w8.alloc (.cells #[.int .i64 (nx : Int)] 3)).cell? ⟨sb, 1, none⟩ = some (.slice A nl c) := cell_keep d1 (below_box w8 _)
  clear hnl
  go_wp2_with (at_builtin; refine wpList_append_sl rfl (.tmp 38) (.tmp 40) 32 rfl 3 i0 (.int .i64 0) 1 8 Tryz.underlying32 HI.out HI1.out HI2.out HI3.out rfl _ nl (ints od) rfl (by rw [HNL.out]; exact (HAP.out _).sl) _ rfl 1 [_] (rd_one _ _ _) ?one ?b1 ?b2 ?_)
  case one => rfl
  case b1 => have := HL.out; have := HNL.out; unfold maxLen; omega
  case b2 => have := HL.out; have := HNL.out; omega
  intro v2 w9 hs ho hv
  obtain ⟨A2, c2, rfl, _, _⟩ := hs.form
  have hs2 : IntSl w9 (.slice A2 (nl + 1) c2) (od ++ [nx]) := by
    unfold IntSl
    rw [List.length_append, ← HNL.out, ints_snoc]
    exact hs
  obtain ⟨x1, x2⟩ := (HAP.out (.cells #[.int .i64 (nx : Int)] 3)).reorder hs2 (by rw [← HNL.out]; exact ho) (by rw [← HNL.out]; rcases hv with h | h; exact .inl h; exact .inr (h.trans (congrArg some (World.size_alloc ..).symm)))
  have f1 : w9.frozen? ⟨sb, 1, none⟩ = false := x1.frozen 1
  have e1 : w9.cell? ⟨sb, 1, none⟩ = some (.slice A od.length c) := (x1.cell 1).trans rfl
  have H9 := hide x2
  obtain ⟨w10, hw10⟩ : ∃ y : World, y = w9.setCell ⟨sb, 1, none⟩ (.slice A2 (nl + 1) c2) := ⟨_, rfl⟩
  have HW := hide hw10
  rw [show w9.setCell ⟨(⟨sb, mb, .slice A od.length c⟩ : Bb).sb, 1, none⟩ (.slice A2 (nl + 1) c2) = w10 from hw10.symm] at H9
  have e3 : w10.cell? ⟨sb, 3, none⟩ = some (.int .i64 (nx : Int)) := H9.out.c3
  have f3 : w10.frozen? ⟨sb, 3, none⟩ = false := H9.out.sb.frozen 3
  have HF := hide (H9.out.setNext (nx + 1))
  have e3' : (w9.setCell ⟨sb, 1, none⟩ (.slice A2 (nl + 1) c2)).cell? ⟨sb, 3, none⟩ = some (.int .i64 (nx : Int)) := by rw [← hw10]; exact e3
  have f3' : (w9.setCell ⟨sb, 1, none⟩ (.slice A2 (nl + 1) c2)).frozen? ⟨sb, 3, none⟩ = false := by rw [← hw10]; exact f3
  have e9 : w9.cell? ⟨sb, 3, none⟩ = some (.int .i64 (nx : Int)) := (x1.cell 3).trans rfl
  clear hs ho hv hs2 x1 x2 hw10 e3 f3 d1 d1' HADD
  go_wp2
  go_ret
  refine ⟨rfl, w6.heap.size, z, ⟨⟨sb, mb, .slice A2 (nl + 1) c2⟩, rfl, ?_⟩, HZ6.out⟩
  rw [← HBP.out]
  have h9 := HF.out
  rw [HW.out] at h9
  rw [show (nx : Int) + 1 = ((nx + 1 : Nat) : Int) by omega]
  exact h9
end
theorem make_set (w : World) : (Instr.makeMap 69 none).run Tryz.prog w = .ok (.map (some w.heap.size)) (w.alloc (.map #[] 0)) := by kernel_rfl
def start (p q r : Int) (g bp : Nat) : Bst := addS ⟨[], [], 0, 0, p, q, r⟩ ⟨#[42, 115, 99, 114, 97, 116, 99, 104, 42]⟩ g bp
set_option maxRecDepth 100000 in
theorem set_new (W w : World) (R : Heap) (h : Own W w R) (hT : Tabs W) (p q r : Int) : Calls Tryz.prog 10 #[.int .i64 p, .int .i64 q, .int .i64 r] w fun e w' => ∃ sb, e = .returned (.pointer (some ⟨sb, 0, none⟩)) ∧ ∃ g z, SAt W w' sb (start p q r g z.bp) (zHeap z ⟨[], 0, p, q, r⟩ ++ R) ∧ ZOk z ⟨[], 0, p, q, r⟩ := by
  have hf := make_set
  have h2 := (h.newMap).newCells 72 #[.map (some w.heap.size), .slice none 0 0, .int .i64 0, .int .i64 0, .int .i64 p, .int .i64 q, .int .i64 r]
  have h3 : BAt W ((w.alloc (.map #[] 0)).alloc (.cells #[.map (some w.heap.size), .slice none 0 0, .int .i64 0, .int .i64 0, .int .i64 p, .int .i64 q, .int .i64 r] 72)) ⟨w.heap.size + 1, w.heap.size, .slice none 0 0⟩ ⟨[], [], 0, 0, p, q, r⟩ R := by
    rw [World.size_alloc] at h2
    exact ⟨h2, Sl.nil _ _ _⟩
  have HA := hide (add_any h3 hT rfl (by simp) (by simp) ⟨#[42, 115, 99, 114, 97, 116, 99, 104, 42]⟩)
  clear h h2 h3 hT
  go_enter Tryz.func10, Tryz.ntmps10
  go_wp2_with fail
  refine (Calls.mono HA.out) ?_
  rintro e w3 ⟨rfl, g, z, h4⟩
  have H4 := hide h4
  clear h4 HA
  go_wp2_with fail
  go_ret
  exact ⟨_, rfl, g, z, H4.out⟩
end Go.Proofs.YtnbhejbpofjamaaGreatDoor
