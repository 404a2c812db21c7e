/- The methods of no object. No condition but those written. -/
import Derived.Test.YtgiogmbopiblmaaPqn
namespace Go.Proofs.Ytgiogmbopiblmaa
open Go.RowKit

section
variable (w : World)
theorem below_two {a b : Go.Obj} : Below w.heap.size w ((w.alloc a).alloc b) := (below_box w a).trans ((below_box (w.alloc a) b).mono (below_box w a).size)
set_option maxRecDepth 100000 in
set_option maxHeartbeats 4000000 in
theorem put_nil (x y n k v : Int) : Calls Try.prog 13 #[.pointer none, .int .i64 x, .int .i64 y, .int .i64 n, .agg #[.int .i64 k, .int .i64 v]] w fun e w' => e = .returned (.int .i64 1) ∧ Below w.heap.size w w' := by
  go_enter Try.func13, Try.ntmps13
  go_wp2_with (go_at_call 43; (with_reducible refine Calls.mono (check_nil _ _ _ _) ?_); rintro r w2 ⟨rfl, rfl⟩)
  go_ret
  exact ⟨rfl, by first | exact Below.refl _ _ | exact below_box _ _ | exact below_two _⟩
set_option maxRecDepth 100000 in
set_option maxHeartbeats 4000000 in
theorem take_nil (x y n : Int) : Calls Try.prog 23 #[.pointer none, .int .i64 x, .int .i64 y, .int .i64 n] w fun e w' => e = .returned (.int .i64 1) ∧ Below w.heap.size w w' := by
  go_enter Try.func23, Try.ntmps23
  go_wp2_with (go_at_call 43; (with_reducible refine Calls.mono (check_nil _ _ _ _) ?_); rintro r w2 ⟨rfl, rfl⟩)
  go_ret
  exact ⟨rfl, by first | exact Below.refl _ _ | exact below_box _ _ | exact below_two _⟩
set_option maxRecDepth 100000 in
set_option maxHeartbeats 4000000 in
theorem inserted_nil (x n : Int) : Calls Try.prog 19 #[.pointer none, .int .i64 x, .int .i64 n] w fun e w' => e = .returned (.int .i64 1) ∧ Below w.heap.size w w' := by
  go_enter Try.func19, Try.ntmps19
  go_wp2_with (go_at_call 52; (with_reducible refine Calls.mono (none_nil _) ?_); rintro r w2 ⟨rfl, rfl⟩)
  go_ret
  exact ⟨rfl, by first | exact Below.refl _ _ | exact below_box _ _ | exact below_two _⟩
set_option maxRecDepth 100000 in
set_option maxHeartbeats 4000000 in
theorem deleted_nil (x n : Int) : Calls Try.prog 26 #[.pointer none, .int .i64 x, .int .i64 n] w fun e w' => e = .returned (.int .i64 1) ∧ Below w.heap.size w w' := by
  go_enter Try.func26, Try.ntmps26
  go_wp2_with (go_at_call 52; (with_reducible refine Calls.mono (none_nil _) ?_); rintro r w2 ⟨rfl, rfl⟩)
  go_ret
  exact ⟨rfl, by first | exact Below.refl _ _ | exact below_box _ _ | exact below_two _⟩
set_option maxRecDepth 100000 in
set_option maxHeartbeats 4000000 in
theorem paste_nil (x : Int) (A : Option Addr) (n c : Nat) : Calls Try.prog 17 #[.pointer none, .int .i64 x, .slice A n c] w fun e w' => e = .returned (.int .i64 1) ∧ Below w.heap.size w w' := by
  go_enter Try.func17, Try.ntmps17
  go_wp2_with (go_at_call 52; (with_reducible refine Calls.mono (none_nil _) ?_); rintro r w2 ⟨rfl, rfl⟩)
  go_ret
  exact ⟨rfl, by first | exact Below.refl _ _ | exact below_box _ _ | exact below_two _⟩
set_option maxRecDepth 100000 in
set_option maxHeartbeats 4000000 in
theorem next_nil (x y : Int) (fid : Nat) (caps : Array Value) : Calls Try.prog 58 #[.pointer none, .int .i64 x, .int .i64 y, .func (.func fid) #[] caps] w fun e w' => e = .returned (.int .i64 y) ∧ w = w' := by
  go_enter Try.func58, Try.ntmps58
  go_wp2_with (go_at_call 52; (with_reducible refine Calls.mono (none_nil _) ?_); rintro r w2 ⟨rfl, rfl⟩)
  go_ret
  exact ⟨rfl, rfl⟩
set_option maxRecDepth 100000 in
set_option maxHeartbeats 4000000 in
theorem Next_nil (x y : Int) : Calls Try.prog 22 #[.pointer none, .int .i64 x, .int .i64 y] w fun e w' => e = .returned (.int .i64 y) ∧ Below w.heap.size w w' := by
  go_enter Try.func22, Try.ntmps22
  go_wp2_with (go_at_call 58; (with_reducible refine Calls.mono (next_nil _ _ _ _ _) ?_); rintro r w2 ⟨rfl, rfl⟩)
  go_ret
  exact ⟨rfl, by first | exact Below.refl _ _ | exact below_box _ _ | exact below_two _⟩
set_option maxRecDepth 100000 in
set_option maxHeartbeats 4000000 in
theorem NextOf_nil (x n y : Int) : Calls Try.prog 30 #[.pointer none, .int .i64 x, .int .i64 n, .int .i64 y] w fun e w' => e = .returned (.int .i64 y) ∧ Below w.heap.size w w' := by
  go_enter Try.func30, Try.ntmps30
  go_wp2_with (go_at_call 58; (with_reducible refine Calls.mono (next_nil _ _ _ _ _) ?_); rintro r w2 ⟨rfl, rfl⟩)
  go_ret
  exact ⟨rfl, by first | exact Below.refl _ _ | exact below_box _ _ | exact below_two _⟩
set_option maxRecDepth 100000 in
set_option maxHeartbeats 4000000 in
theorem spans_nil (x y by_ : Int) : Calls Try.prog 55 #[.pointer none, .int .i64 x, .int .i64 y, .int .i64 by_] w fun e w' => e = .returned (.slice none 0 0) ∧ w = w' := by
  go_enter Try.func55, Try.ntmps55
  go_wp2_with (go_at_call 52; (with_reducible refine Calls.mono (none_nil _) ?_); rintro r w2 ⟨rfl, rfl⟩)
  go_ret
  exact ⟨rfl, rfl⟩
set_option maxRecDepth 100000 in
set_option maxHeartbeats 4000000 in
theorem Spans_nil (x y : Int) : Calls Try.prog 18 #[.pointer none, .int .i64 x, .int .i64 y] w fun e w' => e = .returned (.slice none 0 0) ∧ w = w' := by
  go_enter Try.func18, Try.ntmps18
  go_wp2_with (go_at_call 55; (with_reducible refine Calls.mono (spans_nil _ _ _ _) ?_); rintro r w2 ⟨rfl, rfl⟩)
  go_ret
  exact ⟨rfl, rfl⟩
set_option maxRecDepth 100000 in
set_option maxHeartbeats 4000000 in
theorem Cut_nil (x y : Int) : Calls Try.prog 20 #[.pointer none, .int .i64 x, .int .i64 y] w fun e w' => e = .returned (.slice none 0 0) ∧ w = w' := by
  have HMA := hide (may_any x y w)
  cases h : decide (1 ≤ x ∧ x ≤ y ∧ y ≤ 65537)
  all_goals
    rw [h] at HMA
    clear h
    go_enter Try.func20, Try.ntmps20
    go_wp2_with (first | (go_at_call 53; (with_reducible refine Calls.mono HMA.out ?_); rintro r w2 ⟨rfl, rfl⟩) | (go_at_call 55; (with_reducible refine Calls.mono (spans_nil _ _ _ _) ?_); rintro r w2 ⟨rfl, rfl⟩))
    go_ret
    exact ⟨rfl, rfl⟩
set_option maxRecDepth 100000 in
set_option maxHeartbeats 4000000 in
theorem List_nil (x : Int) : Calls Try.prog 16 #[.pointer none, .int .i64 x] w fun e w' => ∃ A c, e = .returned (.slice A 0 c) ∧ Below w.heap.size w w' := by
  have HCL := hide (clone_props_none 0 w)
  go_enter Try.func16, Try.ntmps16
  go_wp2_with (first | (go_at_call 51; (with_reducible refine Calls.mono (list_nil _ _) ?_); rintro r w2 ⟨rfl, rfl⟩) | (go_at_call 50; (with_reducible refine Calls.mono HCL.out ?_); rintro r w3 ⟨v3, rfl, s3, o3, b3⟩; have B3 := hide b3; obtain ⟨A3, c3, rfl, _⟩ := s3.form; clear s3 o3 b3))
  go_ret
  exact ⟨_, _, rfl, B3.out⟩
set_option maxRecDepth 100000 in
set_option maxHeartbeats 4000000 in
theorem Get_nil (x n : Int) : Calls Try.prog 21 #[.pointer none, .int .i64 x, .int .i64 n] w fun e w' => e = .returned (.tuple #[.agg #[.int .i64 0, .int .i64 0], .bool false]) ∧ Below w.heap.size w w' := by
  have HF0 := hide (Blk.new w 29 #[.int .i64 0, .int .i64 0])
  have HBX := hide (below_box w (.cells #[.int .i64 0, .int .i64 0] 29))
  have HG := hide (get_any [] (.slice none 0 0) n (w.alloc (.cells #[.int .i64 0, .int .i64 0] 29)) (Rd.nil _ _) (by simp))
  go_enter Try.func21, Try.ntmps21
  go_wp2_with (first | (go_at_call 51; (with_reducible refine Calls.mono (list_nil _ _) ?_); rintro r w2 ⟨rfl, rfl⟩) | (go_at_call 57; (with_reducible refine Calls.mono HG.out ?_); rintro r w3 ⟨rfl, b3⟩; have hF3 := HF0.out.below b3 HF0.out.lt; have c0 := hF3.cell 0; have c1 := hF3.cell 1; have f0 := hF3.frozen 0; have f1 := hF3.frozen 1; have HF3 := hide hF3; have HB3 := hide (HBX.out.trans (b3.mono HBX.out.size)); clear hF3 b3))
  refine bodyPost_ret (results_cell_tmp2 rfl _ _ w.heap.size 29 _ (0, 0) _ rfl ((HF3.out.set_ 0 _).set_ 1 _) Try.underlying29 rfl (by kernel_rfl)) rfl ?_
  exact ⟨rfl, (HB3.out.setCell (p := ⟨w.heap.size, 0, none⟩) (Nat.le_refl _) _).setCell (p := ⟨w.heap.size, 1, none⟩) (Nat.le_refl _) _⟩
set_option maxRecDepth 100000 in
set_option maxHeartbeats 4000000 in
theorem Copy_nil : Calls Try.prog 41 #[.pointer none] w fun e w' => e = .returned (.pointer none) ∧ w = w' := by
  go_enter Try.func41, Try.ntmps41
  go_wp2_with (go_at_call 52; (with_reducible refine Calls.mono (none_nil _) ?_); rintro r w2 ⟨rfl, rfl⟩)
  go_ret
  exact ⟨rfl, rfl⟩
end
end Go.Proofs.Ytgiogmbopiblmaa
