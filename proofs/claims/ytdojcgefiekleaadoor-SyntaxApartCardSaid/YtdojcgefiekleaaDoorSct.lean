/- A nil table's methods. No condition but those written. -/
import Derived.Test.YtdojcgefiekleaaDoorScp
import Derived.OwnWalk
namespace Go.Proofs.YtdojcgefiekleaaDoor
open Go.RowKit

theorem results_cell_tmp2 {P : Program} {fn : Func} {q p : Tmp} {ty : TypeId} (h : fn.results = #[.cell p ty, .tmp q]) (tmps : Array Value) (w : World) (g : Nat) (t : TypeId) (cs : Array Value) (fr : Nat × Nat) (d : TypeDesc)
    (hp : tmps.getD p undef = .pointer (some ⟨g, 0, none⟩)) (hg : w.heap[g]? = some (.cells cs t fr))
    (hu : P.underlying ty = some d) (hd : (match d with | .struct _ | .array _ _ => true | _ => false) = true) (hi : (P.info? ty).map (·.size) = some cs.size) :
    (results fn tmps).run P w = .ok (.tuple #[.agg cs, tmps.getD q undef]) w := by
  have hp' : tmps[p]?.getD undef = .pointer (some ⟨g, 0, none⟩) := by simpa using hp
  simp [results, h, hp', asAddr, run_loadVar_row w g t ty cs fr d hg hu hd hi]
section
variable (w : World) (s : ByteArray)
theorem chars_nil : Calls Tryd.prog 43 #[.pointer none, .string s] w fun e w' => e = .returned (.tuple #[.slice none 0 0, .int .i64 1]) ∧ w = w' := by
  go_enter Tryd.func43, Tryd.ntmps43
  go_wp2_with (go_at_call 61; refine (none_nil _).mono ?_; rintro e w' ⟨rfl, rfl⟩)
  go_ret2
  exact ⟨rfl, rfl⟩
theorem words_nil (a n : Int) : Calls Tryd.prog 14 #[.pointer none, .string s, .int .i64 a, .int .i64 n] w fun e w' => e = .returned (.tuple #[.int .i64 0, .bool false, .int .i64 1]) ∧ Below w.heap.size w w' := by
  have t0 := ((Blk.new w 28 #[.pointer none]).alloc (.cells #[.int .i64 a] 3)).cell 0
  go_enter Tryd.func14, Tryd.ntmps14
  go_wp2_with (go_at_call 43; refine (chars_nil _ _).mono ?_; rintro e w' ⟨rfl, rfl⟩)
  go_ret3
  exact ⟨rfl, (((Below.refl _ _).alloc (Nat.le_refl _) _).alloc (by simp) _).alloc (by simp; omega) _⟩
theorem symbol_nil (a : Int) : Calls Tryd.prog 20 #[.pointer none, .string s, .int .i64 a] w fun e w' => e = .returned (.tuple #[.int .i64 0, .int .i64 0, .bool false]) ∧ Below w.heap.size w w' := by
  have t0 := (Blk.new w 28 #[.pointer none]).cell 0
  go_enter Tryd.func20, Tryd.ntmps20
  go_wp2_with (go_at_call 43; refine (chars_nil _ _).mono ?_; rintro e w' ⟨rfl, rfl⟩)
  go_ret3
  exact ⟨rfl, (Below.refl _ _).alloc (Nat.le_refl _) _⟩
theorem sexps_nil (a n : Int) : Calls Tryd.prog 19 #[.pointer none, .string s, .int .i64 a, .int .i64 n] w fun e w' => e = .returned (.tuple #[.int .i64 0, .agg #[.int .i64 1, .int .i64 0]]) ∧ Below w.heap.size w w' := by
  go_enter Tryd.func19, Tryd.ntmps19
  go_wp2_with (go_at_call 43; refine (chars_nil _ _).mono ?_; rintro e w' ⟨rfl, rfl⟩)
  refine bodyPost_ret (results_tmp_cell rfl _ _ w.heap.size 40 _ (0, 0) _ rfl (Blk.new w 40 #[.int .i64 1, .int .i64 0]) Tryd.underlying40 rfl (by kernel_rfl)) rfl ?_
  exact ⟨rfl, (Below.refl _ _).alloc (Nat.le_refl _) _⟩
theorem set_nil (c k m : Int) : Calls Tryd.prog 28 #[.pointer none, .int .i64 c, .int .i64 k, .int .i64 m] w fun e w' => e = .returned (.int .i64 1) ∧ w = w' := by
  go_enter Tryd.func28, Tryd.ntmps28
  go_wp2_with (go_at_call 61; refine (none_nil _).mono ?_; rintro e w' ⟨rfl, rfl⟩)
  go_ret
  exact ⟨rfl, rfl⟩
set_option maxRecDepth 100000 in
theorem ent_nil (c : Int) : Calls Tryd.prog 46 #[.pointer none, .int .i64 c] w fun e w' => e = .returned (.agg #[.int .i64 0, .int .i64 0]) ∧ Below w.heap.size w w' := by
  go_enter Tryd.func46, Tryd.ntmps46
  go_wp2_with (go_at_call 61; refine (none_nil _).mono ?_; rintro e w' ⟨rfl, rfl⟩)
  refine bodyPost_ret (results_cell_row rfl _ _ w.heap.size 66 #[.int .i64 0, .int .i64 0] (0, 0) _ rfl (heap_alloc_new w _) Tryd.underlying66 rfl (by kernel_rfl)) rfl ?_
  exact ⟨rfl, (Below.refl _ _).alloc (Nat.le_refl _) _⟩
set_option maxRecDepth 100000 in
theorem class_nil (c : Int) : Calls Tryd.prog 16 #[.pointer none, .int .i64 c] w fun e w' => e = .returned (.int .i64 0) ∧ Below w.heap.size w w' := by
  have hf := field_ent0 0 0
  go_enter Tryd.func16, Tryd.ntmps16
  go_wp2_with (go_at_call 46; refine (ent_nil _ _).mono ?_; rintro e w' ⟨rfl, hb⟩)
  go_ret
  exact ⟨rfl, hb⟩
set_option maxRecDepth 100000 in
theorem mate_nil (c : Int) : Calls Tryd.prog 29 #[.pointer none, .int .i64 c] w fun e w' => e = .returned (.int .i64 0) ∧ Below w.heap.size w w' := by
  have hf := field_ent1 0 0
  go_enter Tryd.func29, Tryd.ntmps29
  go_wp2_with (go_at_call 46; refine (ent_nil _ _).mono ?_; rintro e w' ⟨rfl, hb⟩)
  go_ret
  exact ⟨rfl, hb⟩
theorem copy_nil : Calls Tryd.prog 37 #[.pointer none] w fun e w' => e = .returned (.pointer none) ∧ w = w' := by
  go_enter Tryd.func37, Tryd.ntmps37
  go_wp2_with (go_at_call 61; refine (none_nil _).mono ?_; rintro e w' ⟨rfl, rfl⟩)
  go_ret
  exact ⟨rfl, rfl⟩
/-- A state's zero value, as the program lays it. -/
def stZ : Array Value := #[.slice none 0 0, .int .i64 0, .int .i64 0, .bool false, .int .i64 0, .bool false]
set_option maxRecDepth 100000 in
set_option maxHeartbeats 4000000 in
theorem over_nil (a b : Int) : Calls Tryd.prog 25 #[.pointer none, .string s, .int .i64 a, .int .i64 b, .agg #[.slice none 0 0, .int .i64 0, .int .i64 0, .bool false, .int .i64 0, .bool false]] w fun e w' => e = .returned (.tuple #[.agg #[.slice none 0 0, .int .i64 0, .int .i64 0, .bool false, .int .i64 0, .bool false], .int .i64 1]) ∧ Below w.heap.size w w' := by
  go_enter Tryd.func25, Tryd.ntmps25
  go_wp2_with (go_at_call 43; refine (chars_nil _ _).mono ?_; rintro e w' ⟨rfl, rfl⟩)
  refine bodyPost_ret (results_cell_tmp2 rfl _ _ (w.heap.size + 1) 50 stZ (0, 0) _ rfl ?hb Tryd.underlying50 rfl (by kernel_rfl)) rfl ?_
  case hb =>
    have := (Blk.new (w.alloc (.cells stZ 50)) 50 stZ).alloc (.cells #[.slice none 0 0] 24)
    rw [World.size_alloc] at this
    exact this
  exact ⟨rfl, (((Below.refl _ _).alloc (Nat.le_refl _) _).alloc (by simp) _).alloc (by simp; omega) _⟩
end
end Go.Proofs.YtdojcgefiekleaaDoor
