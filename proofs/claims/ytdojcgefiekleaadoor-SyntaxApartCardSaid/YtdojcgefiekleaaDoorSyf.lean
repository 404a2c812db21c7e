/- Class and Mate of a table; New: the program's. No condition but those written. -/
import Derived.Test.YtdojcgefiekleaaDoorSye
namespace Go.Proofs.YtdojcgefiekleaaDoor
open Go.RowKit

theorem field_ent0 (x y : Int) (w : World) : (Instr.field 66 (.agg #[.int .i64 x, .int .i64 y]) 0).run Tryd.prog w = .ok (.int .i64 x) w := by kernel_rfl
theorem field_ent1 (x y : Int) (w : World) : (Instr.field 66 (.agg #[.int .i64 x, .int .i64 y]) 1).run Tryd.prog w = .ok (.int .i64 y) w := by kernel_rfl
theorem make_ents (w : World) : (Instr.makeMap 73 none).run Tryd.prog w = .ok (.map (some w.heap.size)) (w.alloc (.map #[] 0)) := by kernel_rfl
section
variable {w : World} {p : TL} {T : Tb}
set_option maxRecDepth 100000 in
theorem class_any (h : TabAt w p T) (c : Int) : Calls Tryd.prog 16 #[.pointer (some ⟨p.t, 0, none⟩), .int .i64 c] w fun e w' => e = .returned (.int .i64 (T.cl c)) ∧ Below w.heap.size w w' := by
  have HE := hide (ent_any h c)
  clear h
  unfold Tb.cl
  obtain ⟨⟨x1, x2⟩, hx⟩ : ∃ x, T.ent c = x := ⟨_, rfl⟩
  rw [hx] at HE ⊢
  simp only [entV] at HE
  clear hx
  have hf := field_ent0 x1 x2
  go_enter Tryd.func16, Tryd.ntmps16
  go_wp2_with (go_at_call 46; refine (Calls.mono HE.out) ?_; rintro e w' ⟨rfl, hb⟩)
  go_ret
  exact ⟨rfl, hb⟩
set_option maxRecDepth 100000 in
theorem mate_any (h : TabAt w p T) (c : Int) : Calls Tryd.prog 29 #[.pointer (some ⟨p.t, 0, none⟩), .int .i64 c] w fun e w' => e = .returned (.int .i64 (T.mate c)) ∧ Below w.heap.size w w' := by
  have HE := hide (ent_any h c)
  clear h
  unfold Tb.mate
  obtain ⟨⟨x1, x2⟩, hx⟩ : ∃ x, T.ent c = x := ⟨_, rfl⟩
  rw [hx] at HE ⊢
  simp only [entV] at HE
  clear hx
  have hf := field_ent1 x1 x2
  go_enter Tryd.func29, Tryd.ntmps29
  go_wp2_with (go_at_call 46; refine (Calls.mono HE.out) ?_; rintro e w' ⟨rfl, hb⟩)
  go_ret
  exact ⟨rfl, hb⟩
set_option maxRecDepth 100000 in
set_option maxHeartbeats 4000000 in
theorem tnew_any (w : World) : Calls Tryd.prog 39 #[] w fun e w' => e = .returned (.pointer (some ⟨w.heap.size + 1, 0, none⟩)) ∧ Below w.heap.size w w' ∧ w'.heap.size = w.heap.size + 2 ∧
    Blk w' (w.heap.size + 1) 77 #[ruleV false 0, .map (some w.heap.size)] ∧ MapIs w' w.heap.size [] := by
  have hf := make_ents w
  go_enter Tryd.func39, Tryd.ntmps39
  go_wp2
  go_ret
  refine ⟨by first | rfl | simp, ((Below.refl _ _).alloc (Nat.le_refl _) _).alloc (by simp) _, by simp, ?_, (MapIs.new w).alloc _⟩
  have := Blk.new (w.alloc (.map #[] 0)) 77 #[ruleV false 0, .map (some w.heap.size)]
  rw [World.size_alloc] at this
  exact this
end
end Go.Proofs.YtdojcgefiekleaaDoor
