/- FacesOver: the walk. No condition but those written. -/
import Derived.Test.YtmjogpacajbngaaFm
namespace Go.Proofs.Ytmjogpacajbngaa
open Go.RowKit

theorem eql_att (w : World) (a : Att) : (binOp .eql 23 (.agg #[.int .i64 a.fo, .int .i64 a.ba, .int .i64 a.bo, .int .i64 a.un, .int .i64 a.iv, .string a.inh]) (.agg #[.int .i64 a.fo, .int .i64 a.ba, .int .i64 a.bo, .int .i64 a.un, .int .i64 a.iv, .string a.inh])).run Try.prog w = .ok (.bool true) w := by
  go_simp
theorem eql_lookV (w : World) (a : Att) : (binOp .eql 26 (lookV a) (lookV a)).run Try.prog w = .ok (.bool true) w := by
  unfold lookV
  rw [eql_look]
  simp
theorem both_at {w w' : World} {a b : Att} (h : Below ((w.alloc (.cells a.cells.toArray 23)).alloc (.cells b.cells.toArray 23)).heap.size ((w.alloc (.cells a.cells.toArray 23)).alloc (.cells b.cells.toArray 23)) w') : w'.cell? ⟨w.heap.size, 0, none⟩ = some (.int .i64 a.fo) ∧ w'.cell? ⟨w.heap.size, 1, none⟩ = some (.int .i64 a.ba) ∧ w'.cell? ⟨w.heap.size, 2, none⟩ = some (.int .i64 a.bo) ∧ w'.cell? ⟨w.heap.size, 3, none⟩ = some (.int .i64 a.un) ∧ w'.cell? ⟨w.heap.size, 4, none⟩ = some (.int .i64 a.iv) ∧ w'.cell? ⟨w.heap.size, 5, none⟩ = some (.string a.inh) ∧ w'.cell? ⟨w.heap.size + 1, 0, none⟩ = some (.int .i64 b.fo) ∧ w'.cell? ⟨w.heap.size + 1, 1, none⟩ = some (.int .i64 b.ba) ∧ w'.cell? ⟨w.heap.size + 1, 2, none⟩ = some (.int .i64 b.bo) ∧ w'.cell? ⟨w.heap.size + 1, 3, none⟩ = some (.int .i64 b.un) ∧ w'.cell? ⟨w.heap.size + 1, 4, none⟩ = some (.int .i64 b.iv) ∧ w'.cell? ⟨w.heap.size + 1, 5, none⟩ = some (.string b.inh) := by
  have h1 := (((Own.refl w).newCells 23 a.cells.toArray).newCells 23 b.cells.toArray).below h
  rw [World.size_alloc] at h1
  obtain ⟨b0, b1, b2, b3, b4, b5⟩ := Blk.att (a := b) (h1.blk (g := w.heap.size + 1) (t := 23) (by simp))
  obtain ⟨a0, a1, a2, a3, a4, a5⟩ := Blk.att (a := a) (h1.blk (g := w.heap.size) (t := 23) (by simp))
  exact ⟨a0, a1, a2, a3, a4, a5, b0, b1, b2, b3, b4, b5⟩
set_option maxRecDepth 100000 in
set_option maxHeartbeats 8000000 in
theorem over_walk (a b : Att) (w : World) : Calls Try.prog 3 #[a.val, b.val] w fun e w' => e = .returned (.bool true) ∧ Below w.heap.size w w' := by
  have HB := hide (fun w' h => both_at (w := w) (w' := w') (a := a) (b := b) h)
  have HW := hide (show Below w.heap.size w ((w.alloc (.cells a.cells.toArray 23)).alloc (.cells b.cells.toArray 23)) from ((Below.refl _ _).alloc (Nat.le_refl _) _).alloc (by simp) _)
  have B0 := hide (show Below ((w.alloc (.cells a.cells.toArray 23)).alloc (.cells b.cells.toArray 23)).heap.size ((w.alloc (.cells a.cells.toArray 23)).alloc (.cells b.cells.toArray 23)) ((w.alloc (.cells a.cells.toArray 23)).alloc (.cells b.cells.toArray 23)).drew from (Below.refl _ _).drew)
  have e1 := fun w => eql_att w (over a b)
  obtain ⟨c1, c2, b1, b2, b3, hlv⟩ : ∃ c1 c2 b1 b2 b3, lookV a = .agg #[.int .i64 c1, .int .i64 c2, .bool b1, .bool b2, .bool b3] := ⟨_, _, _, _, _, rfl⟩
  have e2 : ∀ w, (binOp .eql 26 (.agg #[.int .i64 c1, .int .i64 c2, .bool b1, .bool b2, .bool b3]) (.agg #[.int .i64 c1, .int .i64 c2, .bool b1, .bool b2, .bool b3])).run Try.prog w = .ok (.bool true) w := fun w => by rw [eql_look]; simp
  have HL1 := hide (fun w => (show Calls Try.prog 13 #[a.val] w (fun e w' => e = .returned (.agg #[.int .i64 c1, .int .i64 c2, .bool b1, .bool b2, .bool b3]) ∧ Below w.heap.size w w') from hlv ▸ look_any a w))
  have HL2 := hide (fun w => (show Calls Try.prog 14 #[a.val] w (fun e w' => e = .returned (.agg #[.int .i64 c1, .int .i64 c2, .bool b1, .bool b2, .bool b3]) ∧ Below w.heap.size w w') from hlv ▸ rlook_any a w))
  clear hlv
  go_enter Try.func3, Try.ntmps3
  go_wp2_with fail
  go_region_held3 (fun w' => w'.cell? ⟨w.heap.size, 0, none⟩ = some (.int .i64 a.fo) ∧ w'.cell? ⟨w.heap.size, 1, none⟩ = some (.int .i64 a.ba) ∧ w'.cell? ⟨w.heap.size, 2, none⟩ = some (.int .i64 a.bo) ∧ w'.cell? ⟨w.heap.size, 3, none⟩ = some (.int .i64 a.un) ∧ w'.cell? ⟨w.heap.size, 4, none⟩ = some (.int .i64 a.iv) ∧ w'.cell? ⟨w.heap.size, 5, none⟩ = some (.string a.inh) ∧ w'.cell? ⟨w.heap.size + 1, 0, none⟩ = some (.int .i64 b.fo) ∧ w'.cell? ⟨w.heap.size + 1, 1, none⟩ = some (.int .i64 b.ba) ∧ w'.cell? ⟨w.heap.size + 1, 2, none⟩ = some (.int .i64 b.bo) ∧ w'.cell? ⟨w.heap.size + 1, 3, none⟩ = some (.int .i64 b.un) ∧ w'.cell? ⟨w.heap.size + 1, 4, none⟩ = some (.int .i64 b.iv) ∧ w'.cell? ⟨w.heap.size + 1, 5, none⟩ = some (.string b.inh))
    (first | exact HB.out _ B0.out | exact HB.out _ B1.out | exact HB.out _ B2.out | exact HB.out _ B3.out | exact HB.out _ B4.out | exact HB.out _ B5.out)
    ((first
      | (go_at_call 11; refine (over_any a b _).mono ?_; rintro r w1 ⟨rfl, hb⟩; have B1 := hide (B0.out.trans (hb.mono B0.out.size)); clear hb)
      | (go_at_call 12; refine (rover_any a b _).mono ?_; rintro r w2 ⟨rfl, hb⟩; have B2 := hide (B1.out.trans (hb.mono B1.out.size)); clear hb)
      | (go_at_call 13; refine (HL1.out _).mono ?_; rintro r w3 ⟨rfl, hb⟩; have B3 := hide (B2.out.trans (hb.mono B2.out.size)); clear hb)
      | (go_at_call 14; refine (HL2.out _).mono ?_; rintro r w4 ⟨rfl, hb⟩; have B4 := hide (B3.out.trans (hb.mono B3.out.size)); clear hb)
      | (go_at_call 15; refine (awake_any _).mono ?_; rintro r w5 ⟨rfl, hb⟩; have B5 := hide (B4.out.trans (hb.mono B4.out.size)); clear hb)))
  go_wp2
  go_ret
  exact ⟨rfl, HW.out.trans (B5.out.mono HW.out.size)⟩
end Go.Proofs.Ytmjogpacajbngaa
