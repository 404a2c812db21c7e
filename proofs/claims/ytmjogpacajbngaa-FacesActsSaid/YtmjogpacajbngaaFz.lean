/- FacesThrough: the walk. No condition but those written. -/
import Derived.Test.YtmjogpacajbngaaFx
namespace Go.Proofs.Ytmjogpacajbngaa
open Go.RowKit

theorem first_assoc (x y z : Int) : first (first x y) z = first x (first y z) := by
  unfold first
  by_cases h : x = 0
  · rw [if_pos h, if_pos h]
  · rw [if_neg h, if_neg h, if_neg h]
theorem first_z (x : Int) : first x 0 = x := by
  unfold first
  by_cases h : x = 0
  · rw [if_pos h, h]
  · rw [if_neg h]
theorem first_self (x : Int) : first x x = x := by
  unfold first
  by_cases h : x = 0
  · rw [if_pos h]
  · rw [if_neg h]
theorem over_assoc (a b c : Att) : over (over a b) c = over a (over b c) := by
  unfold over
  simp only [first_assoc]
theorem over_zero (a : Att) (s : ByteArray) : over a ⟨0, 0, 0, 0, 0, s⟩ = a := by
  unfold over
  simp only [first_z]
theorem over_none (a : Att) : over ⟨0, 0, 0, 0, 0, a.inh⟩ a = a := rfl
theorem over_self (a : Att) : over a a = a := by
  unfold over
  simp only [first_self]
abbrev boxes (w : World) (a b c : Att) : Heap := [(w.heap.size + 1 + 1 + 1, .cells 23 #[.int .i64 0, .int .i64 0, .int .i64 0, .int .i64 0, .int .i64 0, .string a.inh]), (w.heap.size + 1 + 1, .cells 23 c.cells.toArray), (w.heap.size + 1, .cells 23 b.cells.toArray), (w.heap.size, .cells 23 a.cells.toArray)]
theorem boxes_start (w : World) (a b c : Att) : Own w ((((w.alloc (.cells a.cells.toArray 23)).alloc (.cells b.cells.toArray 23)).alloc (.cells c.cells.toArray 23)).alloc (.cells #[.int .i64 0, .int .i64 0, .int .i64 0, .int .i64 0, .int .i64 0, .string a.inh] 23)) (boxes w a b c) := by
  have h := ((((Own.refl w).newCells 23 a.cells.toArray).newCells 23 b.cells.toArray).newCells 23 c.cells.toArray).newCells 23 #[.int .i64 0, .int .i64 0, .int .i64 0, .int .i64 0, .int .i64 0, .string a.inh]
  simpa only [World.size_alloc] using h
theorem boxes_all {w w' : World} {a b c : Att} (h : Own w w' (boxes w a b c)) : w'.cell? ⟨w.heap.size, 0, none⟩ = some (.int .i64 a.fo) ∧ w'.cell? ⟨w.heap.size, 1, none⟩ = some (.int .i64 a.ba) ∧ w'.cell? ⟨w.heap.size, 2, none⟩ = some (.int .i64 a.bo) ∧ w'.cell? ⟨w.heap.size, 3, none⟩ = some (.int .i64 a.un) ∧ w'.cell? ⟨w.heap.size, 4, none⟩ = some (.int .i64 a.iv) ∧ w'.cell? ⟨w.heap.size, 5, none⟩ = some (.string a.inh) ∧ w'.cell? ⟨w.heap.size + 1, 0, none⟩ = some (.int .i64 b.fo) ∧ w'.cell? ⟨w.heap.size + 1, 1, none⟩ = some (.int .i64 b.ba) ∧ w'.cell? ⟨w.heap.size + 1, 2, none⟩ = some (.int .i64 b.bo) ∧ w'.cell? ⟨w.heap.size + 1, 3, none⟩ = some (.int .i64 b.un) ∧ w'.cell? ⟨w.heap.size + 1, 4, none⟩ = some (.int .i64 b.iv) ∧ w'.cell? ⟨w.heap.size + 1, 5, none⟩ = some (.string b.inh) ∧ w'.cell? ⟨w.heap.size + 1 + 1, 0, none⟩ = some (.int .i64 c.fo) ∧ w'.cell? ⟨w.heap.size + 1 + 1, 1, none⟩ = some (.int .i64 c.ba) ∧ w'.cell? ⟨w.heap.size + 1 + 1, 2, none⟩ = some (.int .i64 c.bo) ∧ w'.cell? ⟨w.heap.size + 1 + 1, 3, none⟩ = some (.int .i64 c.un) ∧ w'.cell? ⟨w.heap.size + 1 + 1, 4, none⟩ = some (.int .i64 c.iv) ∧ w'.cell? ⟨w.heap.size + 1 + 1, 5, none⟩ = some (.string c.inh) ∧ w'.cell? ⟨w.heap.size + 1 + 1 + 1, 0, none⟩ = some (.int .i64 0) ∧ w'.cell? ⟨w.heap.size + 1 + 1 + 1, 1, none⟩ = some (.int .i64 0) ∧ w'.cell? ⟨w.heap.size + 1 + 1 + 1, 2, none⟩ = some (.int .i64 0) ∧ w'.cell? ⟨w.heap.size + 1 + 1 + 1, 3, none⟩ = some (.int .i64 0) ∧ w'.cell? ⟨w.heap.size + 1 + 1 + 1, 4, none⟩ = some (.int .i64 0) ∧ w'.cell? ⟨w.heap.size + 1 + 1 + 1, 5, none⟩ = some (.string a.inh) := by
  have h1 : Blk w' w.heap.size 23 a.cells.toArray := h.blk (by simp)
  have h2 : Blk w' (w.heap.size + 1) 23 b.cells.toArray := h.blk (by simp)
  have h3 : Blk w' (w.heap.size + 1 + 1) 23 c.cells.toArray := h.blk (by simp)
  have h4 : Blk w' (w.heap.size + 1 + 1 + 1) 23 (⟨0, 0, 0, 0, 0, a.inh⟩ : Att).cells.toArray := h.blk (by simp [Att.cells])
  obtain ⟨a0, a1, a2, a3, a4, a5⟩ := h1.att
  obtain ⟨b0, b1, b2, b3, b4, b5⟩ := h2.att
  obtain ⟨c0, c1, c2, c3, c4, c5⟩ := h3.att
  obtain ⟨z0, z1, z2, z3, z4, z5⟩ := h4.att
  exact ⟨a0, a1, a2, a3, a4, a5, b0, b1, b2, b3, b4, b5, c0, c1, c2, c3, c4, c5, z0, z1, z2, z3, z4, z5⟩
theorem overT {a b c : Att} (h : over a b = c) (w : World) : Calls Try.prog 11 #[.agg #[.int .i64 a.fo, .int .i64 a.ba, .int .i64 a.bo, .int .i64 a.un, .int .i64 a.iv, .string a.inh], .agg #[.int .i64 b.fo, .int .i64 b.ba, .int .i64 b.bo, .int .i64 b.un, .int .i64 b.iv, .string b.inh]] w fun e w' => e = .returned (.agg #[.int .i64 c.fo, .int .i64 c.ba, .int .i64 c.bo, .int .i64 c.un, .int .i64 c.iv, .string c.inh]) ∧ Below w.heap.size w w' := by
  subst h
  exact over_any a b w
set_option maxRecDepth 100000 in
set_option maxHeartbeats 16000000 in
theorem through_walk (a b c : Att) (w : World) : Calls Try.prog 6 #[a.val, b.val, c.val] w fun e w' => e = .returned (.bool true) ∧ Below w.heap.size w w' := by
  have HQ := hide (fun w' h => boxes_all (w := w) (w' := w') (a := a) (b := b) (c := c) h)
  have B0 := hide (Own.drew (boxes_start w a b c))
  obtain ⟨x, hx⟩ : ∃ x, x = over a b := ⟨_, rfl⟩
  obtain ⟨y, hy⟩ : ∃ y, y = over b c := ⟨_, rfl⟩
  obtain ⟨z, hz⟩ : ∃ z, z = over a y := ⟨_, rfl⟩
  have e1 := fun w => eql_att w z
  have e2 := fun w => eql_att w a
  have C1 := hide (fun w => overT hx.symm w)
  have C2 := hide (fun w => overT (show over x c = z by rw [hx, hz, hy, over_assoc]) w)
  have C3 := hide (fun w => overT hy.symm w)
  have C4 := hide (fun w => overT hz.symm w)
  have C5 := hide (fun w => overT (over_zero a sX) w)
  have C6 := hide (fun w => overT (over_none a) w)
  have C7 := hide (fun w => overT (over_self a) w)
  clear hx hy hz
  go_enter Try.func6, Try.ntmps6
  go_wp2_with fail
  go_region_held3 (fun w' => w'.cell? ⟨w.heap.size, 0, none⟩ = some (.int .i64 a.fo) ∧ w'.cell? ⟨w.heap.size, 1, none⟩ = some (.int .i64 a.ba) ∧ w'.cell? ⟨w.heap.size, 2, none⟩ = some (.int .i64 a.bo) ∧ w'.cell? ⟨w.heap.size, 3, none⟩ = some (.int .i64 a.un) ∧ w'.cell? ⟨w.heap.size, 4, none⟩ = some (.int .i64 a.iv) ∧ w'.cell? ⟨w.heap.size, 5, none⟩ = some (.string a.inh) ∧ w'.cell? ⟨w.heap.size + 1, 0, none⟩ = some (.int .i64 b.fo) ∧ w'.cell? ⟨w.heap.size + 1, 1, none⟩ = some (.int .i64 b.ba) ∧ w'.cell? ⟨w.heap.size + 1, 2, none⟩ = some (.int .i64 b.bo) ∧ w'.cell? ⟨w.heap.size + 1, 3, none⟩ = some (.int .i64 b.un) ∧ w'.cell? ⟨w.heap.size + 1, 4, none⟩ = some (.int .i64 b.iv) ∧ w'.cell? ⟨w.heap.size + 1, 5, none⟩ = some (.string b.inh) ∧ w'.cell? ⟨w.heap.size + 1 + 1, 0, none⟩ = some (.int .i64 c.fo) ∧ w'.cell? ⟨w.heap.size + 1 + 1, 1, none⟩ = some (.int .i64 c.ba) ∧ w'.cell? ⟨w.heap.size + 1 + 1, 2, none⟩ = some (.int .i64 c.bo) ∧ w'.cell? ⟨w.heap.size + 1 + 1, 3, none⟩ = some (.int .i64 c.un) ∧ w'.cell? ⟨w.heap.size + 1 + 1, 4, none⟩ = some (.int .i64 c.iv) ∧ w'.cell? ⟨w.heap.size + 1 + 1, 5, none⟩ = some (.string c.inh) ∧ w'.cell? ⟨w.heap.size + 1 + 1 + 1, 0, none⟩ = some (.int .i64 0) ∧ w'.cell? ⟨w.heap.size + 1 + 1 + 1, 1, none⟩ = some (.int .i64 0) ∧ w'.cell? ⟨w.heap.size + 1 + 1 + 1, 2, none⟩ = some (.int .i64 0) ∧ w'.cell? ⟨w.heap.size + 1 + 1 + 1, 3, none⟩ = some (.int .i64 0) ∧ w'.cell? ⟨w.heap.size + 1 + 1 + 1, 4, none⟩ = some (.int .i64 0) ∧ w'.cell? ⟨w.heap.size + 1 + 1 + 1, 5, none⟩ = some (.string a.inh))
    (first | exact HQ.out _ B0.out | exact HQ.out _ B1.out | exact HQ.out _ B2.out | exact HQ.out _ B3.out | exact HQ.out _ B4.out | exact HQ.out _ B5.out | exact HQ.out _ B6.out | exact HQ.out _ B7.out | exact HQ.out _ B8.out)
    ((first
      | (go_at_call 5; (with_reducible refine Calls.mono (known_any _) ?_); rintro r w1 ⟨rfl, hb⟩; have B1 := hide (B0.out.below hb); clear hb)
      | (go_at_call 11; (with_reducible refine Calls.mono (C1.out _) ?_); rintro r w2 ⟨rfl, hb⟩; have B2 := hide (B1.out.below hb); clear hb)
      | (go_at_call 11; (with_reducible refine Calls.mono (C2.out _) ?_); rintro r w3 ⟨rfl, hb⟩; have B3 := hide (B2.out.below hb); clear hb)
      | (go_at_call 11; (with_reducible refine Calls.mono (C3.out _) ?_); rintro r w4 ⟨rfl, hb⟩; have B4 := hide (B3.out.below hb); clear hb)
      | (go_at_call 11; (with_reducible refine Calls.mono (C4.out _) ?_); rintro r w5 ⟨rfl, hb⟩; have B5 := hide (B4.out.below hb); clear hb)
      | (go_at_call 11; (with_reducible refine Calls.mono (C5.out _) ?_); rintro r w6 ⟨rfl, hb⟩; have B6 := hide (B5.out.below hb); clear hb)
      | (go_at_call 11; (with_reducible refine Calls.mono (C6.out _) ?_); rintro r w7 ⟨rfl, hb⟩; have B7 := hide (B6.out.below hb); clear hb)
      | (go_at_call 11; (with_reducible refine Calls.mono (C7.out _) ?_); rintro r w8 ⟨rfl, hb⟩; have B8 := hide (B7.out.below hb); clear hb)))
  go_wp2
  go_ret
  exact ⟨rfl, B8.out.bel⟩
end Go.Proofs.Ytmjogpacajbngaa
