/- Over, of the program. No condition but those written. -/
import Derived.Test.YtmjogpacajbngaaFa
namespace Go.Proofs.Ytmjogpacajbngaa
open Go.RowKit

/-- The attributes of a merged over those of b, up to the k-th. -/
def mix (a b : Att) (k : Nat) : Array Value := #[.int .i64 (if 0 < k then first a.fo b.fo else a.fo), .int .i64 (if 1 < k then first a.ba b.ba else a.ba), .int .i64 (if 2 < k then first a.bo b.bo else a.bo), .int .i64 (if 3 < k then first a.un b.un else a.un), .int .i64 (if 4 < k then first a.iv b.iv else a.iv), .string a.inh]
theorem first_zero {a b : Int} (h : a = 0) : first a b = b := if_pos h
theorem first_non {a b : Int} (h : ¬ a = 0) : first a b = a := if_neg h
def fld (a : Att) : Nat → Int
  | 0 => a.fo
  | 1 => a.ba
  | 2 => a.bo
  | 3 => a.un
  | _ => a.iv
abbrev ptrs (g : Nat) : Array Value := #[.pointer (some ⟨g, 0, none⟩), .pointer (some ⟨g, 1, none⟩), .pointer (some ⟨g, 2, none⟩), .pointer (some ⟨g, 3, none⟩), .pointer (some ⟨g, 4, none⟩)]
abbrev attZ : Array Value := #[.int .i64 0, .int .i64 0, .int .i64 0, .int .i64 0, .int .i64 0, .string ⟨#[]⟩]
/-- The blocks of Over: the merged attributes, the ones below, the pointers to these, the result. -/
def OvAt (w w' : World) (gx gy gp gr : Nat) (a b : Att) (k : Nat) : Prop :=
  Own w w' [(gx, .cells 63 (mix a b k)), (gy, .cells 63 b.cells.toArray), (gp, .cells 65 (ptrs gy)), (gr, .cells 23 attZ)]
section
variable {w w' : World} {gx gy gp gr k : Nat} {a b : Att}
theorem ov_cells (h : OvAt w w' gx gy gp gr a b k) (hk : k < 5) : w'.cell? ⟨gx, k, none⟩ = some (.int .i64 (fld a k)) ∧ w'.frozen? ⟨gx, k, none⟩ = false ∧ w'.cell? ⟨gp, k, none⟩ = some (.pointer (some ⟨gy, k, none⟩)) ∧ w'.cell? ⟨gy, k, none⟩ = some (.int .i64 (fld b k)) := by
  have h1 : Blk w' gx 63 (mix a b k) := h.blk (by simp)
  have h2 : Blk w' gy 63 b.cells.toArray := h.blk (by simp)
  have h3 : Blk w' gp 65 (ptrs gy) := h.blk (by simp)
  rw [h1.cell, h1.frozen, h2.cell, h3.cell]
  obtain rfl | rfl | rfl | rfl | rfl : k = 0 ∨ k = 1 ∨ k = 2 ∨ k = 3 ∨ k = 4 := by omega
  all_goals exact ⟨rfl, rfl, rfl, rfl⟩
theorem ov_set (h : OvAt w w' gx gy gp gr a b k) (hk : k < 5) (hz : fld a k = 0) : OvAt w (w'.setCell ⟨gx, k, none⟩ (.int .i64 (fld b k))) gx gy gp gr a b (k + 1) := by
  have h1 := Own.setCell h k (.int .i64 (fld b k))
  have e : (mix a b k).setIfInBounds k (.int .i64 (fld b k)) = mix a b (k + 1) := by
    obtain rfl | rfl | rfl | rfl | rfl : k = 0 ∨ k = 1 ∨ k = 2 ∨ k = 3 ∨ k = 4 := by omega
    all_goals
      simp only [fld] at hz
      simp [mix, fld, first, hz]
  rw [e] at h1
  exact h1
theorem ov_keep (h : OvAt w w' gx gy gp gr a b k) (hk : k < 5) (hz : ¬ fld a k = 0) : OvAt w w' gx gy gp gr a b (k + 1) := by
  have e : mix a b k = mix a b (k + 1) := by
    obtain rfl | rfl | rfl | rfl | rfl : k = 0 ∨ k = 1 ∨ k = 2 ∨ k = 3 ∨ k = 4 := by omega
    all_goals
      simp only [fld] at hz
      simp [mix, first, hz]
  unfold OvAt
  rw [← e]
  exact h
theorem ov_res (h : OvAt w w' gx gy gp gr a b k) : AttAt w' gr ⟨0, 0, 0, 0, 0, ⟨#[]⟩⟩ ∧ w'.frozen? ⟨gr, 0, none⟩ = false ∧ w'.frozen? ⟨gr, 1, none⟩ = false ∧ w'.frozen? ⟨gr, 2, none⟩ = false ∧ w'.frozen? ⟨gr, 3, none⟩ = false ∧ w'.frozen? ⟨gr, 4, none⟩ = false ∧ w'.frozen? ⟨gr, 5, none⟩ = false := by
  have h1 : Blk w' gr 23 attZ := h.blk (by simp)
  exact ⟨Blk.att (a := ⟨0, 0, 0, 0, 0, ⟨#[]⟩⟩) h1, h1.frozen _, h1.frozen _, h1.frozen _, h1.frozen _, h1.frozen _, h1.frozen _⟩
theorem index_p0 (g : Nat) (w : World) : (Instr.index 65 (.agg #[.pointer (some ⟨g, 0, none⟩), .pointer (some ⟨g, 1, none⟩), .pointer (some ⟨g, 2, none⟩), .pointer (some ⟨g, 3, none⟩), .pointer (some ⟨g, 4, none⟩)]) (.int .i64 0)).run Try.prog w = .ok (.pointer (some ⟨g, 0, none⟩)) w := by kernel_rfl
theorem index_p1 (g : Nat) (w : World) : (Instr.index 65 (.agg #[.pointer (some ⟨g, 0, none⟩), .pointer (some ⟨g, 1, none⟩), .pointer (some ⟨g, 2, none⟩), .pointer (some ⟨g, 3, none⟩), .pointer (some ⟨g, 4, none⟩)]) (.int .i64 1)).run Try.prog w = .ok (.pointer (some ⟨g, 1, none⟩)) w := by kernel_rfl
theorem index_p2 (g : Nat) (w : World) : (Instr.index 65 (.agg #[.pointer (some ⟨g, 0, none⟩), .pointer (some ⟨g, 1, none⟩), .pointer (some ⟨g, 2, none⟩), .pointer (some ⟨g, 3, none⟩), .pointer (some ⟨g, 4, none⟩)]) (.int .i64 2)).run Try.prog w = .ok (.pointer (some ⟨g, 2, none⟩)) w := by kernel_rfl
theorem index_p3 (g : Nat) (w : World) : (Instr.index 65 (.agg #[.pointer (some ⟨g, 0, none⟩), .pointer (some ⟨g, 1, none⟩), .pointer (some ⟨g, 2, none⟩), .pointer (some ⟨g, 3, none⟩), .pointer (some ⟨g, 4, none⟩)]) (.int .i64 3)).run Try.prog w = .ok (.pointer (some ⟨g, 3, none⟩)) w := by kernel_rfl
theorem index_p4 (g : Nat) (w : World) : (Instr.index 65 (.agg #[.pointer (some ⟨g, 0, none⟩), .pointer (some ⟨g, 1, none⟩), .pointer (some ⟨g, 2, none⟩), .pointer (some ⟨g, 3, none⟩), .pointer (some ⟨g, 4, none⟩)]) (.int .i64 4)).run Try.prog w = .ok (.pointer (some ⟨g, 4, none⟩)) w := by kernel_rfl
theorem mix_last : mix a b 5 = (over a b).cells.toArray := rfl
theorem ov_end (h : OvAt w w' gx gy gp gr a b k) : Blk ((((((w'.setCell ⟨gr, 0, none⟩ (.int .i64 (over a b).fo)).setCell ⟨gr, 1, none⟩ (.int .i64 (over a b).ba)).setCell ⟨gr, 2, none⟩ (.int .i64 (over a b).bo)).setCell ⟨gr, 3, none⟩ (.int .i64 (over a b).un)).setCell ⟨gr, 4, none⟩ (.int .i64 (over a b).iv)).setCell ⟨gr, 5, none⟩ (.string (over a b).inh)) gr 23 (over a b).cells.toArray ∧
    Below w.heap.size w ((((((w'.setCell ⟨gr, 0, none⟩ (.int .i64 (over a b).fo)).setCell ⟨gr, 1, none⟩ (.int .i64 (over a b).ba)).setCell ⟨gr, 2, none⟩ (.int .i64 (over a b).bo)).setCell ⟨gr, 3, none⟩ (.int .i64 (over a b).un)).setCell ⟨gr, 4, none⟩ (.int .i64 (over a b).iv)).setCell ⟨gr, 5, none⟩ (.string (over a b).inh)) := by
  have h1 : Own w w' [(gr, .cells 23 attZ)] := Own.sub h (by simp)
  have h2 := (((((h1.setCell 0 (.int .i64 (over a b).fo)).setCell 1 (.int .i64 (over a b).ba)).setCell 2 (.int .i64 (over a b).bo)).setCell 3 (.int .i64 (over a b).un)).setCell 4 (.int .i64 (over a b).iv)).setCell 5 (.string (over a b).inh)
  exact ⟨h2.blk (List.mem_singleton.2 rfl), h2.bel⟩
theorem mix_first : mix a b 0 = a.cells.toArray := rfl
theorem ov_start1 (a b : Att) (w w2 : World) (h2 : Below (((((w.alloc (.cells a.cells.toArray 23)).alloc (.cells b.cells.toArray 23)).alloc (.cells attZ 23)).alloc (.cells b.cells.toArray 63)).alloc (.cells a.cells.toArray 63)).heap.size
    (((((w.alloc (.cells a.cells.toArray 23)).alloc (.cells b.cells.toArray 23)).alloc (.cells attZ 23)).alloc (.cells b.cells.toArray 63)).alloc (.cells a.cells.toArray 63)).drew w2) :
    OvAt w (w2.alloc (.cells (ptrs (w.heap.size + 1 + 1 + 1)) 65)) (w.heap.size + 1 + 1 + 1 + 1) (w.heap.size + 1 + 1 + 1) w2.heap.size (w.heap.size + 1 + 1) a b 0 := by
  have h := ((((((Own.refl w).skip (.cells a.cells.toArray 23)).skip (.cells b.cells.toArray 23)).newCells 23 attZ).newCells 63 b.cells.toArray).newCells 63 a.cells.toArray).drew
  have h3 := (h.below h2).newCells 65 (ptrs (w.heap.size + 1 + 1 + 1))
  simp only [World.size_alloc] at h3
  unfold OvAt
  rw [mix_first]
  refine h3.perm ?_
  classical
  rw [List.perm_iff_count]
  intro x
  simp only [List.count_cons, List.count_nil]
  omega
theorem ov_start2 (a b : Att) (w w2 : World) (h2 : Below (((((w.alloc (.cells a.cells.toArray 23)).alloc (.cells b.cells.toArray 23)).alloc (.cells attZ 23)).alloc (.cells a.cells.toArray 63)).alloc (.cells b.cells.toArray 63)).heap.size
    (((((w.alloc (.cells a.cells.toArray 23)).alloc (.cells b.cells.toArray 23)).alloc (.cells attZ 23)).alloc (.cells a.cells.toArray 63)).alloc (.cells b.cells.toArray 63)).drew w2) :
    OvAt w (w2.alloc (.cells (ptrs (w.heap.size + 1 + 1 + 1 + 1)) 65)) (w.heap.size + 1 + 1 + 1) (w.heap.size + 1 + 1 + 1 + 1) w2.heap.size (w.heap.size + 1 + 1) a b 0 := by
  have h := ((((((Own.refl w).skip (.cells a.cells.toArray 23)).skip (.cells b.cells.toArray 23)).newCells 23 attZ).newCells 63 a.cells.toArray).newCells 63 b.cells.toArray).drew
  have h3 := (h.below h2).newCells 65 (ptrs (w.heap.size + 1 + 1 + 1 + 1))
  simp only [World.size_alloc] at h3
  unfold OvAt
  rw [mix_first]
  refine h3.perm ?_
  classical
  rw [List.perm_iff_count]
  intro x
  simp only [List.count_cons, List.count_nil]
  omega
end
set_option maxRecDepth 100000 in
set_option maxHeartbeats 4000000 in
theorem over_any (a b : Att) (w : World) : Calls Try.prog 11 #[a.val, b.val] w fun e w' => e = .returned (over a b).val ∧ Below w.heap.size w w' := by
  have HO1 := hide (ov_start1 a b w)
  have HO2 := hide (ov_start2 a b w)
  go_enter Try.func11, Try.ntmps11
  go_wp2_with fail
  go_region

  all_goals go_wp2_with fail
  · (with_reducible refine Calls.mono (fields_any (w.heap.size + 1 + 1 + 1 + 1) _) ?_)
    rintro r w2 ⟨rfl, h2⟩
    have H2 := hide (HO2.out w2 h2)
    clear h2 HO1 HO2
    go_wp2_with fail
    (with_reducible refine Calls.mono (fields_any (w.heap.size + 1 + 1 + 1) _) ?_)
    rintro r w3 ⟨rfl, h3⟩
    have H3 := hide (Own.below H2.out h3)
    clear h3 H2
    generalize w.heap.size + 1 + 1 + 1 + 1 = gy at H3 ⊢
    generalize w.heap.size + 1 + 1 + 1 = gx at H3 ⊢
    generalize w.heap.size + 1 + 1 = gr at H3 ⊢
    generalize w2.heap.size = gp at H3 ⊢
    go_wp2
    go_loopw [14] (fun t wr => (t = .int .i64 0 ∧ OvAt w wr gx gy gp gr a b 0) ∨ (t = .int .i64 1 ∧ OvAt w wr gx gy gp gr a b 1) ∨ (t = .int .i64 2 ∧ OvAt w wr gx gy gp gr a b 2) ∨ (t = .int .i64 3 ∧ OvAt w wr gx gy gp gr a b 3) ∨ (t = .int .i64 4 ∧ OvAt w wr gx gy gp gr a b 4) ∨ (t = .int .i64 5 ∧ OvAt w wr gx gy gp gr a b 5)) (fun t _ => 5 - (intOf t).toNat)
    case atStart => exact .inl ⟨rfl, H3.out⟩
    case round =>
      rcases hrel with ⟨rfl, hO⟩ | ⟨rfl, hO⟩ | ⟨rfl, hO⟩ | ⟨rfl, hO⟩ | ⟨rfl, hO⟩ | ⟨rfl, hO⟩
      · obtain ⟨c0, c1, c2, c3⟩ := ov_cells hO (by omega)
        simp only [fld] at c0 c3
        have hix := index_p0 gx
        by_cases hz : a.fo = 0
        · have HN := hide (ov_set hO (by omega) hz)
          simp only [fld] at HN
          have z1 : (a.fo == 0) = true := by simpa using hz
          clear hO hz
          go_wp2
          go_roundw
          case rel => exact .inr (.inl ⟨rfl, HN.out⟩)
          case measure => simp [intOf]
        · have HN := hide (ov_keep hO (by omega) hz)
          have z1 : (a.fo == 0) = false := by simpa using hz
          clear hO hz
          go_wp2
          go_roundw
          case rel => exact .inr (.inl ⟨rfl, HN.out⟩)
          case measure => simp [intOf]
      · obtain ⟨c0, c1, c2, c3⟩ := ov_cells hO (by omega)
        simp only [fld] at c0 c3
        have hix := index_p1 gx
        by_cases hz : a.ba = 0
        · have HN := hide (ov_set hO (by omega) hz)
          simp only [fld] at HN
          have z1 : (a.ba == 0) = true := by simpa using hz
          clear hO hz
          go_wp2
          go_roundw
          case rel => exact .inr (.inr (.inl ⟨rfl, HN.out⟩))
          case measure => simp [intOf]
        · have HN := hide (ov_keep hO (by omega) hz)
          have z1 : (a.ba == 0) = false := by simpa using hz
          clear hO hz
          go_wp2
          go_roundw
          case rel => exact .inr (.inr (.inl ⟨rfl, HN.out⟩))
          case measure => simp [intOf]
      · obtain ⟨c0, c1, c2, c3⟩ := ov_cells hO (by omega)
        simp only [fld] at c0 c3
        have hix := index_p2 gx
        by_cases hz : a.bo = 0
        · have HN := hide (ov_set hO (by omega) hz)
          simp only [fld] at HN
          have z1 : (a.bo == 0) = true := by simpa using hz
          clear hO hz
          go_wp2
          go_roundw
          case rel => exact .inr (.inr (.inr (.inl ⟨rfl, HN.out⟩)))
          case measure => simp [intOf]
        · have HN := hide (ov_keep hO (by omega) hz)
          have z1 : (a.bo == 0) = false := by simpa using hz
          clear hO hz
          go_wp2
          go_roundw
          case rel => exact .inr (.inr (.inr (.inl ⟨rfl, HN.out⟩)))
          case measure => simp [intOf]
      · obtain ⟨c0, c1, c2, c3⟩ := ov_cells hO (by omega)
        simp only [fld] at c0 c3
        have hix := index_p3 gx
        by_cases hz : a.un = 0
        · have HN := hide (ov_set hO (by omega) hz)
          simp only [fld] at HN
          have z1 : (a.un == 0) = true := by simpa using hz
          clear hO hz
          go_wp2
          go_roundw
          case rel => exact .inr (.inr (.inr (.inr (.inl ⟨rfl, HN.out⟩))))
          case measure => simp [intOf]
        · have HN := hide (ov_keep hO (by omega) hz)
          have z1 : (a.un == 0) = false := by simpa using hz
          clear hO hz
          go_wp2
          go_roundw
          case rel => exact .inr (.inr (.inr (.inr (.inl ⟨rfl, HN.out⟩))))
          case measure => simp [intOf]
      · obtain ⟨c0, c1, c2, c3⟩ := ov_cells hO (by omega)
        simp only [fld] at c0 c3
        have hix := index_p4 gx
        by_cases hz : a.iv = 0
        · have HN := hide (ov_set hO (by omega) hz)
          simp only [fld] at HN
          have z1 : (a.iv == 0) = true := by simpa using hz
          clear hO hz
          go_wp2
          go_roundw
          case rel => exact .inr (.inr (.inr (.inr (.inr (⟨rfl, HN.out⟩)))))
          case measure => simp [intOf]
        · have HN := hide (ov_keep hO (by omega) hz)
          have z1 : (a.iv == 0) = false := by simpa using hz
          clear hO hz
          go_wp2
          go_roundw
          case rel => exact .inr (.inr (.inr (.inr (.inr (⟨rfl, HN.out⟩)))))
          case measure => simp [intOf]
      · have HO := hide hO
        have HX := hide (Blk.att (a := over a b) (show Blk wr gx 63 (over a b).cells.toArray from Own.blk hO (by rw [mix_last]; simp)))
        have HR := hide (ov_res hO)
        have HF := hide (ov_end hO)
        clear hO
        obtain ⟨x0, x1, x2, x3, x4, x5⟩ := HX.out
        obtain ⟨⟨r0, r1, r2, r3, r4, r5⟩, f0, f1, f2, f3, f4, f5⟩ := HR.out
        go_wp2
        refine bodyPost_ret (results_cell_row rfl _ _ gr 23 (over a b).cells.toArray (0, 0) _ rfl (HF.out.1) Try.underlying23 rfl (by kernel_rfl)) rfl ?_
        exact ⟨rfl, HF.out.2⟩
  · (with_reducible refine Calls.mono (fields_any (w.heap.size + 1 + 1 + 1) _) ?_)
    rintro r w2 ⟨rfl, h2⟩
    have H2 := hide (HO1.out w2 h2)
    clear h2 HO1 HO2
    go_wp2_with fail
    (with_reducible refine Calls.mono (fields_any (w.heap.size + 1 + 1 + 1 + 1) _) ?_)
    rintro r w3 ⟨rfl, h3⟩
    have H3 := hide (Own.below H2.out h3)
    clear h3 H2
    generalize w.heap.size + 1 + 1 + 1 + 1 = gx at H3 ⊢
    generalize w.heap.size + 1 + 1 + 1 = gy at H3 ⊢
    generalize w.heap.size + 1 + 1 = gr at H3 ⊢
    generalize w2.heap.size = gp at H3 ⊢
    go_wp2
    go_loopw [14] (fun t wr => (t = .int .i64 0 ∧ OvAt w wr gx gy gp gr a b 0) ∨ (t = .int .i64 1 ∧ OvAt w wr gx gy gp gr a b 1) ∨ (t = .int .i64 2 ∧ OvAt w wr gx gy gp gr a b 2) ∨ (t = .int .i64 3 ∧ OvAt w wr gx gy gp gr a b 3) ∨ (t = .int .i64 4 ∧ OvAt w wr gx gy gp gr a b 4) ∨ (t = .int .i64 5 ∧ OvAt w wr gx gy gp gr a b 5)) (fun t _ => 5 - (intOf t).toNat)
    case atStart => exact .inl ⟨rfl, H3.out⟩
    case round =>
      rcases hrel with ⟨rfl, hO⟩ | ⟨rfl, hO⟩ | ⟨rfl, hO⟩ | ⟨rfl, hO⟩ | ⟨rfl, hO⟩ | ⟨rfl, hO⟩
      · obtain ⟨c0, c1, c2, c3⟩ := ov_cells hO (by omega)
        simp only [fld] at c0 c3
        have hix := index_p0 gx
        by_cases hz : a.fo = 0
        · have HN := hide (ov_set hO (by omega) hz)
          simp only [fld] at HN
          have z1 : (a.fo == 0) = true := by simpa using hz
          clear hO hz
          go_wp2
          go_roundw
          case rel => exact .inr (.inl ⟨rfl, HN.out⟩)
          case measure => simp [intOf]
        · have HN := hide (ov_keep hO (by omega) hz)
          have z1 : (a.fo == 0) = false := by simpa using hz
          clear hO hz
          go_wp2
          go_roundw
          case rel => exact .inr (.inl ⟨rfl, HN.out⟩)
          case measure => simp [intOf]
      · obtain ⟨c0, c1, c2, c3⟩ := ov_cells hO (by omega)
        simp only [fld] at c0 c3
        have hix := index_p1 gx
        by_cases hz : a.ba = 0
        · have HN := hide (ov_set hO (by omega) hz)
          simp only [fld] at HN
          have z1 : (a.ba == 0) = true := by simpa using hz
          clear hO hz
          go_wp2
          go_roundw
          case rel => exact .inr (.inr (.inl ⟨rfl, HN.out⟩))
          case measure => simp [intOf]
        · have HN := hide (ov_keep hO (by omega) hz)
          have z1 : (a.ba == 0) = false := by simpa using hz
          clear hO hz
          go_wp2
          go_roundw
          case rel => exact .inr (.inr (.inl ⟨rfl, HN.out⟩))
          case measure => simp [intOf]
      · obtain ⟨c0, c1, c2, c3⟩ := ov_cells hO (by omega)
        simp only [fld] at c0 c3
        have hix := index_p2 gx
        by_cases hz : a.bo = 0
        · have HN := hide (ov_set hO (by omega) hz)
          simp only [fld] at HN
          have z1 : (a.bo == 0) = true := by simpa using hz
          clear hO hz
          go_wp2
          go_roundw
          case rel => exact .inr (.inr (.inr (.inl ⟨rfl, HN.out⟩)))
          case measure => simp [intOf]
        · have HN := hide (ov_keep hO (by omega) hz)
          have z1 : (a.bo == 0) = false := by simpa using hz
          clear hO hz
          go_wp2
          go_roundw
          case rel => exact .inr (.inr (.inr (.inl ⟨rfl, HN.out⟩)))
          case measure => simp [intOf]
      · obtain ⟨c0, c1, c2, c3⟩ := ov_cells hO (by omega)
        simp only [fld] at c0 c3
        have hix := index_p3 gx
        by_cases hz : a.un = 0
        · have HN := hide (ov_set hO (by omega) hz)
          simp only [fld] at HN
          have z1 : (a.un == 0) = true := by simpa using hz
          clear hO hz
          go_wp2
          go_roundw
          case rel => exact .inr (.inr (.inr (.inr (.inl ⟨rfl, HN.out⟩))))
          case measure => simp [intOf]
        · have HN := hide (ov_keep hO (by omega) hz)
          have z1 : (a.un == 0) = false := by simpa using hz
          clear hO hz
          go_wp2
          go_roundw
          case rel => exact .inr (.inr (.inr (.inr (.inl ⟨rfl, HN.out⟩))))
          case measure => simp [intOf]
      · obtain ⟨c0, c1, c2, c3⟩ := ov_cells hO (by omega)
        simp only [fld] at c0 c3
        have hix := index_p4 gx
        by_cases hz : a.iv = 0
        · have HN := hide (ov_set hO (by omega) hz)
          simp only [fld] at HN
          have z1 : (a.iv == 0) = true := by simpa using hz
          clear hO hz
          go_wp2
          go_roundw
          case rel => exact .inr (.inr (.inr (.inr (.inr (⟨rfl, HN.out⟩)))))
          case measure => simp [intOf]
        · have HN := hide (ov_keep hO (by omega) hz)
          have z1 : (a.iv == 0) = false := by simpa using hz
          clear hO hz
          go_wp2
          go_roundw
          case rel => exact .inr (.inr (.inr (.inr (.inr (⟨rfl, HN.out⟩)))))
          case measure => simp [intOf]
      · have HO := hide hO
        have HX := hide (Blk.att (a := over a b) (show Blk wr gx 63 (over a b).cells.toArray from Own.blk hO (by rw [mix_last]; simp)))
        have HR := hide (ov_res hO)
        have HF := hide (ov_end hO)
        clear hO
        obtain ⟨x0, x1, x2, x3, x4, x5⟩ := HX.out
        obtain ⟨⟨r0, r1, r2, r3, r4, r5⟩, f0, f1, f2, f3, f4, f5⟩ := HR.out
        go_wp2
        refine bodyPost_ret (results_cell_row rfl _ _ gr 23 (over a b).cells.toArray (0, 0) _ rfl (HF.out.1) Try.underlying23 rfl (by kernel_rfl)) rfl ?_
        exact ⟨rfl, HF.out.2⟩
end Go.Proofs.Ytmjogpacajbngaa
