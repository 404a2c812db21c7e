/- What the closing of a group does to memory. No condition but those written. -/
import Derived.Test.YtghcmakhfdnimaaDoorUndE
import Derived.Lib.SliceRun
namespace Go.Proofs.YtghcmakhfdnimaaDoor
open Go.RowKit

/-- clear(s): only the block of s turns. -/
theorem run_clear_sl {P : Program} {w : World} {t e ty : TypeId} {z v : Value} {k n : Nat} {xs : List Value} (ht : P.underlying t = some (.slice e)) (hv : (zeroValue e).run P w = .ok z w) (hzs : z.cells.size = k) (h1 : ∀ u ∈ z.cells.toList, u.oneCell' = true) (h : Sl w e k v n xs) :
    ∃ w', (Builtin.clear_ #[t] ty #[v]).run P w = .ok (.tuple #[]) w' ∧ Only (fun b => v.ownBlock = some b) w w' := by
  rcases h.2 with ⟨rfl, rfl⟩ | ⟨g, off, cap, cs, rfl, hg, hnc, _, hfit, _⟩
  · exact ⟨w, by simp [Builtin.clear_, run_underlying ht], Only.refl _ _⟩
  · cases n with
    | zero => exact ⟨w, by simp [Builtin.clear_, run_underlying ht], Only.refl _ _⟩
    | succ m =>
      have hmem : ∀ u ∈ (Builtin.zeroCells z.cells (m + 1)).toList, u.oneCell' = true := by
        intro u hu
        simp only [Builtin.zeroCells, Array.toList_map, List.mem_map, Array.mem_toList_iff, Array.mem_range] at hu
        obtain ⟨i, hi, rfl⟩ := hu
        have hpos : 0 < z.cells.size := by
          rcases Nat.eq_zero_or_pos z.cells.size with h0 | h0
          · rw [h0] at hi; omega
          · exact h0
        have hlt := Nat.mod_lt i hpos
        rw [getElem!_pos z.cells (i % z.cells.size) hlt]
        exact h1 _ (Array.getElem_mem_toList hlt)
      have hsz : (Builtin.zeroCells z.cells (m + 1)).toList.length = (m + 1) * k := by simp [size_zeroCells, hzs]
      have hle : (m + 1) * k ≤ cap * k := Nat.mul_le_mul_right _ hnc
      have hst := run_storeCells_at P g off e (Builtin.zeroCells z.cells (m + 1)).toList 0 cs w hg (by rw [hsz]; omega) hmem
      refine ⟨w.setRow g (cs.toList.take (off + 0) ++ (Builtin.zeroCells z.cells (m + 1)).toList ++ cs.toList.drop (off + 0 + (Builtin.zeroCells z.cells (m + 1)).toList.length)).toArray, ?_, ⟨rfl, rfl, rfl, by simp, fun q _ hq => setRow_other w g q _ (fun e => hq (by simp [Value.ownBlock, e]))⟩⟩
      simp only [Builtin.clear_]
      simp [run_underlying ht, hv]
      rw [hst]
      simp [Result.andThen]
/-- A block is let go. -/
theorem Own.lose {W w w' : World} {L : Heap} {g : Nat} {a : Ast} (h : Own W w ((g, a) :: L)) (ho : Only (· = g) w w') : Own W w' L := by
  have hg := h.ge (List.mem_cons_self ..)
  have hn := h.nod
  rw [Heap.blocks_cons] at hn
  refine ⟨h.bel.trans (ho.below h.bel.size fun i hi => by rw [hi]; exact hg), (List.nodup_cons.1 hn).2, fun x hx => ?_⟩
  have hx' := h.all x (List.mem_cons_of_mem _ hx)
  refine ⟨hx'.1.same (ho.block _ hx'.1.lt fun e => ?_), hx'.2⟩
  exact (List.nodup_cons.1 hn).1 (by rw [← e]; exact List.mem_map.2 ⟨x, hx, rfl⟩)
theorem Own.loseRow {W w w' : World} {L : Heap} {T : TypeId} {k n : Nat} {v : Value} {xs : List Value} (h : Own W w (rowOf T k v n xs ++ L)) (ho : Only (fun b => v.ownBlock = some b) w w') : Own W w' L := by
  cases e : v.ownBlock with
  | none =>
    rw [rowOf_none e] at h
    exact h.below (ho.mono (G := fun _ => False) fun i _ hi => by rw [e] at hi; cases hi).below_none
  | some g =>
    rw [rowOf_some e] at h
    exact Own.lose h (ho.mono fun i _ hi => by rw [e] at hi; cases hi; rfl)
/-- s[1:], where an element is left. -/
theorem Sl.tail {w : World} {T : TypeId} {k n g off c : Nat} {xs : List Value} (h : Sl w T k (.slice (some ⟨g, off, none⟩) (n + 1) c) (n + 1) xs) : Sl w T k (.slice (some ⟨g, off + 1 * k, none⟩) n (c - 1)) n (xs.drop k) := by
  refine ⟨by rw [List.length_drop, h.1, Nat.add_mul, Nat.one_mul]; omega, ?_⟩
  rcases h.2 with ⟨h0, _⟩ | ⟨g', off', cap, cs, hv, hh, h1, h2, h3, h4⟩
  · cases h0
  · injection hv with ha _ hc
    injection ha with ha
    injection ha with hg ho
    subst hg ho hc
    have e : c * k = (c - 1) * k + k := by
      obtain ⟨d, rfl⟩ : ∃ d, c = d + 1 := ⟨c - 1, by omega⟩
      rw [Nat.add_sub_cancel, Nat.add_mul, Nat.one_mul]
    refine .inr ⟨g, off + 1 * k, c - 1, cs, rfl, hh, by omega, by unfold maxLen at *; omega, by rw [Nat.one_mul]; omega, ?_⟩
    rw [← h4, Nat.one_mul, List.drop_take, List.drop_drop, Nat.add_mul, Nat.one_mul, Nat.add_sub_cancel]

section
variable {W w w' : World} {b : Lb} {s : Lg} {R : Heap}
/-- The same blocks, the row of the groups' headers first. -/
theorem LogAt.toG (h : LogAt W w b s R) : Own W w (rowOf 40 1 b.gv b.gs.length (b.gs.map (·.1)) ++ ((b.lb, .cells 77 (logCells b s)) :: (chgRow b.ov s.O ++ (grpHeap b.gs ++ R)))) := by
  refine h.own.perm ?_
  unfold Lb.heap
  classical
  rw [List.perm_iff_count]
  intro x
  simp only [List.count_append, List.count_cons]
  omega
theorem grpHeap_snoc (gs : List (Value × List Chg)) (x : Value × List Chg) : grpHeap (gs ++ [x]) = grpHeap gs ++ chgRow x.1 x.2 := by simp [grpHeap]
/-- What the append of the open group leaves, all three fields stored. -/
theorem LogAt.shutAt {v' : Value} (h : LogAt W w b s R) (hs : Sl w' 40 1 v' (b.gs.length + 1) (b.gs.map (·.1) ++ [b.ov])) (ho : Only (fun g => b.gv.ownBlock = some g) w w') (hv : v'.ownBlock = b.gv.ownBlock ∨ v'.ownBlock = some w.heap.size) :
    Blk w' b.lb 77 (logCells b s) ∧ LogAt W (((w'.setCell ⟨b.lb, 1, none⟩ v').setCell ⟨b.lb, 2, none⟩ (.slice none 0 0)).setCell ⟨b.lb, 5, none⟩ (.int .i64 0)) ⟨b.lb, v', .slice none 0 0, b.gs ++ [(b.ov, s.O)]⟩ { s with G := s.G ++ [s.O], O := [], now := 0 } R := by
  have h1 := h.toG
  have h2 := h1.appended hs ho hv
  have hb : Blk w' b.lb 77 (logCells b s) := h2.blk (by simp)
  have h3 : Own W w' ((b.lb, .cells 77 (logCells b s)) :: (rowOf 40 1 v' (b.gs.length + 1) (b.gs.map (·.1) ++ [b.ov]) ++ (grpHeap (b.gs ++ [(b.ov, s.O)]) ++ R))) := by
    refine h2.perm ?_
    rw [grpHeap_snoc]
    classical
    rw [List.perm_iff_count]
    intro x
    simp only [List.count_append, List.count_cons]
    omega
  refine ⟨hb, ⟨?_, by rw [h.grp]; simp, ?_, RowOk.nil, ?_⟩⟩
  · have h4 := ((h3.setCell 1 v').setCell 2 (.slice none 0 0)).setCell 5 (.int .i64 0)
    unfold Lb.heap
    rw [show (b.gs ++ [(b.ov, s.O)]).length = b.gs.length + 1 by simp, show (b.gs ++ [(b.ov, s.O)]).map (·.1) = b.gs.map (·.1) ++ [b.ov] by simp]
    show Own W _ ((b.lb, _) :: ((rowOf 40 1 v' (b.gs.length + 1) (b.gs.map (·.1) ++ [b.ov]) ++ ([] ++ grpHeap (b.gs ++ [(b.ov, s.O)]))) ++ R))
    rw [List.nil_append, List.append_assoc]
    exact h4
  · show RowOk v' (b.gs ++ [(b.ov, s.O)]).length
    rw [show (b.gs ++ [(b.ov, s.O)]).length = b.gs.length + 1 by simp]
    exact hs.rowOk
  · intro x hx
    rcases List.mem_append.1 hx with hx | hx
    · exact h.okg x hx
    · simp at hx
      subst hx
      exact h.okO
/-- The first group's row is let go. -/
theorem LogAt.toFirst {v : Value} {l : List Chg} {r : List (Value × List Chg)} (h : LogAt W w b s R) (hg : b.gs = (v, l) :: r) : Own W w (chgRow v l ++ ((b.lb, .cells 77 (logCells b s)) :: (rowOf 40 1 b.gv b.gs.length (b.gs.map (·.1)) ++ (chgRow b.ov s.O ++ (grpHeap r ++ R))))) := by
  refine h.own.perm ?_
  unfold Lb.heap
  rw [show grpHeap b.gs = chgRow v l ++ grpHeap r by rw [hg]; rfl]
  classical
  rw [List.perm_iff_count]
  intro x
  simp only [List.count_append, List.count_cons]
  omega
theorem LogAt.firstGone {v : Value} {l : List Chg} {r : List (Value × List Chg)} {g off c : Nat} {s' : Lg} (h : LogAt W w b s R) (hg : b.gs = (v, l) :: r) (hv : b.gv = .slice (some ⟨g, off, none⟩) (r.length + 1) c) (ho : Only (fun i => v.ownBlock = some i) w w') (hs' : s' = { s with G := s.G.tail }) :
    Blk w' b.lb 77 (logCells b s) ∧ LogAt W (w'.setCell ⟨b.lb, 1, none⟩ (.slice (some ⟨g, off + 1, none⟩) r.length (c - 1))) ⟨b.lb, .slice (some ⟨g, off + 1, none⟩) r.length (c - 1), b.ov, r⟩ s' R := by
  subst hs'
  have h1 := Own.loseRow (h.toFirst hg) ho
  have hb : Blk w' b.lb 77 (logCells b s) := h1.blk (by simp)
  refine ⟨hb, ?_⟩
  have h2 := h1.setCell 1 (.slice (some ⟨g, off + 1, none⟩) r.length (c - 1))
  have h3 := h2.perm (R := (rowOf 40 1 b.gv b.gs.length (b.gs.map (·.1))) ++ ((b.lb, .cells 77 ((logCells b s).setIfInBounds 1 (.slice (some ⟨g, off + 1, none⟩) r.length (c - 1)))) :: (chgRow b.ov s.O ++ (grpHeap r ++ R)))) (by
    classical
    rw [List.perm_iff_count]
    intro x
    simp only [List.count_append, List.count_cons]
    omega)
  rw [rowOf_some (v := b.gv) (g := g) (by rw [hv]; rfl), hv, hg] at h3
  have hrow := (h3.row (List.mem_cons_self ..)).2
  have htl := Sl.tail hrow
  rw [Nat.one_mul] at htl
  have h4 := h3.turn (b := .row 40 1 (.slice (some ⟨g, off + 1, none⟩) r.length (c - 1)) r.length (r.map (·.1))) (Only.refl _ _) ⟨rfl, by simpa using htl⟩
  refine ⟨?_, ?_, RowOk.some (g := g) rfl, h.okO, fun x hx => h.okg x (by rw [hg]; exact List.mem_cons_of_mem _ hx)⟩
  · unfold Lb.heap
    rw [rowOf_some (v := .slice (some ⟨g, off + 1, none⟩) r.length (c - 1)) (g := g) rfl]
    refine (show Own W _ ((g, Ast.row 40 1 (.slice (some ⟨g, off + 1, none⟩) r.length (c - 1)) r.length (r.map (·.1))) :: ((b.lb, .cells 77 (logCells ⟨b.lb, .slice (some ⟨g, off + 1, none⟩) r.length (c - 1), b.ov, r⟩ { s with G := s.G.tail })) :: (chgRow b.ov s.O ++ (grpHeap r ++ R)))) from h4).perm ?_
    classical
    rw [List.perm_iff_count]
    intro x
    simp only [List.count_append, List.count_cons, List.count_nil]
    omega
  · show s.G.tail = r.map (·.2)
    rw [h.grp, hg]
    rfl
end
end Go.Proofs.YtghcmakhfdnimaaDoor
