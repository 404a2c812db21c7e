/- The bindings' list: one more, one less. No condition but those written. -/
import Derived.Test.YtempnakdpmmmoaaVarY
namespace Go.Proofs.Ytempnakdpmmmoaa
open Go.RowKit

theorem info_note : (Try.prog.info? 64).map (fun i => (i.zero, i.size, i.bytes)) = some (some (.agg #[.int .i64 0, .int .i64 0, .bool false, .int .i64 0, .int .i64 0, .nilFunc]), 6, 48) := by kernel_rfl

theorem perm_row (r v m d l n p R : Heap) : (r ++ ((v ++ m) ++ (d ++ (l ++ n)) ++ (p ++ R))).Perm (v ++ (m ++ (d ++ (l ++ ((n ++ p) ++ r))) ++ R)) := by
  simp only [List.append_assoc]
  refine (List.perm_append_comm_assoc _ _ _).trans (List.Perm.append_left _ ?_)
  refine (List.perm_append_comm_assoc _ _ _).trans (List.Perm.append_left _ ?_)
  refine (List.perm_append_comm_assoc _ _ _).trans (List.Perm.append_left _ ?_)
  refine (List.perm_append_comm_assoc _ _ _).trans (List.Perm.append_left _ ?_)
  refine (List.perm_append_comm_assoc _ _ _).trans (List.Perm.append_left _ ?_)
  exact List.perm_append_comm_assoc _ _ _

section
variable {W w w' : World} {b : Vb} {s : Vst} {R : Heap}
def Vst.addNote (s : Vst) (x : Nte) : Vst := { s with notes := s.notes ++ [x] }
def Vb.withNv (b : Vb) (v : Value) : Vb := { b with nv := v }
theorem noteHeap_snoc (l : List Nte) (x : Nte) : noteHeap (l ++ [x]) = noteHeap l ++ [(x.g1, .cells 3 #[.int .i64 x.s]), (x.g2, .cells 3 #[.int .i64 x.n])] := by simp [noteHeap]
theorem VarsAt.addNote {x : Nte} (h : VarsAt W w b s ((x.g1, .cells 3 #[.int .i64 x.s]) :: (x.g2, .cells 3 #[.int .i64 x.n]) :: R)) {v' : Value}
    (hs : Sl w' 64 6 v' (s.notes.length + 1) (rows Nte.cells s.notes ++ x.cells)) (ho : Only (fun i => b.nv.ownBlock = some i) w w') (hv : v'.ownBlock = b.nv.ownBlock ∨ v'.ownBlock = some w.heap.size) :
    Blk w' b.vb 57 #[.map (some b.db), .map (some b.lb), .map (some b.mb), b.nv, .int .i64 s.scope] ∧ VarsAt W (w'.setCell ⟨b.vb, 3, none⟩ v') (b.withNv v') (s.addNote x) R := by
  have hs' : Sl w' 64 6 v' (s.notes ++ [x]).length (rows Nte.cells (s.notes ++ [x])) := by
    rw [rows_append, rows_one]
    simpa using hs
  have h1 : Own W w (noteRow b s ++ (b.head s ++ (entHeap s.defs ++ (locHeap s.locs ++ noteHeap s.notes)) ++ ((x.g1, .cells 3 #[.int .i64 x.s]) :: (x.g2, .cells 3 #[.int .i64 x.n]) :: R))) := by
    refine h.own.perm ?_
    unfold Vst.heap
    simp only [List.append_assoc]
    refine ((((List.perm_append_comm_assoc _ _ _).append_left _).append_left _).append_left _).trans ?_
    refine (((List.perm_append_comm_assoc _ _ _).append_left _).append_left _).trans ?_
    refine ((List.perm_append_comm_assoc _ _ _).append_left _).trans ?_
    exact List.perm_append_comm_assoc _ _ _
  have h2 := h1.appended (n' := (s.notes ++ [x]).length) (xs' := rows Nte.cells (s.notes ++ [x])) hs' ho hv
  have h3 : Own W w' ((b.vb, .cells 57 #[.map (some b.db), .map (some b.lb), .map (some b.mb), b.nv, .int .i64 s.scope]) :: ([(b.db, .map (entPairs s.defs)), (b.lb, .map (locPairs s.locs)), (b.mb, .map (markPairs s.marks))] ++
      (entHeap s.defs ++ (locHeap s.locs ++ (noteHeap (s.notes ++ [x]) ++ rowOf 64 6 v' (s.notes ++ [x]).length (rows Nte.cells (s.notes ++ [x]))))) ++ R)) := by
    rw [noteHeap_snoc]
    exact h2.perm (perm_row _ [_] [_, _, _] _ _ _ [_, _] _)
  refine ⟨h3.blk (List.mem_cons_self ..), ?_, ?_⟩
  · exact h3.setCell 3 v'
  · exact hs'.far (p := ⟨b.vb, 3, none⟩) (hs'.ne_blk (h3.blk (List.mem_cons_self ..)) (by decide)) _
/-- The two look-ups of a local cell. -/
theorem VarsAt.lookups (h : VarsAt W w b s R) (k n : Int) : ∃ mv, (Instr.lookup 53 (.map (some b.lb)) (.int .i64 k) false).run Try.prog w = .ok mv w ∧
    (Instr.lookup 52 mv (.int .i64 n) false).run Try.prog w = .ok (.pointer ((s.lcl k n).map fun e => ⟨e.g, 0, none⟩)) w := by
  have hl := (h.lb).lookup (P := Try.prog) (loc_keys s.locs) Try.underlying53 Try.underlying3 (.int _ k) (zero_map w) false
  rw [loc_get] at hl
  cases hx : fndL s.locs k with
  | none =>
    rw [hx] at hl
    have hm := lookup_nil (P := Try.prog) Try.underlying52 Try.underlying3 (.int .i64 n) (zero_ptr w) false
    refine ⟨.map none, hl, hm.trans ?_⟩
    simp [Vst.lcl, Vst.inner, hx, fnd]
  | some x =>
    rw [hx] at hl
    have hm := (h.loc (fndL_mem hx).1).lookup (P := Try.prog) (ent_keys x.es) Try.underlying52 Try.underlying3 (.int _ n) (zero_ptr w) false
    rw [ent_get] at hm
    refine ⟨.map (some x.g), hl, hm.trans ?_⟩
    simp only [Vst.lcl, Vst.inner, hx, Option.map_some, Option.getD_some]
    cases fnd x.es n <;> rfl

/-- What append leaves of the cells that are loaded. -/
theorem VarsAt.only_cells {d : Cel} {g g1 g2 : Nat} {n sc : Int} (h : VarsAt W w b s ((g1, .cells 3 #[.int .i64 sc]) :: (g2, .cells 3 #[.int .i64 n]) :: R)) (hg : (g, celA d) ∈ s.cellsOf) (ho : Only (fun i => b.nv.ownBlock = some i) w w') :
    w'.cell? ⟨g, 0, none⟩ = some (.int .i64 d.k) ∧ w'.cell? ⟨g, 1, none⟩ = some (.int .i64 d.n) ∧ w'.cell? ⟨g, 2, none⟩ = some (.bool d.b) ∧ w'.cell? ⟨g2, 0, none⟩ = some (.int .i64 n) ∧ w'.cell? ⟨g1, 0, none⟩ = some (.int .i64 sc) := by
  have b1 := (h.cel hg).only ho fun e => h.sl.ne_blk (h.cel hg) (by decide) e
  have k1 := h.own.blk (g := g1) (t := 3) (cs := #[.int .i64 sc]) (by simp)
  have k2 := h.own.blk (g := g2) (t := 3) (cs := #[.int .i64 n]) (by simp)
  have b2 := k1.only ho fun e => h.sl.ne_blk k1 (by decide) e
  have b3 := k2.only ho fun e => h.sl.ne_blk k2 (by decide) e
  exact ⟨b1.cell 0, b1.cell 1, b1.cell 2, b3.cell 0, b2.cell 0⟩

end
end Go.Proofs.Ytempnakdpmmmoaa
