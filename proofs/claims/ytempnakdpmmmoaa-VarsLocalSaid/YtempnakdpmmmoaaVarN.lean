/- The bindings' list: one more, one less. No condition but those written. -/
import Derived.Test.YtempnakdpmmmoaaVarY
namespace Go.Proofs.Ytempnakdpmmmoaa
open Go.RowKit

theorem perm_row (r v m d l n p R : Heap) : (r ++ ((v ++ m) ++ (d ++ (l ++ n)) ++ (p ++ R))).Perm (v ++ (m ++ (d ++ (l ++ ((n ++ p) ++ r))) ++ R)) := by
  simp only [List.append_assoc]
  refine (List.perm_append_comm_assoc _ _ _).trans (List.Perm.append_left _ ?_)
  refine (List.perm_append_comm_assoc _ _ _).trans (List.Perm.append_left _ ?_)
  refine (List.perm_append_comm_assoc _ _ _).trans (List.Perm.append_left _ ?_)
  refine (List.perm_append_comm_assoc _ _ _).trans (List.Perm.append_left _ ?_)
  refine (List.perm_append_comm_assoc _ _ _).trans (List.Perm.append_left _ ?_)
  exact List.perm_append_comm_assoc _ _ _

section
variable {W w w' : World} {b : Vb} {s : Vst} {R : Heap}
def Vst.addNote (s : Vst) (x : Nte) : Vst := { s with notes := s.notes ++ [x] }
def Vb.withNv (b : Vb) (v : Value) : Vb := { b with nv := v }
theorem noteHeap_snoc (l : List Nte) (x : Nte) : noteHeap (l ++ [x]) = noteHeap l ++ [(x.g1, .cells 3 #[.int .i64 x.s]), (x.g2, .cells 3 #[.int .i64 x.n])] := by simp [noteHeap]
theorem VarsAt.addNote {x : Nte} (h : VarsAt W w b s ((x.g1, .cells 3 #[.int .i64 x.s]) :: (x.g2, .cells 3 #[.int .i64 x.n]) :: R)) {v' : Value}
    (hs : Sl w' 64 6 v' (s.notes.length + 1) (rows Nte.cells s.notes ++ x.cells)) (ho : Only (fun i => b.nv.ownBlock = some i) w w') (hv : v'.ownBlock = b.nv.ownBlock ∨ v'.ownBlock = some w.heap.size) :
    Blk w' b.vb 57 #[.map (some b.db), .map (some b.lb), .map (some b.mb), b.nv, .int .i64 s.scope] ∧ VarsAt W (w'.setCell ⟨b.vb, 3, none⟩ v') (b.withNv v') (s.addNote x) R := by
  have hs' : Sl w' 64 6 v' (s.notes ++ [x]).length (rows Nte.cells (s.notes ++ [x])) := by
    rw [rows_append, rows_one]
    simpa using hs
  have h1 : Own W w (noteRow b s ++ (b.head s ++ (entHeap s.defs ++ (locHeap s.locs ++ noteHeap s.notes)) ++ ((x.g1, .cells 3 #[.int .i64 x.s]) :: (x.g2, .cells 3 #[.int .i64 x.n]) :: R))) := by
    refine h.own.perm ?_
    unfold Vst.heap
    simp only [List.append_assoc]
    refine ((((List.perm_append_comm_assoc _ _ _).append_left _).append_left _).append_left _).trans ?_
    refine (((List.perm_append_comm_assoc _ _ _).append_left _).append_left _).trans ?_
    refine ((List.perm_append_comm_assoc _ _ _).append_left _).trans ?_
    exact List.perm_append_comm_assoc _ _ _
  have h2 := h1.appended (n' := (s.notes ++ [x]).length) (xs' := rows Nte.cells (s.notes ++ [x])) hs' ho hv
  have h3 : Own W w' ((b.vb, .cells 57 #[.map (some b.db), .map (some b.lb), .map (some b.mb), b.nv, .int .i64 s.scope]) :: ([(b.db, .map (entPairs s.defs)), (b.lb, .map (locPairs s.locs)), (b.mb, .map (markPairs s.marks))] ++
      (entHeap s.defs ++ (locHeap s.locs ++ (noteHeap (s.notes ++ [x]) ++ rowOf 64 6 v' (s.notes ++ [x]).length (rows Nte.cells (s.notes ++ [x]))))) ++ R)) := by
    rw [noteHeap_snoc]
    exact h2.perm (perm_row _ [_] [_, _, _] _ _ _ [_, _] _)
  refine ⟨h3.blk (List.mem_cons_self ..), ?_, ?_⟩
  · exact h3.setCell 3 v'
  · exact hs'.far (p := ⟨b.vb, 3, none⟩) (hs'.ne_blk (h3.blk (List.mem_cons_self ..)) (by decide)) _
end
end Go.Proofs.Ytempnakdpmmmoaa
