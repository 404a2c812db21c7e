/- Add: a change joins the open group, or lengthens its last one. No condition but those written. -/
import Derived.Test.YtghcmakhfdnimaaDoorUndC
import Derived.Deep.RegionLaw
import Derived.Deep.RegionHeld3
import Derived.Deep.DeepCutAuto
namespace Go.Proofs.YtghcmakhfdnimaaDoor
open Go.RowKit

section
variable {W w w' : World} {b : Lb} {s : Lg} {R : Heap}
/-- The same blocks, the open group's row first. -/
theorem LogAt.toO (h : LogAt W w b s R) : Own W w (chgRow b.ov s.O ++ ((b.lb, .cells 77 (logCells b s)) :: (rowOf 40 1 b.gv b.gs.length (b.gs.map (·.1)) ++ (grpHeap b.gs ++ R)))) := by
  refine h.own.perm ?_
  unfold Lb.heap
  classical
  rw [List.perm_iff_count]
  intro x
  simp only [List.count_append, List.count_cons]
  omega
theorem LogAt.ofO {v : Value} {O : List Chg} {cs : Array Value} (ho : Own W w (chgRow v O ++ ((b.lb, .cells 77 cs) :: (rowOf 40 1 b.gv b.gs.length (b.gs.map (·.1)) ++ (grpHeap b.gs ++ R))))) (hg : s.G = b.gs.map (·.2)) (h1 : RowOk b.gv b.gs.length) (h2 : RowOk v s.O.length) (h3 : ∀ x ∈ b.gs, RowOk x.1 x.2.length) (hO : s.O = O) (hc : cs = logCells { b with ov := v } s) : LogAt W w { b with ov := v } s R := by
  subst hO hc
  refine ⟨ho.perm ?_, hg, h1, h2, h3⟩
  unfold Lb.heap
  classical
  rw [List.perm_iff_count]
  intro x
  simp only [List.count_append, List.count_cons]
  omega
/-- A field of the log is written. -/
theorem LogAt.setCell {i : Nat} {u : Value} {s' : Lg} (h : LogAt W w b s R) (hc : (logCells b s).setIfInBounds i u = logCells b s') (hO : s'.O = s.O) (hG : s'.G = s.G) : LogAt W (w.setCell ⟨b.lb, i, none⟩ u) b s' R := by
  have h1 := h.own
  unfold Lb.heap at h1
  have h2 := h1.setCell i u
  rw [hc] at h2
  refine ⟨?_, by rw [hG]; exact h.grp, h.okG, by rw [hO]; exact h.okO, h.okg⟩
  unfold Lb.heap
  rw [hO]
  exact h2
/-- What append to the open group leaves, stored back. -/
theorem LogAt.pushed {v' : Value} {c : Chg} (h : LogAt W w b s R) (hs : Sl w' 51 9 v' (s.O.length + 1) (rows Chg.cells s.O ++ c.cells)) (ho : Only (fun g => b.ov.ownBlock = some g) w w') (hv : v'.ownBlock = b.ov.ownBlock ∨ v'.ownBlock = some w.heap.size) :
    Blk w' b.lb 77 (logCells b s) ∧ LogAt W (w'.setCell ⟨b.lb, 2, none⟩ v') { b with ov := v' } { s with O := s.O ++ [c] } R := by
  have e : rows Chg.cells s.O ++ c.cells = rows Chg.cells (s.O ++ [c]) := by rw [rows_append, rows_one]
  have el : (s.O ++ [c]).length = s.O.length + 1 := by simp
  rw [e] at hs
  have h1 := h.toO
  unfold chgRow at h1
  have h2 := h1.appended hs ho hv
  have hb : Blk w' b.lb 77 (logCells b s) := h2.blk (by simp)
  have h3 : Own W w' (((b.lb, .cells 77 (logCells b s)) :: (rowOf 40 1 b.gv b.gs.length (b.gs.map (·.1)) ++ (grpHeap b.gs ++ R))) ++ rowOf 51 9 v' (s.O.length + 1) (rows Chg.cells (s.O ++ [c]))) := h2.perm List.perm_append_comm
  have h4 := h3.setCell 2 v'
  refine ⟨hb, LogAt.ofO (O := s.O ++ [c]) (cs := (logCells b s).setIfInBounds 2 v') ?_ h.grp h.okG ?_ h.okg rfl rfl⟩
  · unfold chgRow
    rw [el]
    exact (show Own W _ (((b.lb, .cells 77 ((logCells b s).setIfInBounds 2 v')) :: (rowOf 40 1 b.gv b.gs.length (b.gs.map (·.1)) ++ (grpHeap b.gs ++ R))) ++ rowOf 51 9 v' (s.O.length + 1) (rows Chg.cells (s.O ++ [c]))) from h4).perm List.perm_append_comm
  · show RowOk v' (s.O ++ [c]).length
    rw [el]
    exact hs.rowOk
/-- The field To of an element of the open group is written. -/
theorem LogAt.setTo {g off c i : Nat} {x : Chg} {t : Int} (h : LogAt W w b s R) (hv : b.ov = .slice (some ⟨g, off, none⟩) s.O.length c) (hx : s.O[i]? = some x) : LogAt W (w.setCell ⟨g, off + i * 9 + 2, none⟩ (.int .i64 t)) b { s with O := s.O.set i { x with t := t } } R := by
  have h1 := h.toO
  unfold chgRow at h1
  rw [rowOf_some (v := b.ov) (g := g) (by rw [hv]; rfl), hv] at h1
  have hi : i < s.O.length := (List.getElem?_eq_some_iff.1 hx).1
  have hj : i * 9 + 2 < (rows Chg.cells s.O).length := by rw [rows_len chg_len]; omega
  have h2 := h1.setRow (i * 9 + 2) hj (.int .i64 t)
  rw [rows_set chg_len { x with t := t } 2 (.int .i64 t) s.O i x hx (by omega) rfl] at h2
  rw [Nat.add_assoc]
  have hb : b = { b with ov := b.ov } := rfl
  rw [hb]
  refine LogAt.ofO (O := s.O.set i { x with t := t }) (cs := logCells b s) ?_ h.grp h.okG ?_ h.okg rfl rfl
  · unfold chgRow
    rw [rowOf_some (v := b.ov) (g := g) (by rw [hv]; rfl), hv, List.length_set]
    exact h2
  · show RowOk b.ov (s.O.set i _).length
    rw [List.length_set]
    exact h.okO
end
end Go.Proofs.YtghcmakhfdnimaaDoor
