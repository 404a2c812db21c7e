/- Unbind where all bindings are of the default. No condition but those written. -/
import Derived.Test.YtempnakdpmmmoaaVarU
namespace Go.Proofs.Ytempnakdpmmmoaa
open Go.RowKit
attribute [local go_sem] neq_cells

def Vst.withNotes (s : Vst) (l : List Nte) : Vst := { s with notes := l }
section
variable {W w w' : World} {b : Vb} {s : Vst} {R : Heap}
/-- The last binding is taken off: its cells beside. -/
theorem VarsAt.cut (h : VarsAt W w b s R) {l : List Nte} {x : Nte} (hn : s.notes = l ++ [x]) {A : Option Addr} {c : Nat} (hv : b.nv = .slice A s.notes.length c) :
    VarsAt W (w.setCell ⟨b.vb, 3, none⟩ (.slice A l.length c)) (b.withNv (.slice A l.length c)) (s.withNotes l) ((x.g1, .cells 3 #[.int .i64 x.s]) :: (x.g2, .cells 3 #[.int .i64 x.n]) :: R) := by
  have hlen : s.notes.length = l.length + 1 := by rw [hn]; simp
  have hsl := h.sl
  rw [hv] at hsl
  have hcut := hsl.cut (m := l.length) (by omega)
  rw [rows_take nte_len, hn, List.take_left' rfl] at hcut
  have hown : (Value.slice A l.length c).ownBlock = b.nv.ownBlock := by rw [hv]; cases A <;> rfl
  have h0 := h.own
  unfold Vst.heap noteRow at h0
  rw [hn, noteHeap_snoc, ← hn] at h0
  have h2 := h0.perm (perm_row (rowOf 64 6 b.nv s.notes.length (rows Nte.cells s.notes)) [_] [_, _, _] (entHeap s.defs) (locHeap s.locs) (noteHeap l) [_, _] R).symm
  have h3 := h2.appended (v' := .slice A l.length c) (n' := l.length) (xs' := rows Nte.cells l) (w' := w) hcut (Only.refl _ w) (.inl hown)
  have h4 : Own W w ((b.vb, .cells 57 #[.map (some b.db), .map (some b.lb), .map (some b.mb), b.nv, .int .i64 s.scope]) :: (([(b.db, .map (entPairs s.defs)), (b.lb, .map (locPairs s.locs)), (b.mb, .map (markPairs s.marks))] ++
      (entHeap s.defs ++ (locHeap s.locs ++ (noteHeap l ++ rowOf 64 6 (.slice A l.length c) l.length (rows Nte.cells l))))) ++ ((x.g1, .cells 3 #[.int .i64 x.s]) :: (x.g2, .cells 3 #[.int .i64 x.n]) :: R))) := by
    refine h3.perm ?_
    have hp := perm_row (rowOf 64 6 (.slice A l.length c) l.length (rows Nte.cells l)) [(b.vb, .cells 57 #[.map (some b.db), .map (some b.lb), .map (some b.mb), b.nv, .int .i64 s.scope])] [(b.db, .map (entPairs s.defs)), (b.lb, .map (locPairs s.locs)), (b.mb, .map (markPairs s.marks))] (entHeap s.defs) (locHeap s.locs) (noteHeap l) [] ([(x.g1, .cells 3 #[.int .i64 x.s]), (x.g2, .cells 3 #[.int .i64 x.n])] ++ R)
    rw [List.append_nil] at hp
    exact hp
  refine ⟨h4.setCell 3 (.slice A l.length c), ?_⟩
  exact hcut.far (p := ⟨b.vb, 3, none⟩) (fun e => hsl.ne_blk h.vb (by decide) (by rw [← e]; cases A <;> rfl)) _
end
end Go.Proofs.Ytempnakdpmmmoaa
