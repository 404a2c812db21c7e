/- The reference's log in memory, as the same state. No condition but those written. -/
import Derived.Test.YtghcmakhfdnimaaDoorUndQ
namespace Go.Proofs.YtghcmakhfdnimaaDoor
open Go.RowKit

def refCells (b : Lb) (s : Lg) : Array Value := #[b.gv, b.ov, .int .i64 s.lim, .int .i64 s.ch, .int .i64 (s.cost - s.now), .int .i64 s.now]
def Lb.rheap (b : Lb) (s : Lg) : Heap := (b.lb, .cells 90 (refCells b s)) :: (rowOf 40 1 b.gv b.gs.length (b.gs.map (·.1)) ++ (chgRow b.ov s.O ++ grpHeap b.gs))
/-- The reference's log lies in memory as s says, beside R. -/
structure RefAt (W w : World) (b : Lb) (s : Lg) (R : Heap) : Prop where
  own : Own W w (b.rheap s ++ R)
  ok : LbOk b s
section
variable {W w w' : World} {b b2 : Lb} {s s2 : Lg} {R : Heap}
theorem RefAt.re (h : RefAt W w b s R) (ho : Own W w' (b.rheap s ++ R)) : RefAt W w' b s R := ⟨ho, h.ok⟩
theorem RefAt.below (h : RefAt W w b s R) (hb : Below w.heap.size w w') : RefAt W w' b s R := h.re (h.own.below hb)
theorem RefAt.drew (h : RefAt W w b s R) : RefAt W w.drew b s R := h.re h.own.drew
theorem RefAt.drewN (h : RefAt W w b s R) (n : Nat) : RefAt W (w.drewN n) b s R := h.re (h.own.drewN n)
theorem RefAt.skip (h : RefAt W w b s R) (o : Obj) : RefAt W (w.alloc o) b s R := h.re (h.own.skip o)
theorem RefAt.sub {R' : Heap} (h : RefAt W w b s R) (hs : R'.Sublist R) : RefAt W w b s R' := ⟨h.own.sub (List.Sublist.append (List.Sublist.refl _) hs), h.ok⟩
theorem RefAt.perm {R' : Heap} (h : RefAt W w b s R) (hs : R.Perm R') : RefAt W w b s R' := ⟨h.own.perm (List.Perm.append_left _ hs), h.ok⟩
theorem RefAt.blk (h : RefAt W w b s R) : Blk w b.lb 90 (refCells b s) := h.own.blk (by simp [Lb.rheap])
theorem RefAt.slG (h : RefAt W w b s R) : Sl w 40 1 b.gv b.gs.length (b.gs.map (·.1)) :=
  h.own.slOf (fun x hx => by simp [Lb.rheap]; exact .inr (.inl hx)) (by simp) h.ok.okG
theorem RefAt.slO (h : RefAt W w b s R) : Sl w 51 9 b.ov s.O.length (rows Chg.cells s.O) :=
  h.own.slOf (fun x hx => by simp [Lb.rheap, chgRow]; exact .inr (.inr (.inl hx))) (by rw [rows_len chg_len]) h.ok.okO
theorem RefAt.slg (h : RefAt W w b s R) {x : Value × List Chg} (hx : x ∈ b.gs) : Sl w 51 9 x.1 x.2.length (rows Chg.cells x.2) :=
  h.own.slOf (fun y hy => by simp [Lb.rheap]; exact .inr (.inr (.inr (.inl (List.mem_flatMap.2 ⟨x, hx, hy⟩))))) (by rw [rows_len chg_len]) (h.ok.okg x hx)
theorem RefAt.len (h : RefAt W w b s R) : s.G.length = b.gs.length := by rw [h.ok.grp]; simp
theorem RefAt.c0 (h : RefAt W w b s R) : w.cell? ⟨b.lb, 0, none⟩ = some b.gv := by rw [h.blk.cell]; rfl
theorem RefAt.c1 (h : RefAt W w b s R) : w.cell? ⟨b.lb, 1, none⟩ = some b.ov := by rw [h.blk.cell]; rfl
theorem RefAt.c2 (h : RefAt W w b s R) : w.cell? ⟨b.lb, 2, none⟩ = some (.int .i64 s.lim) := by rw [h.blk.cell]; rfl
theorem RefAt.c3 (h : RefAt W w b s R) : w.cell? ⟨b.lb, 3, none⟩ = some (.int .i64 s.ch) := by rw [h.blk.cell]; rfl
theorem RefAt.c4 (h : RefAt W w b s R) : w.cell? ⟨b.lb, 4, none⟩ = some (.int .i64 (s.cost - s.now)) := by rw [h.blk.cell]; rfl
theorem RefAt.c5 (h : RefAt W w b s R) : w.cell? ⟨b.lb, 5, none⟩ = some (.int .i64 s.now) := by rw [h.blk.cell]; rfl
/-- The own log's view, beside the reference's, and back. -/
theorem RefAt.toLog (h : RefAt W w b s (b2.heap s2 ++ R)) (k : LbOk b2 s2) : LogAt W w b2 s2 (b.rheap s ++ R) := by
  refine LogAt.ofOwn (h.own.perm ?_) k
  classical
  rw [List.perm_iff_count]
  intro x
  simp only [List.count_append]
  omega
theorem LogAt.toRef (h : LogAt W w b s (b2.rheap s2 ++ R)) (k : LbOk b2 s2) : RefAt W w b2 s2 (b.heap s ++ R) := by
  refine ⟨h.own.perm ?_, k⟩
  classical
  rw [List.perm_iff_count]
  intro x
  simp only [List.count_append]
  omega
theorem RefAt.new (L : Heap) (h : Own W w L) (lim : Int) : RefAt W (w.alloc (.cells #[.slice none 0 0, .slice none 0 0, .int .i64 lim, .int .i64 (-1), .int .i64 0, .int .i64 0] 90)) ⟨w.heap.size, .slice none 0 0, .slice none 0 0, []⟩ (Lg.new lim) L :=
  ⟨h.newCells _ _, new_lbok _ _⟩
end
end Go.Proofs.YtghcmakhfdnimaaDoor
