/- A buffer as a list of blocks, and what else is asked. No condition but those written. -/
import Derived.Test.YtnbhejbpofjamaaGreatDoorBkm
import Derived.Test.YtnbhejbpofjamaaGreatDoorBfg
namespace Go.Proofs.YtnbhejbpofjamaaGreatDoor
open Go.RowKit

def zHeap (z : Zb) (s : Bz) : Heap := z.lb.heap (lgS s.tick s.L.length) ++ ((z.bp, .cells 104 (zC z (s.L.length + 1) s.tick (decide (s.tick = 0)) s.r)) :: (zrest z s.p s.q ++ z.gb.heap))
structure ZOk (z : Zb) (s : Bz) : Prop where
  grp : (lgS s.tick s.L.length).G = z.lb.gs.map (·.2)
  okG : RowOk z.lb.gv z.lb.gs.length
  okO : RowOk z.lb.ov (lgS s.tick s.L.length).O.length
  okg : ∀ x ∈ z.lb.gs, RowOk x.1 x.2.length
  okf : RowOk z.gb.fv z.gb.g.F.length
  ok : z.gb.g.Ok s.L
  h0 : s.tick = 0 → s.L = []
theorem zHeap_app (z : Zb) (s : Bz) (R : Heap) : zHeap z s ++ R = z.lb.heap (lgS s.tick s.L.length) ++ ((z.bp, .cells 104 (zC z (s.L.length + 1) s.tick (decide (s.tick = 0)) s.r)) :: (zrest z s.p s.q ++ (z.gb.heap ++ R))) := by
  simp [zHeap, List.append_assoc]
section
variable {W w w' : World} {z : Zb} {s : Bz} {R : Heap}
theorem BufAt.own_ (h : BufAt W w z s R) : Own W w (zHeap z s ++ R) := by rw [zHeap_app]; exact h.at_.own
theorem BufAt.zok (h : BufAt W w z s R) : ZOk z s := ⟨h.at_.log.grp, h.at_.log.okG, h.at_.log.okO, h.at_.log.okg, h.at_.okf, h.at_.ok, h.h0⟩
theorem ZOk.at_ (k : ZOk z s) (h : Own W w (zHeap z s ++ R)) : BufAt W w z s R := by
  rw [zHeap_app] at h
  exact ⟨⟨⟨h, k.grp, k.okG, k.okO, k.okg⟩, k.okf, k.ok⟩, k.h0⟩
theorem zHeap_bp (z : Zb) (s : Bz) : z.bp ∈ Heap.blocks (zHeap z s) := by
  unfold zHeap
  rw [Heap.blocks_append, Heap.blocks_cons]
  exact List.mem_append_right _ (List.mem_cons_self ..)
end
def zsHeap (D : List (Zb × Bz)) : Heap := D.flatMap fun y => zHeap y.1 y.2
theorem zsHeap_cons (y : Zb × Bz) (D : List (Zb × Bz)) : zsHeap (y :: D) = zHeap y.1 y.2 ++ zsHeap D := by simp [zsHeap]
theorem zsHeap_app (D E : List (Zb × Bz)) : zsHeap (D ++ E) = zsHeap D ++ zsHeap E := by simp [zsHeap]
theorem zsHeap_bp {D : List (Zb × Bz)} {y : Zb × Bz} (h : y ∈ D) : y.1.bp ∈ Heap.blocks (zsHeap D) := by
  obtain ⟨A, B, rfl⟩ := List.append_of_mem h
  rw [zsHeap_app, zsHeap_cons, Heap.blocks_append, Heap.blocks_append]
  exact List.mem_append_right _ (List.mem_append_left _ (zHeap_bp _ _))
theorem perm_in (A B C E : Heap) : (A ++ (B ++ (C ++ E))).Perm (C ++ (A ++ (B ++ E))) := by
  classical
  rw [List.perm_iff_count]
  intro x
  simp only [List.count_append]
  omega
/-- The set's own part does not look at what lies beside it. -/
theorem BAt.reR {W w w' : World} {b : Bb} {s : Bst} {R R' : Heap} (h : BAt W w b s R) (ho : Own W w' (s.heap b ++ R')) : BAt W w' b s R' := by
  refine ⟨ho, ?_⟩
  cases hb : b.ov.ownBlock with
  | none =>
    have hs := h.sl
    refine hs.same fun g hg => by rw [hb] at hg; cases hg
  | some g =>
    refine (ho.row (g := g) ?_).2
    simp [Bst.heap, ordRow, rowOf_some hb]
section
variable {W w w' : World} {b : Bb} {s : Bst} {D1 D2 : List (Zb × Bz)} {z z' : Zb} {st st' : Bz}
/-- One buffer is taken out of the row, and laid back. -/
theorem BAt.out (h : BAt W w b s (zsHeap (D1 ++ (z, st) :: D2))) : Own W w (zHeap z st ++ (s.heap b ++ zsHeap (D1 ++ D2))) := by
  have h1 := h.own
  rw [zsHeap_app, zsHeap_cons] at h1
  rw [zsHeap_app]
  exact h1.perm (perm_in _ _ _ _)
theorem BAt.back (h : BAt W w b s (zsHeap (D1 ++ (z, st) :: D2))) (ho : Own W w' (zHeap z' st' ++ (s.heap b ++ zsHeap (D1 ++ D2)))) : BAt W w' b s (zsHeap (D1 ++ (z', st') :: D2)) := by
  refine h.reR ?_
  rw [zsHeap_app] at ho
  rw [zsHeap_app, zsHeap_cons]
  exact ho.perm (perm_in _ _ _ _).symm
end
end Go.Proofs.YtnbhejbpofjamaaGreatDoor
