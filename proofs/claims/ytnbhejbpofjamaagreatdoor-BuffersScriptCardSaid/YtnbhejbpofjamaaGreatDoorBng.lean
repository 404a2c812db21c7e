/- A buffer is copied: the walk. No condition but those written. -/
import Derived.Test.YtnbhejbpofjamaaGreatDoorBnf
import Derived.Deep.WholeRow
namespace Go.Proofs.YtnbhejbpofjamaaGreatDoor
open Go.RowKit

theorem clone_exc (w : World) : Calls Tryz.prog 89 #[.slice none 0 0] w fun e w' => e = .returned (.slice none 0 0) ∧ w = w' := by
  have hq : ∀ (w : World) (p : Option Addr) (n c : Nat), (binOp .eql 102 (.slice p n c) (.slice none 0 0)).run Tryz.prog w = .ok (.bool p.isNone) w := by
    intro w p n c
    simp only [binOp]
    simp [show Op.equal 102 (.slice p n c) (.slice none 0 0) = Op.equalIn (9999 + 1) 102 (.slice p n c) (.slice none 0 0) from rfl, run_equalIn_slice_nil w 9999 102 _ p n c Tryz.underlying102]
  go_enter Tryz.func89, Tryz.ntmps89
  go_wp2_with (rw [hq])
  go_ret
  exact ⟨rfl, rfl⟩
def CopyB (W w : World) (z : Zb) (s : Bz) (X : Heap) (e : Ending) (w' : World) : Prop := ∃ z2 : Zb, e = .returned (.pointer (some ⟨z2.bp, 0, none⟩)) ∧ Own W w' (zHeap z s ++ (zHeap z2 s ++ X)) ∧ ZOk z2 s ∧ Below w.heap.size w w'
section
variable {W w w' : World} {z : Zb} {s : Bz} {X : Heap}
/-- The cells of the parts. -/
def Parts (z : Zb) (y : World) : Prop := y.cell? ⟨z.bp, 9, none⟩ = some (.pointer (some ⟨z.gb.tb, 0, none⟩)) ∧ y.cell? ⟨z.bp, 10, none⟩ = some (.pointer (some ⟨z.mks, 0, none⟩)) ∧ y.cell? ⟨z.bp, 11, none⟩ = some (.pointer (some ⟨z.pr, 0, none⟩)) ∧ y.cell? ⟨z.bp, 12, none⟩ = some (.pointer (some ⟨z.ov, 0, none⟩)) ∧ y.cell? ⟨z.bp, 13, none⟩ = some (.pointer (some ⟨z.lb.lb, 0, none⟩))
theorem parts_of (ho : Own W w (zHeap z s ++ X)) : Parts z w := by
  have hb : Blk w z.bp 104 (zC z (s.L.length + 1) s.tick (decide (s.tick = 0)) s.r) := ho.blk (by simp [zHeap])
  exact ⟨(hb.cell 9).trans rfl, (hb.cell 10).trans rfl, (hb.cell 11).trans rfl, (hb.cell 12).trans rfl, (hb.cell 13).trans rfl⟩
abbrev zCells (z : Zb) (s : Bz) : Array Value := zC z (s.L.length + 1) s.tick (decide (s.tick = 0)) s.r
theorem set_keep {y : World} {ob i : Nat} {v u : Value} {p : Addr} (hne : p.block ≠ ob) (h : y.cell? p = some u) : (y.setCell ⟨ob, i, none⟩ v).cell? p = some u := by
  rw [World.cell?_setCell_other, h]
  rintro rfl
  exact hne rfl
theorem blk_parts {y : World} {g : Nat} (hb : Blk y g 104 (zCells z s)) : y.cell? ⟨g, 9, none⟩ = some (.pointer (some ⟨z.gb.tb, 0, none⟩)) ∧ y.cell? ⟨g, 10, none⟩ = some (.pointer (some ⟨z.mks, 0, none⟩)) ∧ y.cell? ⟨g, 11, none⟩ = some (.pointer (some ⟨z.pr, 0, none⟩)) ∧ y.cell? ⟨g, 12, none⟩ = some (.pointer (some ⟨z.ov, 0, none⟩)) ∧ y.cell? ⟨g, 13, none⟩ = some (.pointer (some ⟨z.lb.lb, 0, none⟩)) ∧ y.cell? ⟨g, 17, none⟩ = some (.slice none 0 0) := ⟨(hb.cell 9).trans rfl, (hb.cell 10).trans rfl, (hb.cell 11).trans rfl, (hb.cell 12).trans rfl, (hb.cell 13).trans rfl, (hb.cell 17).trans rfl⟩
theorem zHeap_mk (ob : Nat) (b2 : Gb) (k2 m2 p2 o2 : Nat) (l2 : Lb) (s : Bz) : zHeap ⟨ob, b2, k2, m2, p2, o2, l2⟩ s = l2.heap (lgS s.tick s.L.length) ++ ((ob, .cells 104 (zCells ⟨ob, b2, k2, m2, p2, o2, l2⟩ s)) :: ([(k2, .cells 172 #[.map (some m2), .int .i64 0]), (m2, .map []), (p2, .cells 181 prC), (o2, .cells 184 (ovC s.p s.q))] ++ b2.heap)) := rfl
theorem zCells_size (z : Zb) (s : Bz) : (Tryz.prog.info? 104).map (·.size) = some (zCells z s).size := by
  show (Tryz.prog.info? 104).map (·.size) = some 19
  kernel_rfl
theorem zCells_one (z : Zb) (s : Bz) : (zCells z s).all (·.oneCell') = true := by
  unfold zCells zC bzC
  simp [Value.oneCell']
set_option maxRecDepth 100000 in
set_option maxHeartbeats 16000000 in
theorem zcopy_any (k : ZOk z s) (ho : Own W w (zHeap z s ++ X)) : Calls Tryz.prog 65 #[.pointer (some ⟨z.bp, 0, none⟩)] w (CopyB W w z s X) := by
  have hb : Blk w z.bp 104 (zCells z s) := ho.blk (by simp [zHeap])
  have HN := hide (znone_any w hb)
  have HO := hide ho
  have HK := hide k
  have hne : z.bp ≠ w.heap.size := by have := hb.lt; omega
  obtain ⟨cs, hcs⟩ : ∃ cs, cs = zCells z s := ⟨_, rfl⟩
  have HSZ := hide (zCells_size z s)
  have HON := hide (zCells_one z s)
  have HHB := hide (show w.heap[z.bp]? = some (.cells (zCells z s) 104 (0, 0)) from hb)
  have HS19 := hide (show 19 = (zCells z s).size from rfl)
  rw [← hcs] at HSZ HON HHB HS19
  have HCS := hide hcs
  have H0 := hide ((ho.newCells 104 cs).perm List.perm_middle.symm)
  clear k ho hb hcs
  go_enter Tryz.func65, Tryz.ntmps65
  go_wp2_with fail
  refine (Calls.mono HN.out) ?_
  rintro r w2 ⟨rfl, rfl⟩
  go_wp2_with (first
    | (refine wpList_load_row rfl 104 (.tmp 7) rfl z.bp rfl 104 cs (0, 0) _ HHB.out Tryz.underlying104 rfl HSZ.out ?_)
    | (refine wpList_store_row rfl 104 (.tmp 3) (.tmp 8) rfl w.heap.size cs rfl rfl 104 _ (heap_alloc_new _ _) HSZ.out HS19.out HON.out ?_; rw [World.setRow_alloc_new]))
  obtain ⟨ob, hob⟩ : ∃ ob, ob = w.heap.size := ⟨_, rfl⟩
  obtain ⟨w1, hw1⟩ : ∃ y : World, y = w.alloc (.cells cs 104) := ⟨_, rfl⟩
  rw [← hob] at H0 hne ⊢
  rw [← hw1] at H0 ⊢
  simp only [Act.put]
  have O0 := hide H0.out.drew
  have HOB := hide (show w.heap.size ≤ ob by omega)
  have B0 := hide (show Below w.heap.size w w1.drew by rw [hw1]; exact ((Below.refl _ w).alloc (Nat.le_refl _) _).drew)
  have PT := hide (fun (y : World) (X : Heap) (h : Own W y (zHeap z s ++ X)) => (show y.cell? ⟨z.bp, 9, none⟩ = some (.pointer (some ⟨z.gb.tb, 0, none⟩)) ∧ y.cell? ⟨z.bp, 10, none⟩ = some (.pointer (some ⟨z.mks, 0, none⟩)) ∧ y.cell? ⟨z.bp, 11, none⟩ = some (.pointer (some ⟨z.pr, 0, none⟩)) ∧ y.cell? ⟨z.bp, 12, none⟩ = some (.pointer (some ⟨z.ov, 0, none⟩)) ∧ y.cell? ⟨z.bp, 13, none⟩ = some (.pointer (some ⟨z.lb.lb, 0, none⟩)) from parts_of h))
  obtain ⟨c0, c1, c2, c3, c4⟩ := PT.out _ _ H0.out
  clear hw1 hob HN HSZ HS19 HON HHB HO
  go_region_held3 (fun y => y.cell? ⟨z.bp, 9, none⟩ = some (.pointer (some ⟨z.gb.tb, 0, none⟩)) ∧ y.cell? ⟨z.bp, 10, none⟩ = some (.pointer (some ⟨z.mks, 0, none⟩)) ∧ y.cell? ⟨z.bp, 11, none⟩ = some (.pointer (some ⟨z.pr, 0, none⟩)) ∧ y.cell? ⟨z.bp, 12, none⟩ = some (.pointer (some ⟨z.ov, 0, none⟩)) ∧ y.cell? ⟨z.bp, 13, none⟩ = some (.pointer (some ⟨z.lb.lb, 0, none⟩)))
    (first | with_reducible exact PT.out _ _ O0.out | with_reducible exact PT.out _ _ O1.out | with_reducible exact PT.out _ _ O2.out | with_reducible exact PT.out _ _ O3.out | with_reducible exact PT.out _ _ O4.out | with_reducible exact PT.out _ _ O5.out | (obtain ⟨s0, s1, s2, s3, s4⟩ := PT.out _ _ O5.out; refine ⟨?_, ?_, ?_, ?_, ?_⟩ <;> (repeat' (first | with_reducible assumption | with_reducible refine set_keep hne ?_))))
    (first
      | (go_at_call 84; (with_reducible refine Calls.mono (zcopyT HK.out O0.out) ?_); rintro r y1 ⟨b2, rfl, h1, g1, m1⟩; have O1 := hide h1; have G1 := hide g1; have B1 := hide (B0.out.trans (m1.mono B0.out.size)); clear h1 g1 m1)
      | (go_at_call 85; (with_reducible refine Calls.mono (zcopyM HK.out O1.out) ?_); rintro r y2 ⟨k2, m2, rfl, h2, n2⟩; have O2 := hide h2; have B2 := hide (B1.out.trans (n2.mono B1.out.size)); clear h2 n2)
      | (go_at_call 86; (with_reducible refine Calls.mono (zcopyP HK.out O2.out) ?_); rintro r y3 ⟨p2, rfl, h3, n3⟩; have O3 := hide h3; have B3 := hide (B2.out.trans (n3.mono B2.out.size)); clear h3 n3)
      | (go_at_call 87; (with_reducible refine Calls.mono (zcopyO HK.out O3.out) ?_); rintro r y4 ⟨o2, rfl, h4, n4⟩; have O4 := hide h4; have B4 := hide (B3.out.trans (n4.mono B3.out.size)); clear h4 n4)
      | (go_at_call 88; (with_reducible refine Calls.mono (zcopyL HK.out O4.out) ?_); rintro r y5 ⟨l2, rfl, h5, q1, q2, q3, n5⟩; have O5 := hide h5; have B5 := hide (B4.out.trans (n5.mono B4.out.size)); have G5 := hide (show _ ∧ _ ∧ _ from ⟨q1, q2, q3⟩); clear h5 q1 q2 q3 n5; have kb := O5.out.blk (g := ob) (t := 104) (cs := cs) (by simp); obtain ⟨k9, k10, k11, k12, k13, k17⟩ := blk_parts (HCS.out ▸ kb); have f9 := kb.frozen 9; have f10 := kb.frozen 10; have f11 := kb.frozen 11; have f12 := kb.frozen 12; have f13 := kb.frozen 13; have f17 := kb.frozen 17; clear kb))
  obtain ⟨y6, hy6⟩ : ∃ y : World, y = (((((y5.setCell ⟨ob, 9, none⟩ (.pointer (some ⟨b2.tb, 0, none⟩))).setCell ⟨ob, 10, none⟩ (.pointer (some ⟨k2, 0, none⟩))).setCell ⟨ob, 11, none⟩ (.pointer (some ⟨p2, 0, none⟩))).setCell ⟨ob, 12, none⟩ (.pointer (some ⟨o2, 0, none⟩))).setCell ⟨ob, 13, none⟩ (.pointer (some ⟨l2.lb, 0, none⟩))) := ⟨_, rfl⟩
  rw [← hy6]
  have h6 := (O5.out.perm (R := (ob, .cells 104 cs) :: (zHeap z s ++ (l2.heap (lgS s.tick s.L.length) ++ ([(o2, .cells 184 (ovC s.p s.q))] ++ ([(p2, .cells 181 prC)] ++ ([(k2, .cells 172 #[.map (some m2), .int .i64 0]), (m2, .map [])] ++ (b2.heap ++ X))))))) (by
    classical
    rw [List.perm_iff_count]
    intro x
    simp only [List.count_append, List.count_cons, List.count_nil]
    omega))
  have h7 := ((((h6.setCell 9 (.pointer (some ⟨b2.tb, 0, none⟩))).setCell 10 (.pointer (some ⟨k2, 0, none⟩))).setCell 11 (.pointer (some ⟨p2, 0, none⟩))).setCell 12 (.pointer (some ⟨o2, 0, none⟩))).setCell 13 (.pointer (some ⟨l2.lb, 0, none⟩))
  rw [← hy6] at h7
  have hcs2 : ((((cs.setIfInBounds 9 (.pointer (some ⟨b2.tb, 0, none⟩))).setIfInBounds 10 (.pointer (some ⟨k2, 0, none⟩))).setIfInBounds 11 (.pointer (some ⟨p2, 0, none⟩))).setIfInBounds 12 (.pointer (some ⟨o2, 0, none⟩))).setIfInBounds 13 (.pointer (some ⟨l2.lb, 0, none⟩)) = zCells ⟨ob, b2, k2, m2, p2, o2, l2⟩ s := by rw [HCS.out]; rfl
  rw [hcs2] at h7
  have hbz : Blk y6 z.bp 104 (zCells z s) := h7.blk (by simp [zHeap])
  have hbo : Blk y6 ob 104 (zCells ⟨ob, b2, k2, m2, p2, o2, l2⟩ s) := h7.blk (by simp)
  have n17 : y6.cell? ⟨z.bp, 17, none⟩ = some (.slice none 0 0) := (hbz.cell 17).trans rfl
  have m17 : y6.cell? ⟨ob, 17, none⟩ = some (.slice none 0 0) := (hbo.cell 17).trans rfl
  have g17 := hbo.frozen 17
  have h8 := h7.setCell 17 (.slice none 0 0)
  rw [show (zCells ⟨ob, b2, k2, m2, p2, o2, l2⟩ s).setIfInBounds 17 (.slice none 0 0) = zCells ⟨ob, b2, k2, m2, p2, o2, l2⟩ s from rfl] at h8
  have H8 := hide h8
  clear h8
  have HB6 := hide (show Below w.heap.size w (y6.setCell ⟨ob, 17, none⟩ (.slice none 0 0)) from by rw [hy6]; exact (((((B5.out.setCell (p := ⟨ob, 9, none⟩) HOB.out _).setCell (p := ⟨ob, 10, none⟩) HOB.out _).setCell (p := ⟨ob, 11, none⟩) HOB.out _).setCell (p := ⟨ob, 12, none⟩) HOB.out _).setCell (p := ⟨ob, 13, none⟩) HOB.out _).setCell (p := ⟨ob, 17, none⟩) HOB.out _)
  clear h6 h7 hy6 hbz hbo hcs2 k9 k10 k11 k12 k13 k17 f9 f10 f11 f12 f13 f17
  go_wp2_with (go_at_call 89; refine (Calls.mono (clone_exc _)) ?_; rintro r w9 ⟨rfl, rfl⟩)
  go_ret
  refine ⟨⟨ob, b2, k2, m2, p2, o2, l2⟩, rfl, H8.out.perm ?_, ⟨?_, G5.out.2.1, G5.out.2.2, ?_, G1.out.okf, G1.out.ok, HK.out.h0⟩, HB6.out⟩
  · rw [zHeap_mk ob b2 k2 m2 p2 o2 l2 s]
    classical
    rw [List.perm_iff_count]
    intro x
    simp only [List.count_append, List.count_cons, List.count_nil]
    omega
  · show (lgS s.tick s.L.length).G = l2.gs.map (·.2)
    rw [lgS_G, G5.out.1]; rfl
  · show ∀ x ∈ l2.gs, RowOk x.1 x.2.length
    rw [G5.out.1]
    intro x hx
    cases hx
end
end Go.Proofs.YtnbhejbpofjamaaGreatDoor
