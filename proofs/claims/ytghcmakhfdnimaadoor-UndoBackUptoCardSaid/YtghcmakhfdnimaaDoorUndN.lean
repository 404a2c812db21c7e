/- The walk of the examples of the chapter. No condition but those written. -/
import Derived.Test.YtghcmakhfdnimaaDoorUndM
namespace Go.Proofs.YtghcmakhfdnimaaDoor
open Go.RowKit

theorem sized_small {s : Lg} {n : Nat} (h : Sized s n) (hn : n ≤ 100000) : Small s := h.small hn
theorem gd0 : Good (Lg.new 100) := Good.new (by omega) (by omega)
theorem gd1 : Good ⟨100, [], [insC 1 3], -1, 1, 1⟩ := lv1 ▸ gd0.add _
theorem gd2 : Good ⟨100, [], [insC 1 4], -1, 1, 1⟩ := lv2 ▸ gd1.add _
theorem gd3 : Good ⟨100, [[insC 1 4]], [], -1, 1, 0⟩ := lv3 ▸ gd2.close
theorem gd4 : Good ⟨100, [[insC 1 4]], [remC 2 bB], -1, 3, 2⟩ := lv4 ▸ gd3.add _
theorem gd5 : Good ⟨100, [[insC 1 4], [remC 2 bB]], [], 1, 3, 0⟩ := lv5 ▸ gd4.undo _
theorem gd6 : Good ⟨100, [[insC 1 4], [remC 2 bB]], [], 0, 3, 0⟩ := lv6 ▸ gd5.undo _
theorem tx1 (a t : Int) : (insC a t).tx.size ≤ 200 := Nat.zero_le _
theorem tx2 : (remC 2 bB).tx.size ≤ 200 := by decide
theorem sz0 : Sized (Lg.new 100) 0 := Sized.new 100
theorem sz1 : Sized ⟨100, [], [insC 1 3], -1, 1, 1⟩ 1 := lv1 ▸ sz0.add (tx1 _ _)
theorem sz2 : Sized ⟨100, [], [insC 1 4], -1, 1, 1⟩ 2 := lv2 ▸ sz1.add (tx1 _ _)
theorem sz3 : Sized ⟨100, [[insC 1 4]], [], -1, 1, 0⟩ 2 := lv3 ▸ sz2.close gd2
theorem sz4 : Sized ⟨100, [[insC 1 4]], [remC 2 bB], -1, 3, 2⟩ 3 := lv4 ▸ sz3.add tx2
theorem sz5 : Sized ⟨100, [[insC 1 4], [remC 2 bB]], [], 1, 3, 0⟩ 3 := lv5 ▸ sz4.undo gd4 _
theorem sz6 : Sized ⟨100, [[insC 1 4], [remC 2 bB]], [], 0, 3, 0⟩ 3 := lv6 ▸ sz5.undo gd5 _
/-- A list of one change in a block. -/
theorem rd_chg (w : World) (c : Chg) : Rd (w.alloc (.cells c.cells.toArray 51)) (.slice (some ⟨w.heap.size, 0, none⟩) 1 1) 9 [c].length (rows Chg.cells [c]) := by
  rw [rows_one]
  exact rd_elem w _ 9 c.cells rfl
theorem Rd.allocR {w : World} {v : Value} {k n : Nat} {xs : List Value} (h : Rd w v k n xs) (o : Obj) : Rd (w.alloc o) v k n xs := h.only ((Only.refl (fun _ => False) w).alloc o) fun _ _ f => f
theorem Rd.drewNR {w : World} {v : Value} {k n : Nat} {xs : List Value} (h : Rd w v k n xs) (q : Nat) : Rd (w.drewN q) v k n xs := h
theorem Rd.belowR {w w' : World} {v : Value} {k n : Nat} {xs : List Value} (h : Rd w v k n xs) (hb : Below w.heap.size w w') : Rd w' v k n xs := h.only (Only.of_below hb) fun _ _ f => f
section
variable {W w w' : World} {b : Lb} {s : Lg} {R : Heap}
theorem LogAt.rdC {v : Value} {l : List Chg} (h : LogAt W w b s (chgRow v l ++ R)) (ok : RowOk v l.length) : Rd w v 9 l.length (rows Chg.cells l) := (h.slC ok).rd
end
set_option maxRecDepth 100000 in
set_option maxHeartbeats 4000000 in
theorem lives_any (w : World) (hT : Rules w) : Calls Tryd.prog 9 #[] w fun e w' => e = .returned (.bool true) ∧ Below w.heap.size w w' := by
  have HT := hide hT
  clear hT
  go_enter Tryd.func9, Tryd.ntmps9
  go_wp2_with fail
  refine (new_ok (Own.refl w) 100 (by omega) (by omega)).mono ?_
  rintro e w1 ⟨rfl, h1⟩
  go_wp2_with fail
  refine (insert_any 1 3 _).mono ?_
  rintro e w2 ⟨rfl, b2⟩
  have h2 := h1.below b2
  clear h1 b2
  go_wp2_with fail
  refine (add_any h2 gd0 (sz0.small (by omega)) HT.out (insC 1 3) (by have := tx1 1 3; omega)).mono ?_
  rintro e w3 ⟨he, ⟨lb3, gv3, ov3, gs3⟩, hb3, h3⟩
  obtain rfl : lb3 = w.heap.size := hb3
  rw [lc1] at he
  subst he
  rw [lv1] at h3
  clear h2
  go_wp2_with fail
  refine (insert_any 3 4 _).mono ?_
  rintro e w4 ⟨rfl, b4⟩
  have h4 := h3.below b4
  clear h3 b4
  go_wp2_with fail
  refine (add_any h4 gd1 (sz1.small (by omega)) HT.out (insC 3 4) (by have := tx1 3 4; omega)).mono ?_
  rintro e w5 ⟨he, ⟨lb5, gv5, ov5, gs5⟩, hb5, h5⟩
  obtain rfl : lb5 = w.heap.size := hb5
  rw [lc2] at he
  subst he
  rw [lv2] at h5
  clear h4
  go_wp2_with fail
  refine (boundary_any h5 gd2 (sz2.small (by omega)) HT.out).mono ?_
  rintro e w6 ⟨rfl, ⟨lb6, gv6, ov6, gs6⟩, hb6, h6⟩
  obtain rfl : lb6 = w.heap.size := hb6
  rw [lv3] at h6
  clear h5
  go_wp2_with fail
  refine (remove_any 2 bB _).mono ?_
  rintro e w7 ⟨rfl, b7⟩
  have h7 := h6.below b7
  clear h6 b7
  go_wp2_with fail
  refine (add_any h7 gd3 (sz3.small (by omega)) HT.out (remC 2 bB) (by have := tx2; omega)).mono ?_
  rintro e w8 ⟨he, ⟨lb8, gv8, ov8, gs8⟩, hb8, h8⟩
  obtain rfl : lb8 = w.heap.size := hb8
  rw [lc3] at he
  subst he
  rw [lv4] at h8
  clear h7
  go_wp2_with fail
  refine (undo_any h8 gd4 (sz4.small (by omega)) HT.out (by decide) false).mono ?_
  rintro e w9 ⟨⟨lb9, gv9, ov9, gs9⟩, va, hb9, he, h9, ok9⟩
  obtain rfl : lb9 = w.heap.size := hb9
  rw [lu5.2] at he
  subst he
  rw [lv5, lu5.1] at h9
  rw [lu5.1] at ok9
  clear h8
  go_wp2_with fail
  refine (undo_any h9 gd5 (sz5.small (by omega)) HT.out (by decide) true).mono ?_
  rintro e w10 ⟨⟨lb10, gv10, ov10, gs10⟩, vb, hb10, he, h10, ok10⟩
  obtain rfl : lb10 = w.heap.size := hb10
  rw [lu6.2] at he
  subst he
  rw [lv6, lu6.1] at h10
  rw [lu6.1] at ok10
  clear h9
  go_wp2_with fail
  refine (undo_any h10 gd6 (sz6.small (by omega)) HT.out (by decide) true).mono ?_
  rintro e w11 ⟨⟨lb11, gv11, ov11, gs11⟩, vc, hb11, he, h11, ok11⟩
  obtain rfl : lb11 = w.heap.size := hb11
  rw [lu7] at he
  subst he
  rw [lu8] at h11
  clear h10
  have ra : Rd w11 va 9 [remC 2 bB].length (rows Chg.cells [remC 2 bB]) := by
    have h12 := h11.perm (R' := chgRow va [remC 2 bB] ++ (chgRow vb [insC 1 4] ++ chgRow vc [])) (by
      classical
      rw [List.perm_iff_count]
      intro x
      simp only [List.count_append, List.count_nil]
      omega)
    exact h12.rdC ok9
  have rb : Rd w11 vb 9 [insC 1 4].length (rows Chg.cells [insC 1 4]) := by
    have h12 := h11.perm (R' := chgRow vb [insC 1 4] ++ (chgRow va [remC 2 bB] ++ chgRow vc [])) (by
      classical
      rw [List.perm_iff_count]
      intro x
      simp only [List.count_append, List.count_nil]
      omega)
    exact h12.rdC ok10
  have HB := hide h11.own.bel
  have RA := hide ra
  have RB := hide rb
  clear h11 ok9 ok10 ok11 ra rb
  go_wp2_with fail
  refine (remove_any 2 bB _).mono ?_
  rintro e w12 ⟨rfl, b12⟩
  have RA2 := hide ((RA.out.only (Only.of_below b12) fun _ _ f => f).allocR (.cells (remC 2 bB).cells.toArray 51))
  have RB2 := hide (RB.out.only (Only.of_below b12) fun _ _ f => f)
  have HB2 := hide (HB.out.trans (b12.mono HB.out.size))
  clear b12 RA RB HB
  go_wp2_with fail
  refine (same_chgs [remC 2 bB] [remC 2 bB] va _ _ RA2.out (rd_chg w12 (remC 2 bB)) (by decide) (by decide)).mono ?_
  rintro e w13 ⟨he, q, rfl⟩
  rw [isB_true rfl] at he
  subst he
  have RB3 := hide ((RB2.out.allocR (.cells (remC 2 bB).cells.toArray 51)).drewNR q)
  have HB3 := hide (show Below w.heap.size w ((w12.alloc (.cells (remC 2 bB).cells.toArray 51)).drewN q) from Below.trans (HB2.out.alloc HB2.out.size _) ⟨rfl, rfl, rfl, Nat.le_refl _, fun _ _ => rfl⟩)
  obtain ⟨w14, hw14⟩ : ∃ w14, w14 = (w12.alloc (.cells (remC 2 bB).cells.toArray 51)).drewN q := ⟨_, rfl⟩
  rw [← hw14] at RB3 HB3 ⊢
  clear RA2 RB2 HB2 hw14
  go_wp2_with fail
  refine (insert_any 1 4 _).mono ?_
  rintro e w15 ⟨rfl, b15⟩
  have RB4 := hide ((RB3.out.belowR b15).allocR (.cells (insC 1 4).cells.toArray 51))
  have HB4 := hide (HB3.out.trans (b15.mono HB3.out.size))
  clear b15 RB3 HB3
  go_wp2_with fail
  refine (same_chgs [insC 1 4] [insC 1 4] vb _ _ RB4.out (rd_chg w15 (insC 1 4)) (by decide) (by decide)).mono ?_
  rintro e w16 ⟨he, q2, rfl⟩
  rw [isB_true rfl] at he
  subst he
  go_wp2
  go_ret
  exact ⟨rfl, Below.trans (HB4.out.alloc HB4.out.size _) ⟨rfl, rfl, rfl, Nat.le_refl _, fun _ _ => rfl⟩⟩
end Go.Proofs.YtghcmakhfdnimaaDoor
