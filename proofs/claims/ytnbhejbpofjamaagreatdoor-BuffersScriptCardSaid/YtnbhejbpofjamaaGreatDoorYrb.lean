/- The reference of chapter 19, a log: where it lies, New, the price and the check of a change. No condition but those written. -/
import Derived.Test.YtnbhejbpofjamaaGreatDoorBnk
import Derived.Test.YtnbhejbpofjamaaGreatDoorDraw
import Derived.Deep.RegionHeld3
namespace Go.Proofs.YtnbhejbpofjamaaGreatDoor
open Go.RowKit

structure LbOk (b : Lb) (s : Lg) : Prop where
  grp : s.G = b.gs.map (·.2)
  okG : RowOk b.gv b.gs.length
  okO : RowOk b.ov s.O.length
  okg : ∀ x ∈ b.gs, RowOk x.1 x.2.length
theorem new_lbok (g : Nat) (lim : Int) : LbOk ⟨g, .slice none 0 0, .slice none 0 0, []⟩ (Lg.new lim) := ⟨rfl, RowOk.nil, RowOk.nil, fun x hx => by cases hx⟩

def refCells (b : Lb) (s : Lg) : Array Value := #[b.gv, b.ov, .int .i64 s.lim, .int .i64 s.ch, .int .i64 (s.cost - s.now), .int .i64 s.now]
def Lb.rheap (b : Lb) (s : Lg) : Heap := (b.lb, .cells 213 (refCells b s)) :: (rowOf 190 1 b.gv b.gs.length (b.gs.map (·.1)) ++ (chgRow b.ov s.O ++ grpHeap b.gs))
/-- The reference's log lies in memory as s says, beside R. -/
structure RefAt (W w : World) (b : Lb) (s : Lg) (R : Heap) : Prop where
  own : Own W w (b.rheap s ++ R)
  ok : LbOk b s
section
variable {W w w' : World} {b b2 : Lb} {s s2 : Lg} {R : Heap}
theorem RefAt.re (h : RefAt W w b s R) (ho : Own W w' (b.rheap s ++ R)) : RefAt W w' b s R := ⟨ho, h.ok⟩
theorem RefAt.below (h : RefAt W w b s R) (hb : Below w.heap.size w w') : RefAt W w' b s R := h.re (h.own.below hb)
theorem RefAt.drew (h : RefAt W w b s R) : RefAt W w.drew b s R := h.re h.own.drew
theorem RefAt.drewN (h : RefAt W w b s R) (n : Nat) : RefAt W (w.drewN n) b s R := h.re (h.own.drewN n)
theorem RefAt.skip (h : RefAt W w b s R) (o : Obj) : RefAt W (w.alloc o) b s R := h.re (h.own.skip o)
theorem RefAt.sub {R' : Heap} (h : RefAt W w b s R) (hs : R'.Sublist R) : RefAt W w b s R' := ⟨h.own.sub (List.Sublist.append (List.Sublist.refl _) hs), h.ok⟩
theorem RefAt.perm {R' : Heap} (h : RefAt W w b s R) (hs : R.Perm R') : RefAt W w b s R' := ⟨h.own.perm (List.Perm.append_left _ hs), h.ok⟩
theorem RefAt.blk (h : RefAt W w b s R) : Blk w b.lb 213 (refCells b s) := h.own.blk (by simp [Lb.rheap])
theorem RefAt.slG (h : RefAt W w b s R) : Sl w 190 1 b.gv b.gs.length (b.gs.map (·.1)) :=
  h.own.slOf (fun x hx => by simp [Lb.rheap]; exact .inr (.inl hx)) (by simp) h.ok.okG
theorem RefAt.slO (h : RefAt W w b s R) : Sl w 161 9 b.ov s.O.length (rows Chg.cells s.O) :=
  h.own.slOf (fun x hx => by simp [Lb.rheap, chgRow]; exact .inr (.inr (.inl hx))) (by rw [rows_len chg_len]) h.ok.okO
theorem RefAt.slg (h : RefAt W w b s R) {x : Value × List Chg} (hx : x ∈ b.gs) : Sl w 161 9 x.1 x.2.length (rows Chg.cells x.2) :=
  h.own.slOf (fun y hy => by simp [Lb.rheap]; exact .inr (.inr (.inr (.inl (List.mem_flatMap.2 ⟨x, hx, hy⟩))))) (by rw [rows_len chg_len]) (h.ok.okg x hx)
theorem RefAt.len (h : RefAt W w b s R) : s.G.length = b.gs.length := by rw [h.ok.grp]; simp
theorem RefAt.c0 (h : RefAt W w b s R) : w.cell? ⟨b.lb, 0, none⟩ = some b.gv := by rw [h.blk.cell]; rfl
theorem RefAt.c1 (h : RefAt W w b s R) : w.cell? ⟨b.lb, 1, none⟩ = some b.ov := by rw [h.blk.cell]; rfl
theorem RefAt.c2 (h : RefAt W w b s R) : w.cell? ⟨b.lb, 2, none⟩ = some (.int .i64 s.lim) := by rw [h.blk.cell]; rfl
theorem RefAt.c3 (h : RefAt W w b s R) : w.cell? ⟨b.lb, 3, none⟩ = some (.int .i64 s.ch) := by rw [h.blk.cell]; rfl
theorem RefAt.c4 (h : RefAt W w b s R) : w.cell? ⟨b.lb, 4, none⟩ = some (.int .i64 (s.cost - s.now)) := by rw [h.blk.cell]; rfl
theorem RefAt.c5 (h : RefAt W w b s R) : w.cell? ⟨b.lb, 5, none⟩ = some (.int .i64 s.now) := by rw [h.blk.cell]; rfl
theorem RefAt.new (L : Heap) (h : Own W w L) (lim : Int) : RefAt W (w.alloc (.cells #[.slice none 0 0, .slice none 0 0, .int .i64 lim, .int .i64 (-1), .int .i64 0, .int .i64 0] 213)) ⟨w.heap.size, .slice none 0 0, .slice none 0 0, []⟩ (Lg.new lim) L :=
  ⟨h.newCells _ _, new_lbok _ _⟩
end
end Go.Proofs.YtnbhejbpofjamaaGreatDoor
namespace Go.Proofs.YtnbhejbpofjamaaGreatDoor
open Go.RowKit

section
variable {W w w' : World} {b : Lb} {s : Lg} {R : Heap}
theorem rnew_ok {L : Heap} (h : Own W w L) (lim : Int) (h1 : 1 ≤ lim) (h2 : lim ≤ 1048576) : Calls Tryz.prog 110 #[.int .i64 lim] w fun e w' => e = .returned (.tuple #[.pointer (some ⟨w.heap.size, 0, none⟩), .int .i64 0]) ∧ RefAt W w' ⟨w.heap.size, .slice none 0 0, .slice none 0 0, []⟩ (Lg.new lim) L := by
  have HC := hide (RefAt.new L h lim)
  clear h
  go_enter Tryz.func110, Tryz.ntmps110
  go_wp2
  go_ret2
  exact ⟨rfl, HC.out⟩
theorem rplace_any (a : Int) (w : World) : Calls Tryz.prog 197 #[.int .i64 a] w fun e w' => e = .returned (.bool (decide (1 ≤ a ∧ a ≤ 1099511627776))) ∧ w = w' := by
  by_cases h1 : 1 ≤ a
  · by_cases h2 : a ≤ 1099511627776
    · rw [decide_eq_true ⟨h1, h2⟩]
      have y1 : decide (1 ≤ a) = true := by simpa using h1
      have y2 : decide (a ≤ 1099511627776) = true := by simpa using h2
      go_enter Tryz.func197, Tryz.ntmps197
      go_wp2
      go_ret
      exact ⟨rfl, rfl⟩
    · rw [decide_eq_false (fun h => h2 h.2)]
      have y1 : decide (1 ≤ a) = true := by simpa using h1
      have y2 : decide (a ≤ 1099511627776) = false := by simpa using h2
      go_enter Tryz.func197, Tryz.ntmps197
      go_wp2
      go_ret
      exact ⟨rfl, rfl⟩
  · rw [decide_eq_false (fun h => h1 h.1)]
    have y1 : decide (1 ≤ a) = false := by simpa using h1
    go_enter Tryz.func197, Tryz.ntmps197
    go_wp2
    go_ret
    exact ⟨rfl, rfl⟩
theorem RefAt.cleared (h : RefAt W w b s R) : RefAt W (((((w.setCell ⟨b.lb, 0, none⟩ (.slice none 0 0)).setCell ⟨b.lb, 1, none⟩ (.slice none 0 0)).setCell ⟨b.lb, 3, none⟩ (.int .i64 (-1))).setCell ⟨b.lb, 4, none⟩ (.int .i64 0)).setCell ⟨b.lb, 5, none⟩ (.int .i64 0)) b.cleared s.clear R := by
  have h1 := h.own
  unfold Lb.rheap at h1
  have h2 : Own W w ((b.lb, .cells 213 (refCells b s)) :: R) := h1.sub (List.Sublist.cons_cons _ (List.sublist_append_right _ _))
  exact ⟨((((h2.setCell 0 (.slice none 0 0)).setCell 1 (.slice none 0 0)).setCell 3 (.int .i64 (-1))).setCell 4 (.int .i64 0)).setCell 5 (.int .i64 0), rfl, RowOk.nil, RowOk.nil, fun x hx => by cases hx⟩
theorem rclear_any (h : RefAt W w b s R) : Calls Tryz.prog 186 #[.pointer (some ⟨b.lb, 0, none⟩)] w fun e w' => e = .returned (.tuple #[]) ∧ RefAt W w' b.cleared s.clear R := by
  have c0 := h.c0
  have c1 := h.c1
  have c3 := h.c3
  have c4 := h.c4
  have c5 := h.c5
  have f0 := h.blk.frozen 0
  have f1 := h.blk.frozen 1
  have f3 := h.blk.frozen 3
  have f4 := h.blk.frozen 4
  have f5 := h.blk.frozen 5
  have HC := hide h.cleared
  clear h
  go_enter Tryz.func186, Tryz.ntmps186
  go_wp2
  refine bodyPost_end (results_none rfl _ _ _) rfl ?_
  exact ⟨rfl, HC.out⟩
end
end Go.Proofs.YtnbhejbpofjamaaGreatDoor
namespace Go.Proofs.YtnbhejbpofjamaaGreatDoor
open Go.RowKit

set_option maxHeartbeats 1000000 in
theorem reflen_any (s : ByteArray) (w : World) (hs : s.size * 8 ≤ 140737488355328) : Calls Tryz.prog 79 #[.string s] w fun e w' => e = .returned (.int .i64 (lenS s : Int)) ∧ Below w.heap.size w w' := by
  have hl := ref_list_any s w hs
  unfold ListRes at hl
  cases hc : charsL s.data.toList with
  | none =>
    have HN := hide (show lenS s = 0 by unfold lenS; rw [hc]; rfl)
    rw [hc] at hl
    have HL := hide hl
    clear hl hc
    go_enter Tryz.func79, Tryz.ntmps79
    go_wp2_with fail
    refine (Calls.mono HL.out) ?_
    rintro e w2 ⟨hb, rfl⟩
    have HB := hide hb
    clear hb
    go_wp2
    go_ret
    exact ⟨by rw [HN.out]; rfl, HB.out⟩
  | some l =>
    have HN := hide (show lenS s = l.length by unfold lenS; rw [hc]; rfl)
    rw [hc] at hl
    have HL := hide hl
    clear hl hc
    go_enter Tryz.func79, Tryz.ntmps79
    go_wp2_with fail
    refine (Calls.mono HL.out) ?_
    rintro e w2 ⟨hb, v, rfl, hsl, hown⟩
    obtain ⟨A, c, rfl, _⟩ := hsl.form
    have HB := hide hb
    clear hb hsl hown
    go_wp2
    go_ret
    exact ⟨by rw [HN.out]; rfl, HB.out⟩
theorem rprice_any (c : Chg) (w : World) (hs : c.tx.size ≤ 1099511627776) : Calls Tryz.prog 185 #[c.val] w fun e w' => e = .returned (.int .i64 (c.price : Int)) ∧ Below w.heap.size w w' := by
  have HB := hide ((Below.refl _ w).alloc (Nat.le_refl _) (.cells c.cells.toArray 161))
  have hl := lenS_le c.tx
  have HL := hide (reflen_any c.tx (w.alloc (.cells c.cells.toArray 161)) (by omega))
  by_cases hk : c.k = 2
  · have HP := hide (show c.price = 1 + lenS c.tx by unfold Chg.price; rw [if_pos hk])
    have hz : (c.k == 2) = true := by simpa using hk
    clear hk
    obtain ⟨n, hn⟩ : ∃ n, n = lenS c.tx := ⟨_, rfl⟩
    rw [← hn] at HL HP hl
    have hn2 : n ≤ 1099511627776 := by omega
    clear hn
    go_enter Tryz.func185, Tryz.ntmps185
    go_wp2_with fail
    refine (Calls.mono HL.out) ?_
    rintro e w2 ⟨rfl, hb⟩
    have HB2 := hide (HB.out.trans (hb.mono HB.out.size))
    clear hb
    go_wp2
    go_ret
    exact ⟨by rw [HP.out]; simp, HB2.out⟩
  · have HP := hide (show c.price = 1 by unfold Chg.price; rw [if_neg hk])
    have hz : (c.k == 2) = false := by simpa using hk
    clear hk
    go_enter Tryz.func185, Tryz.ntmps185
    go_wp2
    go_ret
    exact ⟨by rw [HP.out]; rfl, HB.out⟩
end Go.Proofs.YtnbhejbpofjamaaGreatDoor
namespace Go.Proofs.YtnbhejbpofjamaaGreatDoor
open Go.RowKit

theorem rplace_yes {a : Int} (h : 1 ≤ a ∧ a ≤ 1099511627776) (w : World) : Calls Tryz.prog 197 #[.int .i64 a] w fun e w' => e = .returned (.bool true) ∧ w = w' := by
  have := rplace_any a w
  rwa [decide_eq_true h] at this
theorem rplace_no {a : Int} (h : ¬ (1 ≤ a ∧ a ≤ 1099511627776)) (w : World) : Calls Tryz.prog 197 #[.int .i64 a] w fun e w' => e = .returned (.bool false) ∧ w = w' := by
  have := rplace_any a w
  rwa [decide_eq_false h] at this
set_option maxRecDepth 100000 in
set_option maxHeartbeats 1000000 in
theorem rcheck_k1 (c : Chg) (w : World) (hk : c.k = 1) (hs : c.tx.size ≤ 1099511627776) : Calls Tryz.prog 184 #[c.val] w (CheckRes w c.check) := by
  obtain ⟨k, a, t, id, nm, tx, vk, vn, had⟩ := c
  obtain rfl : k = 1 := hk
  have HB := hide ((Below.refl _ w).alloc (Nat.le_refl _) (.cells #[.int .i64 1, .int .i64 a, .int .i64 t, .int .i64 id, .int .i64 nm, .string tx, .int .i64 vk, .int .i64 vn, .bool had] 161))
  clear hs
  by_cases ha : 1 ≤ a ∧ a ≤ 1099511627776
  · have HPA := hide (rplace_yes ha)
    by_cases ht : t < a
    · have z0 : decide (t < a) = true := by simpa using ht
      have HC := hide (show Chg.check ⟨1, a, t, id, nm, tx, vk, vn, had⟩ = 2 by simp only [Chg.check]; (repeat' split) <;> (first | rfl | (exfalso; omega) | simp_all))
      clear ha ht
      go_enter Tryz.func184, Tryz.ntmps184
      go_wp2_with fail
      refine (Calls.mono (HPA.out _)) ?_
      rintro e w2 ⟨rfl, rfl⟩
      go_wp2
      go_ret
      exact ⟨by rw [HC.out]; rfl, HB.out⟩
    · have z0 : decide (t < a) = false := by simpa using ht
      by_cases hp : 1 ≤ t ∧ t ≤ 1099511627776
      · have HPT := hide (rplace_yes hp)
        have HC := hide (show Chg.check ⟨1, a, t, id, nm, tx, vk, vn, had⟩ = 0 by simp only [Chg.check]; (repeat' split) <;> (first | rfl | (exfalso; omega) | simp_all))
        clear ha ht hp
        go_enter Tryz.func184, Tryz.ntmps184
        go_wp2_with fail
        refine (Calls.mono (HPA.out _)) ?_
        rintro e w2 ⟨rfl, rfl⟩
        go_wp2_with fail
        refine (Calls.mono (HPT.out _)) ?_
        rintro e w2 ⟨rfl, rfl⟩
        go_wp2
        go_ret
        exact ⟨by rw [HC.out]; rfl, HB.out⟩
      · have HPT := hide (rplace_no hp)
        have hq : 1099511627776 < t := by omega
        have HC := hide (show Chg.check ⟨1, a, t, id, nm, tx, vk, vn, had⟩ = 2 by simp only [Chg.check]; (repeat' split) <;> (first | rfl | (exfalso; omega) | simp_all))
        clear ha ht hp hq
        go_enter Tryz.func184, Tryz.ntmps184
        go_wp2_with fail
        refine (Calls.mono (HPA.out _)) ?_
        rintro e w2 ⟨rfl, rfl⟩
        go_wp2_with fail
        refine (Calls.mono (HPT.out _)) ?_
        rintro e w2 ⟨rfl, rfl⟩
        go_wp2
        go_ret
        exact ⟨by rw [HC.out]; rfl, HB.out⟩
  · have HPA := hide (rplace_no ha)
    have HC := hide (show Chg.check ⟨1, a, t, id, nm, tx, vk, vn, had⟩ = 2 by simp only [Chg.check]; (repeat' split) <;> (first | rfl | (exfalso; omega) | simp_all))
    clear ha
    go_enter Tryz.func184, Tryz.ntmps184
    go_wp2_with fail
    refine (Calls.mono (HPA.out _)) ?_
    rintro e w2 ⟨rfl, rfl⟩
    go_wp2
    go_ret
    exact ⟨by rw [HC.out]; rfl, HB.out⟩
set_option maxRecDepth 100000 in
set_option maxHeartbeats 1000000 in
theorem rcheck_k2 (c : Chg) (w : World) (hk : c.k = 2) (hs : c.tx.size ≤ 1099511627776) : Calls Tryz.prog 184 #[c.val] w (CheckRes w c.check) := by
  obtain ⟨k, a, t, id, nm, tx, vk, vn, had⟩ := c
  obtain rfl : k = 2 := hk
  have HB := hide ((Below.refl _ w).alloc (Nat.le_refl _) (.cells #[.int .i64 2, .int .i64 a, .int .i64 t, .int .i64 id, .int .i64 nm, .string tx, .int .i64 vk, .int .i64 vn, .bool had] 161))
  have HV := hide (refvalid_any tx (w.alloc (.cells #[.int .i64 2, .int .i64 a, .int .i64 t, .int .i64 id, .int .i64 nm, .string tx, .int .i64 vk, .int .i64 vn, .bool had] 161)) (by simp at hs; omega))
  clear hs
  by_cases ha : 1 ≤ a ∧ a ≤ 1099511627776
  · have HPA := hide (rplace_yes ha)
    cases hv : validS tx with
    | true =>
      have HC := hide (show Chg.check ⟨2, a, t, id, nm, tx, vk, vn, had⟩ = 0 by simp only [Chg.check]; (repeat' split) <;> (first | rfl | (exfalso; omega) | simp_all))
      rw [hv] at HV
      clear ha hv
      go_enter Tryz.func184, Tryz.ntmps184
      go_wp2_with fail
      refine (Calls.mono (HPA.out _)) ?_
      rintro e w2 ⟨rfl, rfl⟩
      go_wp2_with fail
      refine (Calls.mono HV.out) ?_
      rintro e w2 ⟨rfl, hb2⟩
      have HB2 := hide (HB.out.trans (hb2.mono HB.out.size))
      clear hb2
      go_wp2
      go_ret
      exact ⟨by rw [HC.out]; rfl, HB2.out⟩
    | false =>
      have HC := hide (show Chg.check ⟨2, a, t, id, nm, tx, vk, vn, had⟩ = 5 by simp only [Chg.check]; (repeat' split) <;> (first | rfl | (exfalso; omega) | simp_all))
      rw [hv] at HV
      clear ha hv
      go_enter Tryz.func184, Tryz.ntmps184
      go_wp2_with fail
      refine (Calls.mono (HPA.out _)) ?_
      rintro e w2 ⟨rfl, rfl⟩
      go_wp2_with fail
      refine (Calls.mono HV.out) ?_
      rintro e w2 ⟨rfl, hb2⟩
      have HB2 := hide (HB.out.trans (hb2.mono HB.out.size))
      clear hb2
      go_wp2
      go_ret
      exact ⟨by rw [HC.out]; rfl, HB2.out⟩
  · have HPA := hide (rplace_no ha)
    have HC := hide (show Chg.check ⟨2, a, t, id, nm, tx, vk, vn, had⟩ = 2 by simp only [Chg.check]; (repeat' split) <;> (first | rfl | (exfalso; omega) | simp_all))
    clear ha
    go_enter Tryz.func184, Tryz.ntmps184
    go_wp2_with fail
    refine (Calls.mono (HPA.out _)) ?_
    rintro e w2 ⟨rfl, rfl⟩
    go_wp2
    go_ret
    exact ⟨by rw [HC.out]; rfl, HB.out⟩
set_option maxRecDepth 100000 in
set_option maxHeartbeats 1000000 in
theorem rcheck_k3 (c : Chg) (w : World) (hk : c.k = 3) (hs : c.tx.size ≤ 1099511627776) : Calls Tryz.prog 184 #[c.val] w (CheckRes w c.check) := by
  obtain ⟨k, a, t, id, nm, tx, vk, vn, had⟩ := c
  obtain rfl : k = 3 := hk
  have HB := hide ((Below.refl _ w).alloc (Nat.le_refl _) (.cells #[.int .i64 3, .int .i64 a, .int .i64 t, .int .i64 id, .int .i64 nm, .string tx, .int .i64 vk, .int .i64 vn, .bool had] 161))
  clear hs
  by_cases ha : 1 ≤ a ∧ a ≤ 1099511627776
  · have HPA := hide (rplace_yes ha)
    have HC := hide (show Chg.check ⟨3, a, t, id, nm, tx, vk, vn, had⟩ = 0 by simp only [Chg.check]; (repeat' split) <;> (first | rfl | (exfalso; omega) | simp_all))
    clear ha
    go_enter Tryz.func184, Tryz.ntmps184
    go_wp2_with fail
    refine (Calls.mono (HPA.out _)) ?_
    rintro e w2 ⟨rfl, rfl⟩
    go_wp2
    go_ret
    exact ⟨by rw [HC.out]; rfl, HB.out⟩
  · have HPA := hide (rplace_no ha)
    have HC := hide (show Chg.check ⟨3, a, t, id, nm, tx, vk, vn, had⟩ = 2 by simp only [Chg.check]; (repeat' split) <;> (first | rfl | (exfalso; omega) | simp_all))
    clear ha
    go_enter Tryz.func184, Tryz.ntmps184
    go_wp2_with fail
    refine (Calls.mono (HPA.out _)) ?_
    rintro e w2 ⟨rfl, rfl⟩
    go_wp2
    go_ret
    exact ⟨by rw [HC.out]; rfl, HB.out⟩
set_option maxRecDepth 100000 in
set_option maxHeartbeats 1000000 in
theorem rcheck_k4 (c : Chg) (w : World) (hk : c.k = 4) (hs : c.tx.size ≤ 1099511627776) : Calls Tryz.prog 184 #[c.val] w (CheckRes w c.check) := by
  obtain ⟨k, a, t, id, nm, tx, vk, vn, had⟩ := c
  obtain rfl : k = 4 := hk
  have HB := hide ((Below.refl _ w).alloc (Nat.le_refl _) (.cells #[.int .i64 4, .int .i64 a, .int .i64 t, .int .i64 id, .int .i64 nm, .string tx, .int .i64 vk, .int .i64 vn, .bool had] 161))
  clear hs
  by_cases ha : 1 ≤ a ∧ a ≤ 1099511627776
  · have HPA := hide (rplace_yes ha)
    have HC := hide (show Chg.check ⟨4, a, t, id, nm, tx, vk, vn, had⟩ = 0 by simp only [Chg.check]; (repeat' split) <;> (first | rfl | (exfalso; omega) | simp_all))
    clear ha
    go_enter Tryz.func184, Tryz.ntmps184
    go_wp2_with fail
    refine (Calls.mono (HPA.out _)) ?_
    rintro e w2 ⟨rfl, rfl⟩
    go_wp2
    go_ret
    exact ⟨by rw [HC.out]; rfl, HB.out⟩
  · have HPA := hide (rplace_no ha)
    have HC := hide (show Chg.check ⟨4, a, t, id, nm, tx, vk, vn, had⟩ = 2 by simp only [Chg.check]; (repeat' split) <;> (first | rfl | (exfalso; omega) | simp_all))
    clear ha
    go_enter Tryz.func184, Tryz.ntmps184
    go_wp2_with fail
    refine (Calls.mono (HPA.out _)) ?_
    rintro e w2 ⟨rfl, rfl⟩
    go_wp2
    go_ret
    exact ⟨by rw [HC.out]; rfl, HB.out⟩
set_option maxRecDepth 100000 in
set_option maxHeartbeats 1000000 in
theorem rcheck_k5 (c : Chg) (w : World) (hk : c.k = 5) (hs : c.tx.size ≤ 1099511627776) : Calls Tryz.prog 184 #[c.val] w (CheckRes w c.check) := by
  obtain ⟨k, a, t, id, nm, tx, vk, vn, had⟩ := c
  obtain rfl : k = 5 := hk
  have HB := hide ((Below.refl _ w).alloc (Nat.le_refl _) (.cells #[.int .i64 5, .int .i64 a, .int .i64 t, .int .i64 id, .int .i64 nm, .string tx, .int .i64 vk, .int .i64 vn, .bool had] 161))
  clear hs
  by_cases ha : 1 ≤ a ∧ a ≤ 1099511627776
  · have HPA := hide (rplace_yes ha)
    by_cases ht : t < a
    · have z0 : decide (t < a) = true := by simpa using ht
      have HC := hide (show Chg.check ⟨5, a, t, id, nm, tx, vk, vn, had⟩ = 2 by simp only [Chg.check]; (repeat' split) <;> (first | rfl | (exfalso; omega) | simp_all))
      clear ha ht
      go_enter Tryz.func184, Tryz.ntmps184
      go_wp2_with fail
      refine (Calls.mono (HPA.out _)) ?_
      rintro e w2 ⟨rfl, rfl⟩
      go_wp2
      go_ret
      exact ⟨by rw [HC.out]; rfl, HB.out⟩
    · have z0 : decide (t < a) = false := by simpa using ht
      by_cases hp : 1 ≤ t ∧ t ≤ 1099511627776
      · have HPT := hide (rplace_yes hp)
        by_cases hn : nm < 0
        · have z1 : decide (nm < 0) = true := by simpa using hn
          have HC := hide (show Chg.check ⟨5, a, t, id, nm, tx, vk, vn, had⟩ = 2 by simp only [Chg.check]; (repeat' split) <;> (first | rfl | (exfalso; omega) | simp_all))
          clear ha ht hp hn
          go_enter Tryz.func184, Tryz.ntmps184
          go_wp2_with fail
          refine (Calls.mono (HPA.out _)) ?_
          rintro e w2 ⟨rfl, rfl⟩
          go_wp2_with fail
          refine (Calls.mono (HPT.out _)) ?_
          rintro e w2 ⟨rfl, rfl⟩
          go_wp2
          go_ret
          exact ⟨by rw [HC.out]; rfl, HB.out⟩
        · have z1 : decide (nm < 0) = false := by simpa using hn
          have HC := hide (show Chg.check ⟨5, a, t, id, nm, tx, vk, vn, had⟩ = 0 by simp only [Chg.check]; (repeat' split) <;> (first | rfl | (exfalso; omega) | simp_all))
          clear ha ht hp hn
          go_enter Tryz.func184, Tryz.ntmps184
          go_wp2_with fail
          refine (Calls.mono (HPA.out _)) ?_
          rintro e w2 ⟨rfl, rfl⟩
          go_wp2_with fail
          refine (Calls.mono (HPT.out _)) ?_
          rintro e w2 ⟨rfl, rfl⟩
          go_wp2
          go_ret
          exact ⟨by rw [HC.out]; rfl, HB.out⟩
      · have HPT := hide (rplace_no hp)
        have hq : 1099511627776 < t := by omega
        have HC := hide (show Chg.check ⟨5, a, t, id, nm, tx, vk, vn, had⟩ = 2 by simp only [Chg.check]; (repeat' split) <;> (first | rfl | (exfalso; omega) | simp_all))
        clear ha ht hp hq
        go_enter Tryz.func184, Tryz.ntmps184
        go_wp2_with fail
        refine (Calls.mono (HPA.out _)) ?_
        rintro e w2 ⟨rfl, rfl⟩
        go_wp2_with fail
        refine (Calls.mono (HPT.out _)) ?_
        rintro e w2 ⟨rfl, rfl⟩
        go_wp2
        go_ret
        exact ⟨by rw [HC.out]; rfl, HB.out⟩
  · have HPA := hide (rplace_no ha)
    have HC := hide (show Chg.check ⟨5, a, t, id, nm, tx, vk, vn, had⟩ = 2 by simp only [Chg.check]; (repeat' split) <;> (first | rfl | (exfalso; omega) | simp_all))
    clear ha
    go_enter Tryz.func184, Tryz.ntmps184
    go_wp2_with fail
    refine (Calls.mono (HPA.out _)) ?_
    rintro e w2 ⟨rfl, rfl⟩
    go_wp2
    go_ret
    exact ⟨by rw [HC.out]; rfl, HB.out⟩
set_option maxRecDepth 100000 in
set_option maxHeartbeats 1000000 in
theorem rcheck_k6 (c : Chg) (w : World) (hk : c.k = 6) (hs : c.tx.size ≤ 1099511627776) : Calls Tryz.prog 184 #[c.val] w (CheckRes w c.check) := by
  obtain ⟨k, a, t, id, nm, tx, vk, vn, had⟩ := c
  obtain rfl : k = 6 := hk
  have HB := hide ((Below.refl _ w).alloc (Nat.le_refl _) (.cells #[.int .i64 6, .int .i64 a, .int .i64 t, .int .i64 id, .int .i64 nm, .string tx, .int .i64 vk, .int .i64 vn, .bool had] 161))
  clear hs
  have HC := hide (show Chg.check ⟨6, a, t, id, nm, tx, vk, vn, had⟩ = 0 by simp only [Chg.check]; (repeat' split) <;> (first | rfl | (exfalso; omega) | simp_all))
  go_enter Tryz.func184, Tryz.ntmps184
  go_wp2
  go_ret
  exact ⟨by rw [HC.out]; rfl, HB.out⟩
set_option maxRecDepth 100000 in
set_option maxHeartbeats 1000000 in
theorem rcheck_out (c : Chg) (w : World) (h : c.k < 1 ∨ 6 < c.k) : Calls Tryz.prog 184 #[c.val] w (CheckRes w c.check) := by
  have HC := hide (show c.check = 2 by unfold Chg.check; rw [if_pos h])
  have HB := hide ((Below.refl _ w).alloc (Nat.le_refl _) (.cells c.cells.toArray 161))
  have e1 : (c.k == 1) = false := by simp; omega
  have e5 : (c.k == 5) = false := by simp; omega
  rcases h with h | h
  · have z : decide (c.k < 1) = true := by simpa using h
    go_enter Tryz.func184, Tryz.ntmps184
    go_wp2
    go_ret
    exact ⟨by rw [HC.out]; rfl, HB.out⟩
  · have z : decide (c.k < 1) = false := by simp; omega
    have z2 : decide (6 < c.k) = true := by simpa using h
    go_enter Tryz.func184, Tryz.ntmps184
    go_wp2
    go_ret
    exact ⟨by rw [HC.out]; rfl, HB.out⟩
theorem rcheck_any (c : Chg) (w : World) (hs : c.tx.size ≤ 1099511627776) : Calls Tryz.prog 184 #[c.val] w (CheckRes w c.check) := by
  by_cases h : c.k < 1 ∨ 6 < c.k
  · exact rcheck_out c w h
  · have hc : c.k = 1 ∨ c.k = 2 ∨ c.k = 3 ∨ c.k = 4 ∨ c.k = 5 ∨ c.k = 6 := by omega
    rcases hc with e | e | e | e | e | e
    · exact rcheck_k1 c w e hs
    · exact rcheck_k2 c w e hs
    · exact rcheck_k3 c w e hs
    · exact rcheck_k4 c w e hs
    · exact rcheck_k5 c w e hs
    · exact rcheck_k6 c w e hs
end Go.Proofs.YtnbhejbpofjamaaGreatDoor
namespace Go.Proofs.YtnbhejbpofjamaaGreatDoor
open Go.RowKit

section
variable {W w w' : World} {b : Lb} {s : Lg} {R : Heap}
theorem RefAt.toO (h : RefAt W w b s R) : Own W w (chgRow b.ov s.O ++ ((b.lb, .cells 213 (refCells b s)) :: (rowOf 190 1 b.gv b.gs.length (b.gs.map (·.1)) ++ (grpHeap b.gs ++ R)))) := by
  refine h.own.perm ?_
  unfold Lb.rheap
  classical
  rw [List.perm_iff_count]
  intro x
  simp only [List.count_append, List.count_cons]
  omega
theorem RefAt.ofO {v : Value} {O : List Chg} {cs : Array Value} (ho : Own W w (chgRow v O ++ ((b.lb, .cells 213 cs) :: (rowOf 190 1 b.gv b.gs.length (b.gs.map (·.1)) ++ (grpHeap b.gs ++ R))))) (hg : s.G = b.gs.map (·.2)) (h1 : RowOk b.gv b.gs.length) (h2 : RowOk v s.O.length) (h3 : ∀ x ∈ b.gs, RowOk x.1 x.2.length) (hO : s.O = O) (hc : cs = refCells { b with ov := v } s) : RefAt W w { b with ov := v } s R := by
  subst hO hc
  refine ⟨ho.perm ?_, hg, h1, h2, h3⟩
  unfold Lb.rheap
  classical
  rw [List.perm_iff_count]
  intro x
  simp only [List.count_append, List.count_cons]
  omega
/-- A number of the struct is written. -/
theorem RefAt.setCell {i : Nat} {u : Value} {s' : Lg} (h : RefAt W w b s R) (hc : (refCells b s).setIfInBounds i u = refCells b s') (hO : s'.O = s.O) (hG : s'.G = s.G) : RefAt W (w.setCell ⟨b.lb, i, none⟩ u) b s' R := by
  have h1 := h.own
  unfold Lb.rheap at h1
  have h2 := Own.setCell h1 i u
  rw [hc] at h2
  refine ⟨?_, hG.trans h.ok.grp, h.ok.okG, by rw [hO]; exact h.ok.okO, h.ok.okg⟩
  unfold Lb.rheap
  rw [hO]
  exact h2
/-- What append to the open group leaves, stored back. -/
theorem RefAt.pushed {v' : Value} {c : Chg} (h : RefAt W w b s R) (hs : Sl w' 161 9 v' (s.O.length + 1) (rows Chg.cells s.O ++ c.cells)) (ho : Only (fun g => b.ov.ownBlock = some g) w w') (hv : v'.ownBlock = b.ov.ownBlock ∨ v'.ownBlock = some w.heap.size) :
    Blk w' b.lb 213 (refCells b s) ∧ RefAt W (w'.setCell ⟨b.lb, 1, none⟩ v') { b with ov := v' } { s with O := s.O ++ [c] } R := by
  have e : rows Chg.cells s.O ++ c.cells = rows Chg.cells (s.O ++ [c]) := by rw [rows_append, rows_one]
  have el : (s.O ++ [c]).length = s.O.length + 1 := by simp
  rw [e] at hs
  have h1 := h.toO
  unfold chgRow at h1
  have h2 := h1.appended hs ho hv
  have hb : Blk w' b.lb 213 (refCells b s) := h2.blk (by simp)
  have h3 : Own W w' (((b.lb, .cells 213 (refCells b s)) :: (rowOf 190 1 b.gv b.gs.length (b.gs.map (·.1)) ++ (grpHeap b.gs ++ R))) ++ rowOf 161 9 v' (s.O.length + 1) (rows Chg.cells (s.O ++ [c]))) := h2.perm List.perm_append_comm
  have h4 := h3.setCell 1 v'
  refine ⟨hb, RefAt.ofO (O := s.O ++ [c]) (cs := (refCells b s).setIfInBounds 1 v') ?_ h.ok.grp h.ok.okG ?_ h.ok.okg rfl rfl⟩
  · unfold chgRow
    rw [el]
    exact (show Own W _ (((b.lb, .cells 213 ((refCells b s).setIfInBounds 1 v')) :: (rowOf 190 1 b.gv b.gs.length (b.gs.map (·.1)) ++ (grpHeap b.gs ++ R))) ++ rowOf 161 9 v' (s.O.length + 1) (rows Chg.cells (s.O ++ [c]))) from h4).perm List.perm_append_comm
  · show RowOk v' (s.O ++ [c]).length
    rw [el]
    exact hs.rowOk
/-- The field To of an element of the open group is written. -/
theorem RefAt.setTo {g off c i : Nat} {x : Chg} {t : Int} (h : RefAt W w b s R) (hv : b.ov = .slice (some ⟨g, off, none⟩) s.O.length c) (hx : s.O[i]? = some x) : RefAt W (w.setCell ⟨g, off + i * 9 + 2, none⟩ (.int .i64 t)) b { s with O := s.O.set i { x with t := t } } R := by
  have h1 := h.toO
  unfold chgRow at h1
  rw [rowOf_some (v := b.ov) (g := g) (by rw [hv]; rfl), hv] at h1
  have hi : i < s.O.length := (List.getElem?_eq_some_iff.1 hx).1
  have hj : i * 9 + 2 < (rows Chg.cells s.O).length := by rw [rows_len chg_len]; omega
  have h2 := h1.setRow (i * 9 + 2) hj (.int .i64 t)
  rw [rows_set chg_len { x with t := t } 2 (.int .i64 t) s.O i x hx (by omega) rfl] at h2
  rw [Nat.add_assoc]
  have hb : b = { b with ov := b.ov } := rfl
  rw [hb]
  refine RefAt.ofO (O := s.O.set i { x with t := t }) (cs := refCells b s) ?_ h.ok.grp h.ok.okG ?_ h.ok.okg rfl rfl
  · unfold chgRow
    rw [rowOf_some (v := b.ov) (g := g) (by rw [hv]; rfl), hv, List.length_set]
    exact h2
  · show RowOk b.ov (s.O.set i _).length
    rw [List.length_set]
    exact h.ok.okO
end
end Go.Proofs.YtnbhejbpofjamaaGreatDoor
namespace Go.Proofs.YtnbhejbpofjamaaGreatDoor
open Go.RowKit

theorem joins_yes {s : Lg} {c : Chg} (h : s.joins c = true) : ∃ x, s.O[s.O.length - 1]? = some x ∧ c.k = 1 ∧ x.k = 1 ∧ x.t = c.a := by
  unfold Lg.joins at h
  split at h
  · rename_i x hx
    simp at h
    exact ⟨x, hx, h⟩
  · cases h
theorem lengthen_eq {l : List Chg} {x : Chg} {t : Int} (h : l[l.length - 1]? = some x) : lengthen l t = l.set (l.length - 1) { x with t := t } := by
  unfold lengthen
  rw [h]

def RAddRes (W : World) (b : Lb) (s : Lg) (R : Heap) (c : Chg) (e : Ending) (w' : World) : Prop := e = .returned (.int .i64 c.check) ∧ ∃ b', b'.lb = b.lb ∧ RefAt W w' b' (s.add c) R
section
variable {W w w' : World} {b : Lb} {s : Lg} {R : Heap}
set_option maxRecDepth 100000 in
theorem radd_bad (h : RefAt W w b s R) (c : Chg) (hs : c.tx.size ≤ 1099511627776) (hc : ¬ c.check = 0) : Calls Tryz.prog 157 #[.pointer (some ⟨b.lb, 0, none⟩), c.val] w (RAddRes W b s R c) := by
  have h1 := h.skip (.cells #[.int .i64 c.k, .int .i64 c.a, .int .i64 c.t, .int .i64 c.id, .int .i64 c.nm, .string c.tx, .int .i64 c.vk, .int .i64 c.vn, .bool c.had] 161)
  have H1 := hide h1
  have HC := hide (rcheck_any c (w.alloc (.cells #[.int .i64 c.k, .int .i64 c.a, .int .i64 c.t, .int .i64 c.id, .int .i64 c.nm, .string c.tx, .int .i64 c.vk, .int .i64 c.vn, .bool c.had] 161)) hs)
  have HA := hide (show s.add c = s by unfold Lg.add; rw [if_neg hc])
  have hz : (c.check != 0) = true := by simpa using hc
  have hz2 : (c.check == 0) = false := by simpa using hc
  clear h h1 hs hc
  go_enter Tryz.func157, Tryz.ntmps157
  go_wp2_with fail
  refine (Calls.mono HC.out) ?_
  rintro e w2 ⟨rfl, hb⟩
  have H2 := hide (H1.out.below hb)
  clear hb
  go_wp2
  go_ret
  exact ⟨rfl, b, rfl, by rw [HA.out]; exact H2.out⟩
theorem RefAt.box (h : RefAt W w b s R) (t : TypeId) (cs : Array Value) : RefAt W (w.alloc (.cells cs t)) b s ((w.heap.size, .cells t cs) :: R) :=
  ⟨(h.own.newCells t cs).perm List.perm_middle.symm, h.ok⟩
end
end Go.Proofs.YtnbhejbpofjamaaGreatDoor
namespace Go.Proofs.YtnbhejbpofjamaaGreatDoor
open Go.RowKit
section
variable {W w w' : World} {b : Lb} {s : Lg} {R : Heap}
set_option maxRecDepth 100000 in
set_option maxHeartbeats 4000000 in
theorem radd_join (h : RefAt W w b s R) (c : Chg) (hs : c.tx.size ≤ 1099511627776) (hl : s.O.length ≤ 1000000) (hc : c.check = 0) (hj : s.joins c = true) : Calls Tryz.prog 157 #[.pointer (some ⟨b.lb, 0, none⟩), c.val] w (RAddRes W b s R c) := by
  have H1 := hide (h.box 161 #[.int .i64 c.k, .int .i64 c.a, .int .i64 c.t, .int .i64 c.id, .int .i64 c.nm, .string c.tx, .int .i64 c.vk, .int .i64 c.vn, .bool c.had])
  have HC := hide (rcheck_any c (w.alloc (.cells #[.int .i64 c.k, .int .i64 c.a, .int .i64 c.t, .int .i64 c.id, .int .i64 c.nm, .string c.tx, .int .i64 c.vk, .int .i64 c.vn, .bool c.had] 161)) hs)
  rw [hc] at HC
  obtain ⟨y, hy, hck, hyk, hyt⟩ := joins_yes hj
  have HA := hide (show s.add c = { s with O := s.O.set (s.O.length - 1) { y with t := c.t } } by unfold Lg.add Lg.add0; rw [if_pos hc, if_pos hj, lengthen_eq hy])
  have HCH := hide hc
  have HY := hide hy
  have HYY := hide (And.intro hck (And.intro hyk hyt))
  have HLL := hide hl
  clear h hs hc hj hy hck hyk hyt hl
  go_enter Tryz.func157, Tryz.ntmps157
  go_wp2_with fail
  refine (Calls.mono (HC.out)) ?_
  rintro e w2 ⟨rfl, hb⟩
  have h2 := H1.out.below hb
  obtain ⟨gw, hgw⟩ : ∃ gw, gw = w.heap.size := ⟨_, rfl⟩
  rw [← hgw] at h2 ⊢
  obtain ⟨m, hm⟩ : ∃ m, s.O.length = m + 1 := ⟨s.O.length - 1, by have := (List.getElem?_eq_some_iff.1 HY.out).1; omega⟩
  obtain ⟨g, off, cp, hv, _, _, _, hfz, hat⟩ := h2.slO.atC (by omega)
  have kb := h2.own.blk (g := gw) (t := 161) (cs := #[.int .i64 c.k, .int .i64 c.a, .int .i64 c.t, .int .i64 c.id, .int .i64 c.nm, .string c.tx, .int .i64 c.vk, .int .i64 c.vn, .bool c.had]) (by simp)
  have k0 : w2.cell? ⟨gw, 0, none⟩ = some (.int .i64 1) := by rw [kb.cell, ← HYY.out.1]; rfl
  have k1 : w2.cell? ⟨gw, 1, none⟩ = some (.int .i64 c.a) := by rw [kb.cell]; rfl
  have k2 : w2.cell? ⟨gw, 2, none⟩ = some (.int .i64 c.t) := by rw [kb.cell]; rfl
  have c1 := h2.c1
  rw [hv] at c1
  have HN := hide (h2.setTo (t := c.t) hv HY.out)
  have hy := HY.out
  rw [hm, Nat.add_sub_cancel] at hy HN
  rw [hm] at c1
  obtain ⟨p0, -, p2, -, -, -, -, -, -⟩ := hat m y hy
  rw [HYY.out.2.1] at p0
  rw [HYY.out.2.2] at p2
  have f2 := hfz (off + m * 9 + 2)
  have hl2 : m + 1 ≤ 1000000 := by have := HLL.out; omega
  have HM := hide hm
  have hi3 : (0 : Int) ≤ (m : Int) := by omega
  have hi4 : (m : Int) < (m : Int) + 1 := by omega
  have hw : IntKind.i64.wrap ((m : Int) + 1 - 1) = (m : Int) := by rw [Int.add_sub_cancel]; exact IntWalk.i64_in _ (by omega)
  clear hb h2 kb hy hat hv hm hfz H1 HC hgw
  go_wp2_with fail
  go_quiet (fail)
  go_wp2_with fail
  go_region
  go_wp2
  go_ret
  refine ⟨by rw [HCH.out]; rfl, b, rfl, ?_⟩
  rw [HA.out, HM.out, Nat.add_sub_cancel]
  have h9 : RefAt W ((w2.drewN (nq + 1)).setCell _ _) b _ (_ :: R) := HN.out.below ⟨rfl, rfl, rfl, Nat.le_refl _, fun _ _ => rfl⟩
  exact h9.sub (List.sublist_cons_self ..)
end
end Go.Proofs.YtnbhejbpofjamaaGreatDoor
namespace Go.Proofs.YtnbhejbpofjamaaGreatDoor
open Go.RowKit
section
variable {W w w' : World} {b : Lb} {s : Lg} {R : Heap}
/-- The log between the append and its stores. -/
structure RefMid (W w : World) (b : Lb) (v : Value) (s : Lg) (c : Chg) (R : Heap) : Prop where
  own : Own W w (chgRow v (s.O ++ [c]) ++ ((b.lb, .cells 213 (refCells b s)) :: (rowOf 190 1 b.gv b.gs.length (b.gs.map (·.1)) ++ (grpHeap b.gs ++ R))))
  ok : LbOk b s
  okv : RowOk v (s.O.length + 1)
theorem RefMid.below {v : Value} {c : Chg} (h : RefMid W w b v s c R) (hb : Below w.heap.size w w') : RefMid W w' b v s c R := ⟨h.own.below hb, h.ok, h.okv⟩
theorem RefAt.mid {v' : Value} {c : Chg} (h : RefAt W w b s R) (hs : Sl w' 161 9 v' (s.O.length + 1) (rows Chg.cells s.O ++ c.cells)) (ho : Only (fun g => b.ov.ownBlock = some g) w w') (hv : v'.ownBlock = b.ov.ownBlock ∨ v'.ownBlock = some w.heap.size) : RefMid W w' b v' s c R := by
  have e : rows Chg.cells s.O ++ c.cells = rows Chg.cells (s.O ++ [c]) := by rw [rows_append, rows_one]
  have el : (s.O ++ [c]).length = s.O.length + 1 := by simp
  have hok := hs.rowOk
  rw [e] at hs
  have h1 := h.toO
  unfold chgRow at h1
  have h2 := h1.appended hs ho hv
  exact ⟨by unfold chgRow; rw [el]; exact h2, h.ok, hok⟩
theorem RefMid.done {v : Value} {c : Chg} (h : RefMid W w b v s c R) (p : Int) : RefAt W ((w.setCell ⟨b.lb, 1, none⟩ v).setCell ⟨b.lb, 5, none⟩ (.int .i64 (s.now + p))) { b with ov := v } { s with O := s.O ++ [c], cost := s.cost + p, now := s.now + p } R := by
  have h3 : Own W w (((b.lb, .cells 213 (refCells b s)) :: (rowOf 190 1 b.gv b.gs.length (b.gs.map (·.1)) ++ (grpHeap b.gs ++ R))) ++ chgRow v (s.O ++ [c])) := h.own.perm List.perm_append_comm
  have h4 := (h3.setCell 1 v).setCell 5 (.int .i64 (s.now + p))
  refine RefAt.ofO (O := s.O ++ [c]) (cs := ((refCells b s).setIfInBounds 1 v).setIfInBounds 5 (.int .i64 (s.now + p))) ?_ h.ok.grp h.ok.okG ?_ h.ok.okg rfl ?_
  · exact (show Own W _ (((b.lb, .cells 213 (((refCells b s).setIfInBounds 1 v).setIfInBounds 5 (.int .i64 (s.now + p)))) :: (rowOf 190 1 b.gv b.gs.length (b.gs.map (·.1)) ++ (grpHeap b.gs ++ R))) ++ chgRow v (s.O ++ [c])) from h4).perm List.perm_append_comm
  · show RowOk v (s.O ++ [c]).length
    rw [show (s.O ++ [c]).length = s.O.length + 1 by simp]
    exact h.okv
  · simp only [refCells]
    rw [show s.cost + p - (s.now + p) = s.cost - s.now by omega]
    rfl
/-- What the loads of the last statement read. -/
def AddS (lb gw : Nat) (ov : Value) (now : Int) (c : Chg) (w' : World) : Prop :=
  w'.cell? ⟨lb, 1, none⟩ = some ov ∧ w'.cell? ⟨lb, 5, none⟩ = some (.int .i64 now) ∧ w'.cell? ⟨gw, 0, none⟩ = some (.int .i64 c.k) ∧ w'.cell? ⟨gw, 1, none⟩ = some (.int .i64 c.a) ∧ w'.cell? ⟨gw, 2, none⟩ = some (.int .i64 c.t) ∧ w'.cell? ⟨gw, 3, none⟩ = some (.int .i64 c.id) ∧ w'.cell? ⟨gw, 4, none⟩ = some (.int .i64 c.nm) ∧ w'.cell? ⟨gw, 5, none⟩ = some (.string c.tx) ∧ w'.cell? ⟨gw, 6, none⟩ = some (.int .i64 c.vk) ∧ w'.cell? ⟨gw, 7, none⟩ = some (.int .i64 c.vn) ∧ w'.cell? ⟨gw, 8, none⟩ = some (.bool c.had)
abbrev chgBox (g : Nat) (c : Chg) : Nat × Ast := (g, .cells 161 #[.int .i64 c.k, .int .i64 c.a, .int .i64 c.t, .int .i64 c.id, .int .i64 c.nm, .string c.tx, .int .i64 c.vk, .int .i64 c.vn, .bool c.had])
theorem addS_of {gw : Nat} {c : Chg} {L : Heap} (h : Own W w L) (h1 : (b.lb, Ast.cells 213 (refCells b s)) ∈ L) (h2 : chgBox gw c ∈ L) : AddS b.lb gw b.ov s.now c w := by
  have k := h.blk h1
  have q := h.blk h2
  exact ⟨k.cell 1, k.cell 5, q.cell 0, q.cell 1, q.cell 2, q.cell 3, q.cell 4, q.cell 5, q.cell 6, q.cell 7, q.cell 8⟩
theorem RefAt.addS {gw : Nat} {c : Chg} (h : RefAt W w b s (chgBox gw c :: R)) : AddS b.lb gw b.ov s.now c w := addS_of h.own (by simp [Lb.rheap]) (by simp)
theorem RefMid.addS {gw : Nat} {v : Value} {c d : Chg} (h : RefMid W w b v s c (chgBox gw d :: R)) : AddS b.lb gw b.ov s.now d w := addS_of h.own (by simp) (by simp)
set_option maxRecDepth 100000 in
set_option maxHeartbeats 4000000 in
theorem radd_push (h : RefAt W w b s R) (c : Chg) (hs : c.tx.size ≤ 1099511627776) (hl : s.O.length ≤ 1000000) (hc : c.check = 0) (hj : s.joins c = false) (hn : 0 ≤ s.now ∧ s.now ≤ s.cost ∧ s.cost ≤ 1099511627776) : Calls Tryz.prog 157 #[.pointer (some ⟨b.lb, 0, none⟩), c.val] w (RAddRes W b s R c) := by
  have HA := hide (show s.add c = (if 1048576 < s.now + c.price then s.clear else s).push c by rw [add_eq hc]; unfold Lg.add0; rw [if_neg (by rw [hj]; simp)])
  have H1 := hide (h.box 161 #[.int .i64 c.k, .int .i64 c.a, .int .i64 c.t, .int .i64 c.id, .int .i64 c.nm, .string c.tx, .int .i64 c.vk, .int .i64 c.vn, .bool c.had])
  have HC := hide (rcheck_any c (w.alloc (.cells #[.int .i64 c.k, .int .i64 c.a, .int .i64 c.t, .int .i64 c.id, .int .i64 c.nm, .string c.tx, .int .i64 c.vk, .int .i64 c.vn, .bool c.had] 161)) hs)
  rw [hc] at HC
  have HCC := hide hc
  have HJ := hide (joins_no hj)
  have HS := hide hs
  have HL := hide hl
  have HN := hide hn
  clear h hc hj hs hl hn
  go_enter Tryz.func157, Tryz.ntmps157
  go_wp2_with fail
  refine (Calls.mono HC.out) ?_
  rintro e w2 ⟨rfl, hb⟩
  obtain ⟨gw, hgw⟩ : ∃ gw, gw = w.heap.size := ⟨_, rfl⟩
  have H2 := hide (show RefAt W w2 b s (chgBox gw c :: R) by rw [hgw]; exact H1.out.below hb)
  rw [← hgw]
  clear hb hgw HC H1
  obtain ⟨A1, d1, hv1, _⟩ := H2.out.slO.form
  obtain ⟨nO, hnO⟩ : ∃ nO, nO = s.O.length := ⟨_, rfl⟩
  have HNO := hide hnO
  have c1 := H2.out.c1
  rw [hv1, ← hnO] at c1
  have hnb : nO ≤ 1000000 := by rw [hnO]; exact HL.out
  clear hv1 hnO
  go_upto_region 5 with fail
  go_cut [49] (fun v wx => v = .bool false ∧ ∃ q, wx = w2.drewN q)
  case first =>
    rcases HJ.out with hO | ⟨n, x, hnl, hx, hcase⟩
    · obtain rfl : nO = 0 := by rw [HNO.out, hO]; rfl
      clear hO
      go_wp2_with fail
      go_quiet (fail)
      go_wp2_with fail
      go_meet
      exact ⟨rfl, _, rfl⟩
    · obtain rfl : nO = n + 1 := by rw [HNO.out, hnl]
      clear c1
      obtain ⟨g, off, cp, hv, hcp, hcm, hgl, hfz, hat⟩ := H2.out.slO.atC (by omega)
      obtain ⟨p0, p1, p2, p3, p4, p5, p6, p7, p8⟩ := hat n x hx
      have c1 := H2.out.c1
      rw [hv, hnl] at c1
      have hi3 : (0 : Int) ≤ (n : Int) := by omega
      have hi4 : (n : Int) < (n : Int) + 1 := by omega
      have hw : IntKind.i64.wrap ((n : Int) + 1 - 1) = (n : Int) := by rw [Int.add_sub_cancel]; exact IntWalk.i64_in _ (by omega)
      obtain ⟨-, -, k0, k1, -⟩ := H2.out.addS
      clear hat hfz hx p1 p3 p4 p5 p6 p7 p8 hv hgl hcp hcm hnl
      rcases hcase with e1 | ⟨e1, e2⟩ | ⟨e1, e2, e3⟩
      · have hz1 : (c.k == 1) = false := by simpa using e1
        clear e1
        go_wp2_with fail
        go_quiet (fail)
        go_wp2_with fail
        go_meet
        exact ⟨rfl, _, rfl⟩
      · have hz1 : (c.k == 1) = true := by simpa using e1
        have hz2 : (x.k == 1) = false := by simpa using e2
        clear e1 e2
        go_wp2_with fail
        go_quiet (fail)
        go_wp2_with fail
        go_meet
        exact ⟨rfl, _, rfl⟩
      · have hz1 : (c.k == 1) = true := by simpa using e1
        have hz2 : (x.k == 1) = true := by simpa using e2
        have hz3 : (x.t == c.a) = false := by simpa using e3
        clear e1 e2 e3
        go_wp2_with fail
        go_quiet (fail)
        go_wp2_with fail
        go_meet
        exact ⟨rfl, _, rfl⟩
  case rest =>
    obtain ⟨rfl, q, rfl⟩ := hcut
    have H3 := hide (H2.out.drewN q)
    clear c1 HJ H2 hnb HNO
    generalize w2.drewN q = w3 at *
    have hno := HN.out.1
    have hno2 : s.now ≤ 1099511627776 := by have := HN.out; omega
    have hpz : (0 : Int) ≤ (c.price : Int) := by omega
    have hpz1 : (c.price : Int) ≤ 140737488355329 := by have := price_le c; have := HS.out; omega
    have HW1 := hide (show IntKind.i64.wrap (s.now + (c.price : Int)) = s.now + (c.price : Int) from IntWalk.i64_in _ (by omega))
    obtain ⟨pr, hpr⟩ : ∃ pr : Int, pr = (c.price : Int) := ⟨_, rfl⟩
    have HPR := hide (fun w => by have := rprice_any c w HS.out; rwa [← hpr] at this : ∀ w, Calls Tryz.prog 185 #[c.val] w fun e w' => e = .returned (.int .i64 pr) ∧ Below w.heap.size w w')
    rw [← hpr] at HW1 HA hpz hpz1
    have HP := hide hpr
    obtain ⟨qb, hqb⟩ : ∃ qb, qb = decide (1048576 < s.now + pr) := ⟨_, rfl⟩
    have HQB := hide hqb
    have hw1 := HW1.out
    have HK := hide (show ∀ wx, RefAt W wx b s (chgBox gw c :: R) → AddS b.lb gw b.ov s.now c wx from fun wx h => h.addS)
    clear hpr hqb
    unfold AddS at HK
    go_upto_region 8 with fail
    go_cut [67] (fun v wx => v = .bool qb ∧ RefAt W wx b s (chgBox gw c :: R))
    case first =>
      go_region_held3 (fun w' => w'.cell? ⟨b.lb, 1, none⟩ = some b.ov ∧ w'.cell? ⟨b.lb, 5, none⟩ = some (.int .i64 s.now) ∧ w'.cell? ⟨gw, 0, none⟩ = some (.int .i64 c.k) ∧ w'.cell? ⟨gw, 1, none⟩ = some (.int .i64 c.a) ∧ w'.cell? ⟨gw, 2, none⟩ = some (.int .i64 c.t) ∧ w'.cell? ⟨gw, 3, none⟩ = some (.int .i64 c.id) ∧ w'.cell? ⟨gw, 4, none⟩ = some (.int .i64 c.nm) ∧ w'.cell? ⟨gw, 5, none⟩ = some (.string c.tx) ∧ w'.cell? ⟨gw, 6, none⟩ = some (.int .i64 c.vk) ∧ w'.cell? ⟨gw, 7, none⟩ = some (.int .i64 c.vn) ∧ w'.cell? ⟨gw, 8, none⟩ = some (.bool c.had))
        (first | exact HK.out _ H3.out.drew | exact HK.out _ H4.out)
        ((go_at_call 185; refine (Calls.mono (HPR.out _)) ?_; rintro e w4 ⟨rfl, hb⟩; have H4 := hide (H3.out.drew.below hb); clear hb))
      all_goals (go_wp2_with fail; go_meet; exact ⟨by rw [HQB.out], H4.out⟩)
    case rest =>
      obtain ⟨rfl, h4⟩ := hcut
      have H4 := hide h4
      clear h4 H3 HK
      go_upto_if 67 with fail
      go_cut [] (fun wx => ∃ b5 s5, b5.lb = b.lb ∧ RefAt W wx b5 s5 (chgBox gw c :: R) ∧ s.add c = s5.push c ∧ s5.O.length ≤ 1000000 ∧ 0 ≤ s5.now ∧ s5.now ≤ s5.cost ∧ s5.cost ≤ 1099511627776)
      case first =>
        cases qb with
        | true =>
          have hbig : 1048576 < s.now + pr := by simpa using HQB.out.symm
          have HE := hide (show s.add c = s.clear.push c by rw [HA.out, if_pos hbig])
          have HCL := hide (rclear_any H4.out)
          clear hbig
          go_wp2_with fail
          refine (Calls.mono HCL.out) ?_
          rintro e w5 ⟨rfl, h5⟩
          have H5 := hide h5
          clear h5
          go_wp2_with fail
          go_meet
          exact ⟨b.cleared, s.clear, rfl, H5.out, HE.out, Nat.zero_le _, Int.le_refl _, Int.le_refl _, by show (0 : Int) ≤ _; omega⟩
        | false =>
          have hbig : ¬ 1048576 < s.now + pr := by simpa using HQB.out.symm
          have HE := hide (show s.add c = s.push c by rw [HA.out, if_neg hbig])
          clear hbig
          go_wp2_with fail
          go_meet
          exact ⟨b, s, rfl, H4.out, HE.out, HL.out, HN.out.1, HN.out.2.1, HN.out.2.2⟩
      case rest =>
        obtain ⟨⟨lb5, gv5, ov5, gs5⟩, s5, hlb, h5, hadd, hO5, hn1, hn2, hn3⟩ := hcut
        obtain rfl : lb5 = b.lb := hlb
        obtain ⟨A5, d5, hv5, _⟩ := h5.slO.form
        obtain rfl : ov5 = .slice A5 s5.O.length d5 := hv5
        have HADD := hide hadd
        have HB := hide hO5
        have H5 := hide h5
        have hw5 : IntKind.i64.wrap (s5.now + pr) = s5.now + pr := IntWalk.i64_in _ (by omega)
        obtain ⟨i0, hi, hz0, hz1, hz2⟩ := info_parts info_chg
        have HI := hide hi
        have HZ := hide hz0
        have HZ1 := hide hz1
        have HZ2 := hide hz2
        have hS : AddS b.lb gw (.slice A5 s5.O.length d5) s5.now c wc.drew := h5.drew.addS
        have HSL := hide (show Sl (wc.drew.alloc (.cells #[.int .i64 c.k, .int .i64 c.a, .int .i64 c.t, .int .i64 c.id, .int .i64 c.nm, .string c.tx, .int .i64 c.vk, .int .i64 c.vn, .bool c.had] 161)) 161 9 (.slice A5 s5.O.length d5) s5.O.length (rows Chg.cells s5.O) from (h5.drew.skip _).slO)
        have HX := hide (h5.drew.skip (.cells #[.int .i64 c.k, .int .i64 c.a, .int .i64 c.t, .int .i64 c.id, .int .i64 c.nm, .string c.tx, .int .i64 c.vk, .int .i64 c.vn, .bool c.had] 161))
        clear h5 hadd hO5 hi hz0 hz1 hz2 H4 HL HN HA hw1 HW1 hno hno2 hn1 hn2 hn3
        go_upto_region 10 with fail
        refine wp_region_d (S := AddS b.lb gw (.slice A5 s5.O.length d5) s5.now c) (D := [18, 19, 20, 21]) (by kernel_rfl) ?_
        change wpAnyD _ _ _ _ _ _ _ _ _ (World.drew _)
        refine wpAnyD_takeW (i := 0) (oi := { dst := some 70, op := Op.move (Operand.tmp 0), type := 58, pos := "ref.go:70", after := #[], guard := none }) (v := ?_) rfl (by kernel_rfl) (by kernel_rfl) (by kernel_rfl) (fun _ _ _ h => h) (Or.inl ⟨by rfl, ?_⟩) ?_
        rotate_left
        · intro w hSw
          clear hSw
          go_simp
          all_goals with_reducible rfl
        simp only [Act.put, List.setIfInBounds_toArray, List.set_cons_zero, List.set_cons_succ]
        refine wpAnyD_takeW (i := 1) (oi := { dst := some 71, op := Op.move (Operand.tmp 0), type := 58, pos := "ref.go:70", after := #[{ on := 18, ground := Ground.gcOnly Departure.lateStores }], guard := none }) (v := ?_) rfl (by kernel_rfl) (by kernel_rfl) (by kernel_rfl) (fun _ _ _ h => h) (Or.inl ⟨by rfl, ?_⟩) ?_
        rotate_left
        · intro w hSw
          clear hSw
          go_simp
          all_goals with_reducible rfl
        simp only [Act.put, List.setIfInBounds_toArray, List.set_cons_zero, List.set_cons_succ]
        refine wpAnyD_takeW (i := 2) (oi := { dst := some 72, op := Op.move (Operand.tmp 0), type := 58, pos := "ref.go:70", after := #[], guard := none }) (v := ?_) rfl (by kernel_rfl) (by kernel_rfl) (by kernel_rfl) (fun _ _ _ h => h) (Or.inl ⟨by rfl, ?_⟩) ?_
        rotate_left
        · intro w hSw
          clear hSw
          go_simp
          all_goals with_reducible rfl
        simp only [Act.put, List.setIfInBounds_toArray, List.set_cons_zero, List.set_cons_succ]
        refine wpAnyD_takeW (i := 3) (oi := { dst := some 73, op := Op.nilCheck (Operand.tmp 72), type := 0, pos := "ref.go:70", after := #[{ on := 2, ground := Ground.data }], guard := none }) (v := ?_) rfl (by kernel_rfl) (by kernel_rfl) (by kernel_rfl) (fun _ _ _ h => h) (Or.inl ⟨by rfl, ?_⟩) ?_
        rotate_left
        · intro w hSw
          clear hSw
          go_simp
          all_goals with_reducible rfl
        simp only [Act.put, List.setIfInBounds_toArray, List.set_cons_zero, List.set_cons_succ]
        refine wpAnyD_takeW (i := 4) (oi := { dst := some 74, op := Op.fieldAddr 213 (Operand.tmp 73) 1, type := 0, pos := "ref.go:70", after := #[{ on := 3, ground := Ground.data }], guard := none }) (v := ?_) rfl (by kernel_rfl) (by kernel_rfl) (by kernel_rfl) (fun _ _ _ h => h) (Or.inl ⟨by rfl, ?_⟩) ?_
        rotate_left
        · intro w hSw
          clear hSw
          go_simp
          all_goals with_reducible rfl
        simp only [Act.put, List.setIfInBounds_toArray, List.set_cons_zero, List.set_cons_succ]
        refine wpAnyD_take (i := 5) (oi := { dst := some 75, op := Op.load 190 (Operand.tmp 74), type := 190, pos := "ref.go:70", after := #[{ on := 4, ground := Ground.data }], guard := none }) (v := ?_) rfl (by kernel_rfl) (by kernel_rfl) (by kernel_rfl) (by kernel_rfl) (by kernel_rfl) (fun _ _ _ h => h) (Or.inl ⟨by rfl, ?_⟩) hS ?_
        rotate_left
        · intro w hSw
          unfold AddS at hSw
          go_split_ands
          go_simp
          all_goals with_reducible rfl
        simp only [Act.put, List.setIfInBounds_toArray, List.set_cons_zero, List.set_cons_succ]
        refine wpAnyD_take (i := 6) (oi := { dst := some 76, op := Op.load 161 (Operand.tmp 3), type := 161, pos := "ref.go:70", after := #[], guard := none }) (v := ?_) rfl (by kernel_rfl) (by kernel_rfl) (by kernel_rfl) (by kernel_rfl) (by kernel_rfl) (fun _ _ _ h => h) (Or.inl ⟨by rfl, ?_⟩) hS ?_
        rotate_left
        · intro w hSw
          unfold AddS at hSw
          go_split_ands
          go_simp
          all_goals with_reducible rfl
        simp only [Act.put, List.setIfInBounds_toArray, List.set_cons_zero, List.set_cons_succ]
        refine wpAnyD_takeW (i := 9) (oi := { dst := some 79, op := Op.move (Operand.tmp 0), type := 58, pos := "ref.go:70", after := #[], guard := none }) (v := ?_) rfl (by kernel_rfl) (by kernel_rfl) (by kernel_rfl) (fun _ _ _ h => h) (Or.inl ⟨by rfl, ?_⟩) ?_
        rotate_left
        · intro w hSw
          clear hSw
          go_simp
          all_goals with_reducible rfl
        simp only [Act.put, List.setIfInBounds_toArray, List.set_cons_zero, List.set_cons_succ]
        refine wpAnyD_takeW (i := 10) (oi := { dst := some 80, op := Op.nilCheck (Operand.tmp 79), type := 0, pos := "ref.go:70", after := #[{ on := 9, ground := Ground.data }], guard := none }) (v := ?_) rfl (by kernel_rfl) (by kernel_rfl) (by kernel_rfl) (fun _ _ _ h => h) (Or.inl ⟨by rfl, ?_⟩) ?_
        rotate_left
        · intro w hSw
          clear hSw
          go_simp
          all_goals with_reducible rfl
        simp only [Act.put, List.setIfInBounds_toArray, List.set_cons_zero, List.set_cons_succ]
        refine wpAnyD_takeW (i := 11) (oi := { dst := some 81, op := Op.fieldAddr 213 (Operand.tmp 80) 5, type := 0, pos := "ref.go:70", after := #[{ on := 10, ground := Ground.data }], guard := none }) (v := ?_) rfl (by kernel_rfl) (by kernel_rfl) (by kernel_rfl) (fun _ _ _ h => h) (Or.inl ⟨by rfl, ?_⟩) ?_
        rotate_left
        · intro w hSw
          clear hSw
          go_simp
          all_goals with_reducible rfl
        simp only [Act.put, List.setIfInBounds_toArray, List.set_cons_zero, List.set_cons_succ]
        refine wpAnyD_take (i := 12) (oi := { dst := some 82, op := Op.load 3 (Operand.tmp 81), type := 3, pos := "ref.go:70", after := #[{ on := 11, ground := Ground.data }], guard := none }) (v := ?_) rfl (by kernel_rfl) (by kernel_rfl) (by kernel_rfl) (by kernel_rfl) (by kernel_rfl) (fun _ _ _ h => h) (Or.inl ⟨by rfl, ?_⟩) hS ?_
        rotate_left
        · intro w hSw
          unfold AddS at hSw
          go_split_ands
          go_simp
          all_goals with_reducible rfl
        simp only [Act.put, List.setIfInBounds_toArray, List.set_cons_zero, List.set_cons_succ]
        refine wpAnyD_take (i := 13) (oi := { dst := some 83, op := Op.load 161 (Operand.tmp 3), type := 161, pos := "ref.go:70", after := #[], guard := none }) (v := ?_) rfl (by kernel_rfl) (by kernel_rfl) (by kernel_rfl) (by kernel_rfl) (by kernel_rfl) (fun _ _ _ h => h) (Or.inl ⟨by rfl, ?_⟩) hS ?_
        rotate_left
        · intro w hSw
          unfold AddS at hSw
          go_split_ands
          go_simp
          all_goals with_reducible rfl
        simp only [Act.put, List.setIfInBounds_toArray, List.set_cons_zero, List.set_cons_succ]
        refine wpAnyD_one (i := 7) (o := { dst := some 77, op := Op.buildSlice 190 1 #[(0, Operand.tmp 76)], type := 190, pos := "ref.go:70", after := #[{ on := 6, ground := Ground.data }], guard := none }) (by kernel_rfl) rfl (fun K hK => ?_)
        obtain ⟨q0, q1, q2, q3, q4, q5, q6, q7, q8, q9, q10⟩ := hS
        go_simp
        refine hK _ _ (fun _ _ => HX.out.addS) ?_
        clear hK K q0 q1 q2 q3 q4 q5 q6 q7 q8 q9 q10
        have hS := HX.out.addS
        refine wpAnyD_one (i := 8) (o := { dst := some 78, op := Op.call { callee := Callee.builtin Builtin.append, args := #[Operand.tmp 75, Operand.tmp 77], argTypes := #[190, 190] }, type := 190, pos := "ref.go:70", after := #[{ on := 5, ground := Ground.data }, { on := 7, ground := Ground.data }], guard := none }) (by kernel_rfl) rfl (fun K hK => ?_)
        refine step_append_sl rfl (.tmp 75) (.tmp 77) 190 rfl 161 i0 _ 9 80 Tryz.underlying190 HI.out HZ.out HZ1.out HZ2.out rfl _ s5.O.length (rows Chg.cells s5.O) rfl HSL.out _ rfl 1 _ (rd_elem wc.drew 161 9 (Chg.cells c) rfl) (chg_one _) (by have := HB.out; unfold maxLen; omega) (by have := HB.out; omega) ?_
        intro v' w6 hs6 ho6 hv6
        obtain ⟨A6, d6, rfl, _⟩ := id hs6.form
        have hm := HX.out.mid (b := ⟨b.lb, gv5, .slice A5 s5.O.length d5, gs5⟩) hs6 ho6 hv6
        have HM := hide hm
        refine hK _ _ (fun _ _ => hm.addS) ?_
        clear hK K hS hs6 ho6 hv6
        have hS : AddS b.lb gw (.slice A5 s5.O.length d5) s5.now c w6 := hm.addS
        clear hm HSL HX
        simp only [Act.put, List.setIfInBounds_toArray, List.set_cons_zero, List.set_cons_succ]
        refine wpAnyD_one (i := 14) (o := { dst := some 84, op := Op.call { callee := Callee.value (Operand.func 185), args := #[Operand.tmp 83], argTypes := #[161] }, type := 3, pos := "ref.go:70", after := #[{ on := 13, ground := Ground.data }, { on := 8, ground := Ground.chain }], guard := none }) (by kernel_rfl) rfl (fun K hK => ?_)
        go_simp
        refine (Calls.mono (HPR.out _)) ?_
        rintro e w7 ⟨rfl, hb⟩
        have hm := HM.out.below hb
        have HM7 := hide hm
        clear hb HM
        go_wp2_with fail
        refine hK _ _ (fun _ _ => hm.addS) ?_
        clear hK K hS
        have hS : AddS b.lb gw (.slice A5 s5.O.length d5) s5.now c w7 := hm.addS
        clear hm
        refine wpAnyD_takeW (i := 15) (oi := { dst := some 85, op := Op.binOp BinOp.add 3 (Operand.tmp 82) (Operand.tmp 84) 3, type := 3, pos := "ref.go:70", after := #[{ on := 12, ground := Ground.data }, { on := 14, ground := Ground.data }], guard := none }) (v := ?_) rfl (by kernel_rfl) (by kernel_rfl) (by kernel_rfl) (fun _ _ _ h => h) (Or.inl ⟨by rfl, ?_⟩) ?_
        rotate_left
        · intro w hSw
          clear hSw
          go_simp
          all_goals with_reducible rfl
        simp only [Act.put, List.setIfInBounds_toArray, List.set_cons_zero, List.set_cons_succ]
        refine wpAnyD_takeW (i := 16) (oi := { dst := some 86, op := Op.nilCheck (Operand.tmp 70), type := 0, pos := "ref.go:70", after := #[{ on := 0, ground := Ground.data }, { on := 0, ground := Ground.phase }, { on := 1, ground := Ground.textOnly Departure.lateStores }, { on := 2, ground := Ground.phase }, { on := 3, ground := Ground.phase }, { on := 4, ground := Ground.phase }, { on := 5, ground := Ground.phase }, { on := 6, ground := Ground.phase }, { on := 7, ground := Ground.phase }, { on := 8, ground := Ground.phase }, { on := 9, ground := Ground.textOnly Departure.lateStores }, { on := 10, ground := Ground.textOnly Departure.lateStoresUnsure }, { on := 11, ground := Ground.textOnly Departure.lateStoresUnsure }, { on := 12, ground := Ground.phase }, { on := 13, ground := Ground.textOnly Departure.lateStores }, { on := 14, ground := Ground.phase }, { on := 15, ground := Ground.textOnly Departure.lateStoresUnsure }], guard := none }) (v := ?_) rfl (by kernel_rfl) (by kernel_rfl) (by kernel_rfl) (fun _ _ _ h => h) (Or.inl ⟨by rfl, ?_⟩) ?_
        rotate_left
        · intro w hSw
          clear hSw
          go_simp
          all_goals with_reducible rfl
        simp only [Act.put, List.setIfInBounds_toArray, List.set_cons_zero, List.set_cons_succ]
        refine wpAnyD_takeW (i := 17) (oi := { dst := some 87, op := Op.fieldAddr 213 (Operand.tmp 86) 1, type := 0, pos := "ref.go:70", after := #[{ on := 16, ground := Ground.data }, { on := 0, ground := Ground.phase }, { on := 1, ground := Ground.textOnly Departure.lateStores }, { on := 2, ground := Ground.phase }, { on := 3, ground := Ground.phase }, { on := 4, ground := Ground.phase }, { on := 5, ground := Ground.phase }, { on := 6, ground := Ground.phase }, { on := 7, ground := Ground.phase }, { on := 8, ground := Ground.phase }, { on := 9, ground := Ground.textOnly Departure.lateStores }, { on := 10, ground := Ground.textOnly Departure.lateStoresUnsure }, { on := 11, ground := Ground.textOnly Departure.lateStoresUnsure }, { on := 12, ground := Ground.phase }, { on := 13, ground := Ground.textOnly Departure.lateStores }, { on := 14, ground := Ground.phase }, { on := 15, ground := Ground.textOnly Departure.lateStoresUnsure }], guard := none }) (v := ?_) rfl (by kernel_rfl) (by kernel_rfl) (by kernel_rfl) (fun _ _ _ h => h) (Or.inl ⟨by rfl, ?_⟩) ?_
        rotate_left
        · intro w hSw
          clear hSw
          go_simp
          all_goals with_reducible rfl
        simp only [Act.put, List.setIfInBounds_toArray, List.set_cons_zero, List.set_cons_succ]
        refine wpAnyD_one (i := 18) (o := { dst := none, op := Op.store 190 (Operand.tmp 87) (Operand.tmp 78), type := 0, pos := "ref.go:70", after := #[{ on := 17, ground := Ground.data }, { on := 8, ground := Ground.data }, { on := 14, ground := Ground.chain }, { on := 0, ground := Ground.phase }, { on := 1, ground := Ground.textOnly Departure.lateStores }, { on := 2, ground := Ground.phase }, { on := 3, ground := Ground.phase }, { on := 4, ground := Ground.phase }, { on := 5, ground := Ground.phase }, { on := 6, ground := Ground.phase }, { on := 7, ground := Ground.phase }, { on := 8, ground := Ground.phase }, { on := 9, ground := Ground.textOnly Departure.lateStores }, { on := 10, ground := Ground.textOnly Departure.lateStoresUnsure }, { on := 11, ground := Ground.textOnly Departure.lateStoresUnsure }, { on := 12, ground := Ground.phase }, { on := 13, ground := Ground.textOnly Departure.lateStores }, { on := 14, ground := Ground.phase }, { on := 15, ground := Ground.textOnly Departure.lateStoresUnsure }], guard := none }) (by kernel_rfl) rfl (fun K hK => ?_)
        obtain ⟨q0, q1, -⟩ := hS
        have kb : Blk w7 b.lb 213 (refCells ⟨b.lb, gv5, .slice A5 s5.O.length d5, gs5⟩ s5) := HM7.out.own.blk (by simp)
        have f1 := kb.frozen 1
        have f5 := kb.frozen 5
        clear kb
        go_simp
        refine hK _ _ (fun h _ => absurd h (by decide)) ?_
        clear hK K
        refine wpAnyD_takeW (i := 19) (oi := { dst := some 88, op := Op.nilCheck (Operand.tmp 71), type := 0, pos := "ref.go:70", after := #[{ on := 1, ground := Ground.data }, { on := 0, ground := Ground.phase }, { on := 1, ground := Ground.phase }, { on := 2, ground := Ground.phase }, { on := 3, ground := Ground.phase }, { on := 4, ground := Ground.phase }, { on := 5, ground := Ground.phase }, { on := 6, ground := Ground.phase }, { on := 7, ground := Ground.phase }, { on := 8, ground := Ground.phase }, { on := 9, ground := Ground.phase }, { on := 10, ground := Ground.phase }, { on := 11, ground := Ground.phase }, { on := 12, ground := Ground.phase }, { on := 13, ground := Ground.phase }, { on := 14, ground := Ground.phase }, { on := 15, ground := Ground.phase }, { on := 16, ground := Ground.phase }, { on := 17, ground := Ground.phase }, { on := 18, ground := Ground.phase }], guard := none }) (v := ?_) rfl (by kernel_rfl) (by kernel_rfl) (by kernel_rfl) (fun _ _ _ h => h) (Or.inl ⟨by rfl, ?_⟩) ?_
        rotate_left
        · intro w hSw
          clear hSw
          go_simp
          all_goals with_reducible rfl
        simp only [Act.put, List.setIfInBounds_toArray, List.set_cons_zero, List.set_cons_succ]
        refine wpAnyD_takeW (i := 20) (oi := { dst := some 89, op := Op.fieldAddr 213 (Operand.tmp 88) 5, type := 0, pos := "ref.go:70", after := #[{ on := 19, ground := Ground.data }, { on := 0, ground := Ground.phase }, { on := 1, ground := Ground.phase }, { on := 2, ground := Ground.phase }, { on := 3, ground := Ground.phase }, { on := 4, ground := Ground.phase }, { on := 5, ground := Ground.phase }, { on := 6, ground := Ground.phase }, { on := 7, ground := Ground.phase }, { on := 8, ground := Ground.phase }, { on := 9, ground := Ground.phase }, { on := 10, ground := Ground.phase }, { on := 11, ground := Ground.phase }, { on := 12, ground := Ground.phase }, { on := 13, ground := Ground.phase }, { on := 14, ground := Ground.phase }, { on := 15, ground := Ground.phase }, { on := 16, ground := Ground.phase }, { on := 17, ground := Ground.phase }, { on := 18, ground := Ground.phase }], guard := none }) (v := ?_) rfl (by kernel_rfl) (by kernel_rfl) (by kernel_rfl) (fun _ _ _ h => h) (Or.inl ⟨by rfl, ?_⟩) ?_
        rotate_left
        · intro w hSw
          clear hSw
          go_simp
          all_goals with_reducible rfl
        simp only [Act.put, List.setIfInBounds_toArray, List.set_cons_zero, List.set_cons_succ]
        refine wpAnyD_one (i := 21) (o := { dst := none, op := Op.store 3 (Operand.tmp 89) (Operand.tmp 85), type := 0, pos := "ref.go:70", after := #[{ on := 20, ground := Ground.data }, { on := 15, ground := Ground.data }, { on := 18, ground := Ground.chain }, { on := 0, ground := Ground.phase }, { on := 1, ground := Ground.phase }, { on := 2, ground := Ground.phase }, { on := 3, ground := Ground.phase }, { on := 4, ground := Ground.phase }, { on := 5, ground := Ground.phase }, { on := 6, ground := Ground.phase }, { on := 7, ground := Ground.phase }, { on := 8, ground := Ground.phase }, { on := 9, ground := Ground.phase }, { on := 10, ground := Ground.phase }, { on := 11, ground := Ground.phase }, { on := 12, ground := Ground.phase }, { on := 13, ground := Ground.phase }, { on := 14, ground := Ground.phase }, { on := 15, ground := Ground.phase }, { on := 16, ground := Ground.phase }, { on := 17, ground := Ground.phase }, { on := 18, ground := Ground.phase }], guard := none }) (by kernel_rfl) rfl (fun K hK => ?_)
        go_simp
        refine hK _ _ (fun h _ => absurd h (by decide)) ?_
        clear hK K
        refine wpAnyD_done (by kernel_rfl) ?_ _
        go_wp2_with fail
        go_ret
        refine ⟨by rw [HCC.out]; rfl, ⟨b.lb, gv5, .slice A6 (s5.O.length + 1) d6, gs5⟩, rfl, ?_⟩
        rw [HADD.out]
        rw [show s5.push c = { s5 with O := s5.O ++ [c], cost := s5.cost + pr, now := s5.now + pr } by rw [HP.out]; rfl]
        exact (HM7.out.done pr).sub (List.sublist_cons_self ..)
end
end Go.Proofs.YtnbhejbpofjamaaGreatDoor
