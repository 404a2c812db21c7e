/- A buffer: a change is noted. No condition but those written. -/
import Derived.Test.YtnbhejbpofjamaaGreatDoorBkh
namespace Go.Proofs.YtnbhejbpofjamaaGreatDoor
open Go.RowKit

def cClean : Chg := ⟨6, 0, 0, 0, 0, ⟨#[]⟩, 0, 0, false⟩
def cPoint (a : Nat) : Chg := ⟨4, (a : Int), 0, 0, 0, ⟨#[]⟩, 0, 0, false⟩
def cIns (a t : Nat) : Chg := ⟨1, (a : Int), (t : Int), 0, 0, ⟨#[]⟩, 0, 0, false⟩
def lg0 : Lg := Lg.new 1048576
def lg1 : Lg := ⟨1048576, [], [cClean], -1, 1, 1⟩
def lg2 (a : Nat) : Lg := ⟨1048576, [], [cClean, cPoint a], -1, 2, 2⟩
def lg3 (a t : Nat) : Lg := ⟨1048576, [], [cClean, cPoint a, cIns a t], -1, 3, 3⟩
theorem chk_clean : cClean.check = 0 := by decide
theorem chk_point {a : Nat} (h1 : 1 ≤ a) (h2 : a ≤ 1000000) : (cPoint a).check = 0 := by
  simp [Chg.check, cPoint]
  omega
theorem chk_ins {a t : Nat} (h1 : 1 ≤ a) (h2 : a ≤ t) (h3 : t ≤ 1000000) : (cIns a t).check = 0 := by
  simp [Chg.check, cIns]
  omega
theorem add_0 : lg0.add cClean = lg1 := by
  rw [add_eq chk_clean]
  rfl
theorem add_1 {a : Nat} (h1 : 1 ≤ a) (h2 : a ≤ 1000000) : lg1.add (cPoint a) = lg2 a := by
  rw [add_eq (chk_point h1 h2)]
  rfl
theorem add_2 {a t : Nat} (h1 : 1 ≤ a) (h2 : a ≤ t) (h3 : t ≤ 1000000) : (lg2 a).add (cIns a t) = lg3 a t := by
  rw [add_eq (chk_ins h1 h2 h3)]
  rfl
theorem joins_3 (a t t2 : Nat) : (lg3 a t).joins (cIns t t2) = true := by
  simp [Lg.joins, lg3, cIns]
theorem add_3 {a t t2 : Nat} (h1 : 1 ≤ t) (h2 : t ≤ t2) (h3 : t2 ≤ 1000000) : (lg3 a t).add (cIns t t2) = lg3 a t2 := by
  rw [add_eq (chk_ins h1 h2 h3)]
  unfold Lg.add0
  rw [if_pos (joins_3 a t t2)]
  rfl
section
variable {W w w' : World} {b : Lb} {R : Heap}
theorem call_clean (h : LogAt W w b lg0 R) (hR : Rules w) : Calls Tryz.prog 168 #[.pointer (some ⟨b.lb, 0, none⟩), .agg #[.int .i64 6, .int .i64 0, .int .i64 0, .int .i64 0, .int .i64 0, .string ⟨#[]⟩, .int .i64 0, .int .i64 0, .bool false]] w fun e w' => e = .returned (.int .i64 0) ∧ ∃ b', b'.lb = b.lb ∧ LogAt W w' b' lg1 R := by
  have h1 := add_push h (by decide) cClean hR (by decide) chk_clean rfl (by decide) (by decide) (by decide) (by decide) (by decide)
  unfold AddRes at h1
  rw [chk_clean, add_0] at h1
  exact h1
theorem call_point (h : LogAt W w b lg1 R) (hR : Rules w) (a : Nat) (ha : 1 ≤ a) (ha2 : a ≤ 1000000) : Calls Tryz.prog 168 #[.pointer (some ⟨b.lb, 0, none⟩), .agg #[.int .i64 4, .int .i64 (a : Int), .int .i64 0, .int .i64 0, .int .i64 0, .string ⟨#[]⟩, .int .i64 0, .int .i64 0, .bool false]] w fun e w' => e = .returned (.int .i64 0) ∧ ∃ b', b'.lb = b.lb ∧ LogAt W w' b' (lg2 a) R := by
  have h1 := add_push h (by decide) (cPoint a) hR (by show 0 ≤ _; omega) (chk_point ha ha2) rfl (by decide) (by decide) (by decide) (by decide) (by decide)
  unfold AddRes at h1
  rw [chk_point ha ha2, add_1 ha ha2] at h1
  exact h1
theorem call_ins {a : Nat} (h : LogAt W w b (lg2 a) R) (hR : Rules w) (t : Nat) (ha : 1 ≤ a) (ha2 : a ≤ t) (ha3 : t ≤ 1000000) : Calls Tryz.prog 168 #[.pointer (some ⟨b.lb, 0, none⟩), .agg #[.int .i64 1, .int .i64 (a : Int), .int .i64 (t : Int), .int .i64 0, .int .i64 0, .string ⟨#[]⟩, .int .i64 0, .int .i64 0, .bool false]] w fun e w' => e = .returned (.int .i64 0) ∧ ∃ b', b'.lb = b.lb ∧ LogAt W w' b' (lg3 a t) R := by
  have h1 := add_push h (by show (1 : Int) ≤ 1048576; omega) (cIns a t) hR (by show 0 ≤ _; omega) (chk_ins ha ha2 ha3) rfl (by show 2 ≤ _; omega) (by show (0 : Int) ≤ 2; omega) (by show (2 : Int) ≤ _; omega) (by show (0 : Int) ≤ 2; omega) (by show (2 : Int) ≤ _; omega)
  unfold AddRes at h1
  rw [chk_ins ha ha2 ha3, add_2 ha ha2 ha3] at h1
  exact h1
theorem call_more {a : Nat} (t : Nat) (h : LogAt W w b (lg3 a t) R) (hR : Rules w) (t2 : Nat) (ha : 1 ≤ t) (ha2 : t ≤ t2) (ha3 : t2 ≤ 1000000) : Calls Tryz.prog 168 #[.pointer (some ⟨b.lb, 0, none⟩), .agg #[.int .i64 1, .int .i64 (t : Int), .int .i64 (t2 : Int), .int .i64 0, .int .i64 0, .string ⟨#[]⟩, .int .i64 0, .int .i64 0, .bool false]] w fun e w' => e = .returned (.int .i64 0) ∧ ∃ b', b'.lb = b.lb ∧ LogAt W w' b' (lg3 a t2) R := by
  have h1 := add_join h (by show (1 : Int) ≤ 1048576; omega) (cIns t t2) hR (by show 0 ≤ _; omega) (chk_ins ha ha2 ha3) (joins_3 a t t2) (by show 3 ≤ _; omega)
  unfold AddRes at h1
  rw [chk_ins ha ha2 ha3, add_3 ha ha2 ha3] at h1
  exact h1
/-- A block of the rest turns. -/
theorem LogAt.setRest {s : Lg} {g : Nat} {T : TypeId} {cs : Array Value} (h : LogAt W w b s ((g, .cells T cs) :: R)) (i : Nat) (u : Value) : LogAt W (w.setCell ⟨g, i, none⟩ u) b s ((g, .cells T (cs.setIfInBounds i u)) :: R) := by
  have h1 := (h.own.perm List.perm_middle).setCell i u
  exact ⟨h1.perm List.perm_middle.symm, h.grp, h.okG, h.okO, h.okg⟩
theorem LogAt.restBlk {s : Lg} {g : Nat} {T : TypeId} {cs : Array Value} (h : LogAt W w b s ((g, .cells T cs) :: R)) : Blk w g T cs := h.own.blk (List.mem_append_right _ (List.mem_cons_self ..))
theorem LogAt.restBlk2 {s : Lg} {g : Nat} {T : TypeId} {cs : Array Value} {x : Nat × Ast} (h : LogAt W w b s (x :: (g, .cells T cs) :: R)) : Blk w g T cs := h.own.blk (List.mem_append_right _ (List.mem_cons_of_mem _ (List.mem_cons_self ..)))
variable {bp pt tick tb mk pr ov : Nat} {r : Int}
theorem bz_log {fresh : Bool} {lb : Nat} (h : Blk w bp 104 (bzC pt tick fresh r tb mk pr ov lb)) : w.cell? ⟨bp, 13, none⟩ = some (.pointer (some ⟨lb, 0, none⟩)) ∧ w.cell? ⟨bp, 14, none⟩ = some (.bool true) ∧ w.cell? ⟨bp, 15, none⟩ = some (.bool fresh) := ⟨(h.cell 13).trans rfl, (h.cell 14).trans rfl, (h.cell 15).trans rfl⟩
/-- What note leaves. -/
def Noted (W : World) (b : Lb) (s : Lg) (bp : Nat) (cs : Array Value) (R : Heap) (e : Ending) (w' : World) : Prop := e = .returned (.tuple #[]) ∧ ∃ b', b'.lb = b.lb ∧ LogAt W w' b' s ((bp, .cells 104 cs) :: R)
set_option maxRecDepth 100000 in
set_option maxHeartbeats 4000000 in
theorem note_more {a : Nat} (h : LogAt W w b (lg3 a pt) ((bp, .cells 104 (bzC pt tick false r tb mk pr ov b.lb)) :: R)) (hR : Rules w) (t2 : Nat) (hp : 1 ≤ pt) (ht : pt ≤ t2) (ht2 : t2 ≤ 1000000) :
    Calls Tryz.prog 143 #[.pointer (some ⟨bp, 0, none⟩), .agg #[.int .i64 1, .int .i64 (pt : Int), .int .i64 (t2 : Int), .int .i64 0, .int .i64 0, .string ⟨#[]⟩, .int .i64 0, .int .i64 0, .bool false]] w (Noted W b (lg3 a t2) bp (bzC pt tick false r tb mk pr ov b.lb) R) := by
  have h1 := h.skip (.cells #[.int .i64 1, .int .i64 (pt : Int), .int .i64 (t2 : Int), .int .i64 0, .int .i64 0, .string ⟨#[]⟩, .int .i64 0, .int .i64 0, .bool false] 161)
  have hbx := Blk.new w 161 #[.int .i64 1, .int .i64 (pt : Int), .int .i64 (t2 : Int), .int .i64 0, .int .i64 0, .string ⟨#[]⟩, .int .i64 0, .int .i64 0, .bool false]
  have HC := hide (call_more pt h1.drew (hR.below (((Below.refl _ w).alloc (Nat.le_refl _) _).drew)) t2 hp ht ht2)
  obtain ⟨c13, c14, c15⟩ := bz_log h1.restBlk
  clear h h1 hR hp ht ht2
  go_enter Tryz.func143, Tryz.ntmps143
  go_upto_region 7 with fail
  go_region_with (go_at_call 168; (with_reducible refine Calls.mono HC.out ?_); rintro e w2 ⟨rfl, b', hb', h2⟩; have H2 := hide h2; have HB' := hide hb'; clear h2 hb')
  all_goals
    refine bodyPost_end (results_none rfl _ _ _) rfl ?_
    exact ⟨rfl, b', HB'.out, H2.out⟩
theorem chg_nine {g : Nat} {v0 v1 v2 v3 v4 v5 v6 v7 v8 : Value} (h : Blk w g 161 #[v0, v1, v2, v3, v4, v5, v6, v7, v8]) : w.cell? ⟨g, 0, none⟩ = some v0 ∧ w.cell? ⟨g, 1, none⟩ = some v1 ∧ w.cell? ⟨g, 2, none⟩ = some v2 ∧ w.cell? ⟨g, 3, none⟩ = some v3 ∧ w.cell? ⟨g, 4, none⟩ = some v4 ∧ w.cell? ⟨g, 5, none⟩ = some v5 ∧ w.cell? ⟨g, 6, none⟩ = some v6 ∧ w.cell? ⟨g, 7, none⟩ = some v7 ∧ w.cell? ⟨g, 8, none⟩ = some v8 :=
  ⟨(h.cell 0).trans rfl, (h.cell 1).trans rfl, (h.cell 2).trans rfl, (h.cell 3).trans rfl, (h.cell 4).trans rfl, (h.cell 5).trans rfl, (h.cell 6).trans rfl, (h.cell 7).trans rfl, (h.cell 8).trans rfl⟩
set_option maxRecDepth 100000 in
set_option maxHeartbeats 4000000 in
theorem note_fresh {a : Nat} (h : LogAt W w b lg0 ((bp, .cells 104 (bzC a 0 true r tb mk pr ov b.lb)) :: R)) (hR : Rules W) (t2 : Nat) (hp : 1 ≤ a) (ht : a ≤ t2) (ht2 : t2 ≤ 1000000) :
    Calls Tryz.prog 143 #[.pointer (some ⟨bp, 0, none⟩), .agg #[.int .i64 1, .int .i64 (a : Int), .int .i64 (t2 : Int), .int .i64 0, .int .i64 0, .string ⟨#[]⟩, .int .i64 0, .int .i64 0, .bool false]] w (Noted W b (lg3 a t2) bp (bzC a 0 false r tb mk pr ov b.lb) R) := by
  have h0 : LogAt W (w.alloc (.cells #[.int .i64 1, .int .i64 (a : Int), .int .i64 (t2 : Int), .int .i64 0, .int .i64 0, .string ⟨#[]⟩, .int .i64 0, .int .i64 0, .bool false] 161)) b lg0 ((bp, .cells 104 (bzC a 0 true r tb mk pr ov b.lb)) :: (w.heap.size, .cells 161 #[.int .i64 1, .int .i64 (a : Int), .int .i64 (t2 : Int), .int .i64 0, .int .i64 0, .string ⟨#[]⟩, .int .i64 0, .int .i64 0, .bool false]) :: R) := (h.box 161 #[.int .i64 1, .int .i64 (a : Int), .int .i64 (t2 : Int), .int .i64 0, .int .i64 0, .string ⟨#[]⟩, .int .i64 0, .int .i64 0, .bool false]).perm (List.Perm.swap _ _ _)
  obtain ⟨_, c14, c15⟩ := bz_log h0.restBlk
  have f15 := h0.restBlk.frozen 15
  have h2 : LogAt W ((w.alloc (.cells #[.int .i64 1, .int .i64 (a : Int), .int .i64 (t2 : Int), .int .i64 0, .int .i64 0, .string ⟨#[]⟩, .int .i64 0, .int .i64 0, .bool false] 161)).setCell ⟨bp, 15, none⟩ (.bool false)) b lg0 ((bp, .cells 104 (bzC a 0 false r tb mk pr ov b.lb)) :: (w.heap.size, .cells 161 #[.int .i64 1, .int .i64 (a : Int), .int .i64 (t2 : Int), .int .i64 0, .int .i64 0, .string ⟨#[]⟩, .int .i64 0, .int .i64 0, .bool false]) :: R) := h0.setRest 15 (.bool false)
  have HR := hide (show ∀ y, Below W.heap.size W y → Rules y from fun y hy => hR.below hy)
  have HP := hide hp
  have HT := hide ht
  have HT2 := hide ht2
  have H2 := hide h2
  clear h h2 h0 hR hp ht ht2
  go_enter Tryz.func143, Tryz.ntmps143
  go_upto_region 4 with fail
  obtain ⟨w1, hw1⟩ : ∃ y : World, y = (w.alloc (.cells #[.int .i64 1, .int .i64 (a : Int), .int .i64 (t2 : Int), .int .i64 0, .int .i64 0, .string ⟨#[]⟩, .int .i64 0, .int .i64 0, .bool false] 161)).setCell ⟨bp, 15, none⟩ (.bool false) := ⟨_, rfl⟩
  rw [← hw1] at H2 ⊢
  obtain ⟨bx, hbx⟩ : ∃ bx, bx = w.heap.size := ⟨_, rfl⟩
  rw [← hbx] at H2 ⊢
  clear c14 c15 f15 hw1 hbx
  have c7 : w1.cell? ⟨bp, 7, none⟩ = some (.int .i64 0) := (H2.out.restBlk.cell 7).trans rfl
  have c8 : w1.cell? ⟨bp, 8, none⟩ = some (.int .i64 0) := (H2.out.restBlk.cell 8).trans rfl
  obtain ⟨c13, _, _⟩ := bz_log H2.out.restBlk
  go_quiet (fail)
  generalize hq : w1.drewN nq = w4 at *
  have H4 := hide (show LogAt W w4 b lg0 _ from hq ▸ H2.out.drewN nq)
  have c13 := (bz_log H4.out.restBlk).1
  clear c7 c8 hq
  go_wp2_with fail
  refine Calls.mono (call_clean H4.out (HR.out _ H4.out.own.bel)) ?_
  rintro e w5 ⟨rfl, b5, hb5, h5⟩
  have d13 := (bz_log h5.restBlk).1
  have d0 : w5.cell? ⟨bp, 0, none⟩ = some (.int .i64 (a : Int)) := (h5.restBlk.cell 0).trans rfl
  have HC6 := call_point h5.drew (HR.out _ h5.own.bel.drew) a HP.out (by have := HT.out; have := HT2.out; omega)
  rw [hb5] at HC6
  have HC6 := hide HC6
  have HB5 := hide hb5
  clear h5 hb5 c13
  go_upto_region 6 with fail
  go_region_with (go_at_call 168; (with_reducible refine Calls.mono HC6.out ?_); rintro e w6 ⟨rfl, b6, hb6, h6⟩; have H6 := hide h6; have HB6 := hide hb6; clear h6 hb6)
  all_goals
    have e13 := (bz_log H6.out.restBlk).1
    obtain ⟨k0, k1, k2, k3, k4, k5, k6, k7, k8⟩ := chg_nine H6.out.restBlk2
    have HC7 := call_ins H6.out.drew (HR.out _ H6.out.own.bel.drew) t2 HP.out HT.out HT2.out
    rw [HB6.out] at HC7
    have HC7 := hide HC7
    clear d13 d0
    go_upto_region 7 with fail
    go_region_with (go_at_call 168; (with_reducible refine Calls.mono HC7.out ?_); rintro e w7 ⟨rfl, b7, hb7, h7⟩; have H7 := hide h7; have HB7 := hide hb7; clear h7 hb7)
    all_goals
      refine bodyPost_end (results_none rfl _ _ _) rfl ?_
      exact ⟨rfl, b7, HB7.out, H7.out.sub (List.Sublist.cons_cons _ (List.sublist_cons_self _ _))⟩
end
end Go.Proofs.YtnbhejbpofjamaaGreatDoor
