/- The walk of VarsDeep: it returns true and leaves everything that was there as it was. No condition. -/
import Derived.Test.YtempnakdpmmmoaaVarSim
import Derived.Deep.RegionHeld3
import Derived.IntWalk
namespace Go.Proofs.Ytempnakdpmmmoaa
open Go.RowKit
attribute [local go_sem] neq_cells

theorem below_drewN (w : World) (n : Nat) : Below w.heap.size w (w.drewN n) := ⟨rfl, rfl, rfl, Nat.le_refl _, fun _ _ => rfl⟩
theorem put_same (f : Int → Cel) (n : Int) (c : Cel) : put f n c n = c := by simp [put]
/-- Two results in their cells, and what the walk has left alone. -/
def Kept (W : World) (p q : Nat) (a b c d : Int) (w' : World) : Prop := w'.cell? ⟨p, 0, none⟩ = some (.int .i64 a) ∧ w'.cell? ⟨p, 1, none⟩ = some (.int .i64 b) ∧ w'.cell? ⟨q, 0, none⟩ = some (.int .i64 c) ∧ w'.cell? ⟨q, 1, none⟩ = some (.int .i64 d) ∧ Below W.heap.size W w'
theorem keepStart {W w : World} {p q : Nat} {a b c d : Int} (h1 : Blk w p 29 #[.int .i64 a, .int .i64 b]) (h2 : Blk w q 29 #[.int .i64 c, .int .i64 d]) (h : Below W.heap.size W w) : Kept W p q a b c d w.drew :=
  ⟨h1.cell 0, h1.cell 1, h2.cell 0, h2.cell 1, h.drew⟩
theorem keepNext {W w w' : World} {p q : Nat} {a b c d : Int} (hb : Below w.heap.size w w') (h : Kept W p q a b c d w) : Kept W p q a b c d w' := by
  obtain ⟨h1, h2, h3, h4, h5⟩ := h
  have l1 := World.block_lt_of_cell? _ _ h1
  have l2 := World.block_lt_of_cell? _ _ h3
  exact ⟨(World.cell?_of_block (hb.block p l1)).trans h1, (World.cell?_of_block (hb.block p l1)).trans h2, (World.cell?_of_block (hb.block q l2)).trans h3, (World.cell?_of_block (hb.block q l2)).trans h4, h5.trans (hb.mono h5.size)⟩

set_option maxRecDepth 100000 in
set_option maxHeartbeats 2000000 in
theorem lives_any (W : World) : Calls Try.prog 7 #[] W fun e w' => e = .returned (.bool true) ∧ Below W.heap.size W w' := by
  go_enter Try.func7, Try.ntmps7
  go_wp2_with fail
  refine (sim_new W).mono ?_
  rintro r w1 ⟨vb, rfl, h1⟩
  go_wp2_with fail
  refine (int1_any 1 w1).mono ?_
  rintro r w2 ⟨rfl, b2⟩
  have h2 := h1.below b2
  clear h1 b2
  go_wp2_with fail
  refine (sim_set h2 70 (by decide) 0 1).mono ?_
  rintro r w3 ⟨rfl, h3⟩
  clear h2
  go_wp2_with fail
  refine (int1_any 2 w3).mono ?_
  rintro r w4 ⟨rfl, b4⟩
  have h4 := h3.below b4
  clear h3 b4
  go_wp2_with fail
  refine (sim_bind h4 70 (by decide) (by simp) 0 2).mono ?_
  rintro r w5 ⟨rfl, h5⟩
  clear h4
  rw [put_same] at h5
  have HG := hide (sim_get h5 70 (by decide))
  rw [put_same] at HG
  clear h5
  go_wp2_with fail
  refine (Calls.mono HG.out) ?_
  rintro r w6 ⟨rfl, h6⟩
  clear HG
  have h7 := h6.box 29 #[.int .i64 0, .int .i64 2]
  have HU := hide (sim_unbind h7 0 (Nat.zero_le _) (by simp))
  clear h6 h7
  go_wp2_with fail
  refine (Calls.mono HU.out) ?_
  rintro r w8 ⟨rfl, h8⟩
  clear HU
  have HG := hide (sim_get h8 70 (by decide))
  rw [show rewind (put (put first2 70 ⟨0, 1, true⟩) 70 ⟨0, 2, true⟩) (List.drop 0 ([] ++ [((⟨0, 1, true⟩ : Cel), (70 : Int))])) 70 = ⟨0, 1, true⟩ from rfl] at HG
  have hk := h8.blk (g := w6.heap.size) (t := 29) (cs := #[.int .i64 0, .int .i64 2]) (by simp)
  clear h8 hk
  go_wp2_with fail
  refine (Calls.mono HG.out) ?_
  rintro r w9 ⟨rfl, h9⟩
  clear HG
  have h10 := h9.box 29 #[.int .i64 0, .int .i64 1]
  have b1 := h10.blk (g := w6.heap.size) (t := 29) (cs := #[.int .i64 0, .int .i64 2]) (by simp)
  have b2 := h10.blk (g := w9.heap.size) (t := 29) (cs := #[.int .i64 0, .int .i64 1]) (by simp)
  have HK := hide (keepStart b1 b2 h10.bel)
  clear h9 h10 b1 b2
  go_wp2_with fail
  go_region_held3 (fun w' => w'.cell? ⟨w6.heap.size, 0, none⟩ = some (.int .i64 0) ∧ w'.cell? ⟨w6.heap.size, 1, none⟩ = some (.int .i64 2) ∧ w'.cell? ⟨w9.heap.size, 0, none⟩ = some (.int .i64 0) ∧ w'.cell? ⟨w9.heap.size, 1, none⟩ = some (.int .i64 1) ∧ Below W.heap.size W w')
    (first | exact HK.out | assumption | exact keepNext (by assumption) (by assumption))
    ((go_at_call 11; refine (int1_any _ _).mono ?_; rintro r w' ⟨rfl, hb⟩))
  all_goals
    have hH : Kept W w6.heap.size w9.heap.size 0 2 0 1 w' := by assumption
    have HB := hide hH.2.2.2.2
    clear hH
    go_wp2
    go_ret
    exact ⟨rfl, HB.out⟩

/-! ### The plain law -/
def cD (j : Nat) : Cel := if j = 0 then Cel.zero else ⟨0, (j : Int) - 1, true⟩
def fD (N : Int) (j : Nat) : Int → Cel := fun m => if m = N then cD j else first2 m
def lD (N : Int) (j : Nat) : List (Cel × Int) := (List.range j).map fun t => (cD t, N)
theorem fD_zero {N : Int} (h : 2 ≤ N) : fD N 0 = first2 := by
  funext m
  unfold fD
  split
  · next e =>
    subst e
    show cD 0 = first2 m
    unfold first2
    rw [if_neg (by omega), if_neg (by omega)]
    rfl
  · rfl
theorem fD_succ (N : Int) (j : Nat) : put (fD N j) N ⟨0, (j : Int), true⟩ = fD N (j + 1) := by
  funext m
  unfold put fD
  split
  · simp [cD]
  · rfl
theorem fD_at (N : Int) (j : Nat) : fD N j N = cD j := by simp [fD]
theorem lD_len (N : Int) (j : Nat) : (lD N j).length = j := by simp [lD]
theorem lD_succ (N : Int) (j : Nat) : lD N j ++ [(fD N j N, N)] = lD N (j + 1) := by
  rw [fD_at]
  simp [lD, List.range_succ]
theorem lD_take (N : Int) {j k : Nat} (h : k ≤ j) : (lD N j).take k = lD N k := by
  simp [lD, ← List.map_take, List.take_range, Nat.min_eq_left h]
theorem rewind_at (N : Int) {k : Nat} (h : k ≤ 2000) : rewind (fD N 2000) ((lD N 2000).drop k) N = cD k := by
  unfold rewind
  by_cases hk : k = 2000
  · subst hk
    rw [List.drop_of_length_le (by rw [lD_len]; exact Nat.le_refl _)]
    exact fD_at N 2000
  · have hlt : k < (lD N 2000).length := by rw [lD_len]; omega
    rw [List.drop_eq_getElem_cons hlt]
    have : (lD N 2000)[k] = (cD k, N) := by simp [lD]
    rw [this]
    simp
/-- What is held through the last statement. -/
def Held (W : World) (vb : Nat) (f : Int → Cel) (l : List (Cel × Int)) (p : Nat) (a b : Int) (w' : World) : Prop := w'.cell? ⟨p, 0, none⟩ = some (.int .i64 a) ∧ w'.cell? ⟨p, 1, none⟩ = some (.int .i64 b) ∧ Sim W vb f l [] w'
theorem heldSim {W w : World} {vb p : Nat} {f : Int → Cel} {l : List (Cel × Int)} {a b : Int} (h : Held W vb f l p a b w) : Sim W vb f l [] w := h.2.2
theorem heldNext {W w w' : World} {vb p : Nat} {f : Int → Cel} {l : List (Cel × Int)} {a b : Int} (hb : Below w.heap.size w w') (h : Held W vb f l p a b w) : Held W vb f l p a b w' := by
  obtain ⟨h1, h2, h3⟩ := h
  have l1 := World.block_lt_of_cell? _ _ h1
  exact ⟨(World.cell?_of_block (hb.block p l1)).trans h1, (World.cell?_of_block (hb.block p l1)).trans h2, h3.below hb⟩

theorem heldStart {W w : World} {vb : Nat} {f : Int → Cel} {l : List (Cel × Int)} {a b : Int} (h : Sim W vb f l [] w) : Held W vb f l w.heap.size a b (w.alloc (.cells #[.int .i64 a, .int .i64 b] 29)).drew := by
  have hk := Blk.new w 29 #[.int .i64 a, .int .i64 b]
  exact ⟨hk.cell 0, hk.cell 1, (h.below ((Below.refl _ _).alloc (Nat.le_refl _) _)).below (Below.refl _ _).drew⟩
set_option maxRecDepth 100000 in
set_option maxHeartbeats 4000000 in
theorem deep_walk (n d : Int) (W : World) : Calls Try.prog 3 #[.int .i64 n, .int .i64 d] W fun e w' => e = .returned (.bool true) ∧ Below W.heap.size W w' := by
  have n1 := pickZ_ge (n := n) (k := 16382) (by decide)
  have n2 := pickZ_lt (n := n) (k := 16382) (by decide)
  obtain ⟨k, hk, hk2⟩ : ∃ k : Nat, pickZ d 2001 = (k : Int) ∧ k ≤ 2000 := ⟨(pickZ d 2001).toNat, by have := pickZ_ge (n := d) (k := 2001) (by decide); omega, by have := pickZ_lt (n := d) (k := 2001) (by decide); have := pickZ_ge (n := d) (k := 2001) (by decide); omega⟩
  have HPD := hide fun w => (show Calls Try.prog 8 #[.int .i64 d, .int .i64 2001] w fun e w' => e = .returned (.int .i64 (k : Int)) ∧ w = w' from hk ▸ pick_any d 2001 w (by decide) (by decide))
  clear hk
  have HPN := hide fun w => pick_any n 16382 w (by decide) (by decide)
  generalize pickZ n 16382 = z at *
  have HN := hide (show 2 ≤ 2 + z ∧ 2 + z < 16384 by omega)
  go_enter Try.func3, Try.ntmps3
  go_wp2_with fail
  refine (lives_any W).mono ?_
  rintro r w1 ⟨rfl, b1⟩
  have HB1 := hide b1
  clear b1
  go_wp2_with fail
  refine (HPN.out w1).mono ?_
  rintro r w2 ⟨rfl, rfl⟩
  go_wp2_with fail
  refine (sim_new w1).mono ?_
  rintro r w2 ⟨vb, rfl, h2⟩
  rw [← fD_zero HN.out.1] at h2
  go_wp2
  generalize 2 + z = N at *
  go_loopw [6] (fun i wr => ∃ j : Nat, j ≤ 2000 ∧ i = .int .i64 (j : Int) ∧ Sim w1 vb (fD N j) (lD N j) [] wr) (fun i _ => 2000 - (intOf i).toNat)
  case atStart => exact ⟨0, by omega, rfl, h2⟩
  case round =>
    obtain ⟨j, hj, rfl, hS⟩ := hrel
    clear h2
    by_cases hlt : j < 2000
    · have hz : decide ((j : Int) < 2000) = true := by simp; omega
      have HLT := hide hlt
      go_wp2_with fail
      refine (int1_any _ wr).mono ?_
      rintro r w3 ⟨rfl, b3⟩
      have hb := sim_bind (hS.below b3) N HN.out (by rw [lD_len]; exact hlt) 0 (j : Int)
      rw [fD_succ, lD_succ] at hb
      have HB := hide hb
      clear hS b3 hb hlt
      go_wp2_with fail
      refine (Calls.mono HB.out) ?_
      rintro r w4 ⟨rfl, h4⟩
      have H4 := hide h4
      clear h4 HB
      go_wp2_with fail
      go_roundw
      case rel => exact ⟨j + 1, HLT.out, by go_num, H4.out⟩
      case measure => have := HLT.out; simp [intOf]; omega
    · have hz : decide ((j : Int) < 2000) = false := by simp; omega
      obtain rfl : j = 2000 := by omega
      clear hj hlt
      go_wp2_with fail
      refine (HPD.out wr).mono ?_
      rintro r w3 ⟨rfl, rfl⟩
      go_wp2_with fail
      refine (int1_any _ wr).mono ?_
      rintro r w3 ⟨rfl, b3⟩
      have h3 := hS.below b3
      clear hS b3
      have HB := hide (sim_bind_full h3 N HN.out (by rw [lD_len]; exact Nat.le_refl _) 0 (-1))
      clear h3
      go_wp2_with fail
      refine (Calls.mono HB.out) ?_
      rintro r w4 ⟨rfl, h4⟩
      clear HB
      have hu := sim_unbind h4 k (by rw [lD_len]; exact hk2) (by rw [lD_len]; exact Nat.le_refl _)
      rw [lD_take N hk2] at hu
      have HU := hide hu
      clear h4 hu
      go_wp2_with fail
      refine (Calls.mono HU.out) ?_
      rintro r w5 ⟨rfl, h5⟩
      clear HU
      have hg := sim_get h5 N (by have := HN.out; omega)
      rw [rewind_at N hk2] at hg
      generalize rewind (fD N 2000) ((lD N 2000).drop k) = F at hg
      clear h5
      by_cases hk0 : k = 0
      · subst hk0
        have HG := hide (show Calls Try.prog 13 #[.pointer (some ⟨vb, 0, none⟩), .int .i64 N] w5 fun r w' => r = .returned (.tuple #[.agg #[.int .i64 0, .int .i64 0], .bool false]) ∧ Sim w1 vb F (lD N 0) [] w' from hg)
        have HUR := hide fun (w : World) (h : Sim w1 vb F (lD N 0) [] w) => (show Calls Try.prog 12 #[.pointer (some ⟨vb, 0, none⟩), .int .i64 1] w fun r w' => r = .returned (.int .i64 3) ∧ w = w' from sim_unbind_range h 1 (by rw [lD_len]; decide))
        have HDE := hide fun (w : World) (h : Sim w1 vb F (lD N 0) [] w) => (show Calls Try.prog 14 #[.pointer (some ⟨vb, 0, none⟩)] w fun r w' => r = .returned (.int .i64 0) ∧ w = w' from sim_depth h)
        clear hg
        go_wp2_with fail
        refine (Calls.mono HG.out) ?_
        rintro r w6 ⟨rfl, h6⟩
        have h7 := h6.below ((Below.refl _ _).alloc (Nat.le_refl _) (.cells #[.int .i64 0, .int .i64 0] 29))
        have H7 := hide h7
        have HB7 := hide (HB1.out.trans (h7.bel.mono HB1.out.size))
        clear h6 h7 HG
        go_wp2_with fail
        generalize w6.alloc (.cells #[.int .i64 0, .int .i64 0] 29) = w7 at *
        go_quiet (first | (go_at_call 14; refine Calls.quiet_of_same ((HDE.out _ (H7.out.below (below_drewN _ _))).mono fun _ _ h => ⟨h.1, h.2.symm⟩)) | (go_at_call 12; refine Calls.quiet_of_same ((HUR.out _ (H7.out.below (below_drewN _ _))).mono fun _ _ h => ⟨h.1, h.2.symm⟩)))
        go_wp2
        go_ret
        exact ⟨rfl, HB7.out.trans ((below_drewN _ _).mono HB7.out.size)⟩
      · obtain ⟨j, rfl⟩ : ∃ j, k = j + 1 := ⟨k - 1, by omega⟩
        rw [show cD (j + 1) = ⟨0, (j : Int), true⟩ by simp [cD]] at hg
        have hz0 : decide ((j : Int) + 1 = 0) = false := decide_eq_false (by omega)
        have hz1 : decide ((0 : Int) < (j : Int) + 1) = true := decide_eq_true (by omega)
        have HG := hide hg
        have HUR := hide fun (w : World) (h : Sim w1 vb F (lD N (j + 1)) [] w) => (show Calls Try.prog 12 #[.pointer (some ⟨vb, 0, none⟩), .int .i64 ((j : Int) + 1 + 1)] w fun r w' => r = .returned (.int .i64 3) ∧ w = w' from by
          have h3 := sim_unbind_range h (j + 2) (by rw [lD_len]; omega)
          rw [show ((j + 2 : Nat) : Int) = (j : Int) + 1 + 1 by omega] at h3
          exact h3)
        have HDE := hide fun (w : World) (h : Sim w1 vb F (lD N (j + 1)) [] w) => (show Calls Try.prog 14 #[.pointer (some ⟨vb, 0, none⟩)] w fun r w' => r = .returned (.int .i64 ((j : Int) + 1)) ∧ w = w' from by
          have h3 := sim_depth h
          rw [lD_len, show ((j + 1 : Nat) : Int) = (j : Int) + 1 by omega] at h3
          exact h3)
        clear hg
        go_wp2_with fail
        refine (Calls.mono HG.out) ?_
        rintro r w6 ⟨rfl, h6⟩
        have HK := hide (heldStart (a := 0) (b := (j : Int)) h6)
        clear h6 HG
        have hs1 : IntKind.i64.wrap (j : Int) = (j : Int) := IntWalk.i64_in _ (by omega)
        have hs2 : IntKind.i64.wrap ((j : Int) + 1 + 1) = (j : Int) + 1 + 1 := IntWalk.i64_in _ (by omega)
        have hs3 : IntKind.i64.wrap ((j : Int) + 1 - 1) = (j : Int) := by rw [Int.add_sub_cancel]; exact hs1
        clear hk2 hk0 HN HPN HPD
        go_wp2_with fail
        go_region_held3 (fun w' => w'.cell? ⟨w6.heap.size, 0, none⟩ = some (.int .i64 0) ∧ w'.cell? ⟨w6.heap.size, 1, none⟩ = some (.int .i64 (j : Int)) ∧ Sim w1 vb F (lD N (j + 1)) [] w')
          (first | exact HK.out | assumption | exact heldNext (by assumption) (by assumption))
          ((first
            | (go_at_call 11; refine (int1_any _ _).mono ?_; rintro r w' ⟨rfl, hb⟩)
            | (go_at_call 14; refine Calls.mono (HDE.out _ (heldSim (p := w6.heap.size) (a := 0) (b := (j : Int)) (by assumption))) ?_; rintro r w' ⟨rfl, rfl⟩)
            | (go_at_call 12; refine Calls.mono (HUR.out _ (heldSim (p := w6.heap.size) (a := 0) (b := (j : Int)) (by assumption))) ?_; rintro r w' ⟨rfl, rfl⟩)))
        all_goals
          have hH : Held w1 vb F (lD N (j + 1)) w6.heap.size 0 (j : Int) w' := by assumption
          have HB := hide (HB1.out.trans (hH.2.2.bel.mono HB1.out.size))
          clear hH
          go_wp2
          go_ret
          exact ⟨rfl, HB.out⟩
end Go.Proofs.Ytempnakdpmmmoaa
