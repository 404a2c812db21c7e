/- SyntaxNames: the walk. No condition but those written. -/
import Derived.Test.YtdojcgefiekleaaDoorSde
import Derived.Test.YtdojcgefiekleaaDoorScr
namespace Go.Proofs.YtdojcgefiekleaaDoor
open Go.RowKit

/-- Within SyntaxNames: the table, the faults' boxes. -/
structure QSt (w0 w : World) (p : TL) (l : List (Nat × Int × Int)) : Prop where
  bel : Below w0.heap.size w0 w
  tab : TabAt w p ⟨true, []⟩
  box : ∀ x ∈ l, Blk w x.1 40 #[.int .i64 x.2.1, .int .i64 x.2.2]
section
variable {w0 w w' : World} {p : TL} {l : List (Nat × Int × Int)}
theorem QSt.below (h : QSt w0 w p l) (hb : Below w.heap.size w w') : QSt w0 w' p l := ⟨h.bel.trans (hb.mono h.bel.size), h.tab.below hb, fun x hx => (h.box x hx).below hb (h.box x hx).lt⟩
theorem QSt.next (h : QSt w0 w p l) (hb : Below w.heap.size w w') (e f : Int) : QSt w0 (w'.alloc (.cells #[.int .i64 e, .int .i64 f] 40)) p ((w'.heap.size, e, f) :: l) := by
  have h1 := (h.below hb).below (below_box w' (.cells #[.int .i64 e, .int .i64 f] 40))
  refine ⟨h1.bel, h1.tab, fun x hx => ?_⟩
  rcases List.mem_cons.1 hx with rfl | hx
  · exact Blk.new _ _ _
  · exact h1.box x hx
theorem QSt.cell (h : QSt w0 w p l) {g : Nat} {e f : Int} (hm : (g, e, f) ∈ l) : w.cell? ⟨g, 0, none⟩ = some (.int .i64 e) ∧ w.cell? ⟨g, 1, none⟩ = some (.int .i64 f) := ⟨(h.box _ hm).cell 0, (h.box _ hm).cell 1⟩
end
theorem nmx0 : sexpsR ⟨true, []⟩ ⟨#[40, 97]⟩ 0 (1) = (0, 13, 0) := by
  unfold sexpsR
  rw [show charsL (ByteArray.mk #[40, 97]).data.toList = some [40, 97] from by decide +kernel]
  decide +kernel
theorem nmx1 : sexpsR ⟨true, []⟩ ⟨#[40, 97]⟩ 2 (-2) = (0, 5, 0) := by
  unfold sexpsR
  rw [show charsL (ByteArray.mk #[40, 97]).data.toList = some [40, 97] from by decide +kernel]
  decide +kernel
theorem nmx3 : sexpsR ⟨true, []⟩ ⟨#[32, 59, 120, 41, 10, 39, 40, 98, 41]⟩ 0 (1) = (9, 0, 0) := by
  unfold sexpsR
  rw [show charsL (ByteArray.mk #[32, 59, 120, 41, 10, 39, 40, 98, 41]).data.toList = some [32, 59, 120, 41, 10, 39, 40, 98, 41] from by decide +kernel]
  decide +kernel
theorem nmx4 : sexpsR ⟨true, []⟩ ⟨#[32, 59, 120, 41, 10, 39, 40, 98, 41]⟩ 9 (-1) = (5, 0, 0) := by
  unfold sexpsR
  rw [show charsL (ByteArray.mk #[32, 59, 120, 41, 10, 39, 40, 98, 41]).data.toList = some [32, 59, 120, 41, 10, 39, 40, 98, 41] from by decide +kernel]
  decide +kernel
theorem nmx5 : sexpsR ⟨true, []⟩ ⟨#[97, 32, 59, 98]⟩ 4 (-1) = (0, 9, 2) := by
  unfold sexpsR
  rw [show charsL (ByteArray.mk #[97, 32, 59, 98]).data.toList = some [97, 32, 59, 98] from by decide +kernel]
  decide +kernel
theorem nmx6 : sexpsR ⟨true, []⟩ ⟨#[40, 97, 93]⟩ 0 (1) = (0, 5, 2) := by
  unfold sexpsR
  rw [show charsL (ByteArray.mk #[40, 97, 93]).data.toList = some [40, 97, 93] from by decide +kernel]
  decide +kernel
theorem nmx7 : sexpsR ⟨true, []⟩ ⟨#[97, 41, 32, 98, 41]⟩ 5 (-1) = (0, 5, 4) := by
  unfold sexpsR
  rw [show charsL (ByteArray.mk #[97, 41, 32, 98, 41]).data.toList = some [97, 41, 32, 98, 41] from by decide +kernel]
  decide +kernel
theorem nmx8 : sexpsR ⟨true, []⟩ ⟨#[92, 40, 32, 97]⟩ 0 (1) = (2, 0, 0) := by
  unfold sexpsR
  rw [show charsL (ByteArray.mk #[92, 40, 32, 97]).data.toList = some [92, 40, 32, 97] from by decide +kernel]
  decide +kernel
theorem nmx9 : sexpsR ⟨true, []⟩ ⟨#[97]⟩ 1 (1) = (0, 13, 1) := by
  unfold sexpsR
  rw [show charsL (ByteArray.mk #[97]).data.toList = some [97] from by decide +kernel]
  decide +kernel
theorem nmx10 : sexpsR ⟨true, []⟩ ⟨#[97]⟩ 2 (1) = (0, 3, 0) := by
  unfold sexpsR
  rw [show charsL (ByteArray.mk #[97]).data.toList = some [97] from by decide +kernel]
  decide +kernel
theorem nmsy : symbR ⟨true, []⟩ ⟨#[97, 98, 32, 99, 45, 100]⟩ 4 = (3, 6, true) := by
  unfold symbR
  rw [show charsL (ByteArray.mk #[97, 98, 32, 99, 45, 100]).data.toList = some [97, 98, 32, 99, 45, 100] from by decide +kernel]
  decide +kernel
theorem nmwo : wordsR ⟨true, []⟩ ⟨#[97, 98, 32, 99, 100]⟩ 5 (-3) = (0, false, 0) := by
  unfold wordsR
  rw [show charsL (ByteArray.mk #[97, 98, 32, 99, 100]).data.toList = some [97, 98, 32, 99, 100] from by decide +kernel]
  decide +kernel
theorem nmov : overN ⟨true, []⟩ [40, 34, 97] 3 0 sta0 = some ⟨[0], 0, 34, false, 1, false⟩ := by
  simp only [overN, Sta.step, sta0, List.getD_cons_zero, List.getD_cons_succ]
  have k40 : Tb.cl ⟨true, []⟩ 40 = 4 := by decide
  have k34 : Tb.cl ⟨true, []⟩ 34 = 6 := by decide
  have k97 : Tb.cl ⟨true, []⟩ 97 = 1 := by decide
  simp [k40, k34, k97]
theorem nmor : overR ⟨true, []⟩ ⟨#[40, 34, 97]⟩ 0 3 sta0 = (0, some ⟨[0], 0, 34, false, 1, false⟩) := by
  unfold overR
  rw [show charsL (ByteArray.mk #[40, 34, 97]).data.toList = some [40, 34, 97] from by decide +kernel]
  simp only []
  rw [if_neg (by decide), show ((3 : Int) - 0).toNat = 3 from rfl, show (0 : Int).toNat = 0 from rfl, nmov]
theorem nmoz : overZ ⟨true, []⟩ ⟨#[40, 34, 97]⟩ 0 3 sta0 = (0, ⟨[0], 0, 34, false, 1, false⟩) := by
  unfold overZ
  rw [nmor]
  rfl
set_option maxRecDepth 100000 in
set_option maxHeartbeats 8000000 in
theorem names_walk (w : World) (hT : Tabs w) : Calls Tryd.prog 8 #[] w fun e w' => e = .returned (.bool true) ∧ Below w.heap.size w w' := by
  have HT := hide hT
  have HS0 := hide (fun (W : World) (p : TL) (l : List (Nat × Int × Int)) (h : QSt w W p l) => (show Calls Tryd.prog 19 #[.pointer (some ⟨p.t, 0, none⟩), .string ⟨#[40, 97]⟩, .int .i64 0, .int .i64 (1)] W (fun r w' => r = .returned (.tuple #[.int .i64 0, .agg #[.int .i64 13, .int .i64 0]]) ∧ Below W.heap.size W w') from by
    have h1 := sexps_any h.tab ⟨#[40, 97]⟩ (by decide) (hT.below h.bel) 0 (1) (by decide) (by decide)
    rw [nmx0] at h1
    exact h1))
  have HS1 := hide (fun (W : World) (p : TL) (l : List (Nat × Int × Int)) (h : QSt w W p l) => (show Calls Tryd.prog 19 #[.pointer (some ⟨p.t, 0, none⟩), .string ⟨#[40, 97]⟩, .int .i64 2, .int .i64 (-2)] W (fun r w' => r = .returned (.tuple #[.int .i64 0, .agg #[.int .i64 5, .int .i64 0]]) ∧ Below W.heap.size W w') from by
    have h1 := sexps_any h.tab ⟨#[40, 97]⟩ (by decide) (hT.below h.bel) 2 (-2) (by decide) (by decide)
    rw [nmx1] at h1
    exact h1))
  have HSY := hide (fun (W : World) (p : TL) (l : List (Nat × Int × Int)) (h : QSt w W p l) => (show Calls Tryd.prog 20 #[.pointer (some ⟨p.t, 0, none⟩), .string ⟨#[97, 98, 32, 99, 45, 100]⟩, .int .i64 4] W (fun r w' => r = .returned (.tuple #[.int .i64 3, .int .i64 6, .bool true]) ∧ Below W.heap.size W w') from by
    have h1 := symbol_any h.tab ⟨#[97, 98, 32, 99, 45, 100]⟩ (by decide) (hT.below h.bel) 4
    rw [nmsy] at h1
    exact h1))
  have HS3 := hide (fun (W : World) (p : TL) (l : List (Nat × Int × Int)) (h : QSt w W p l) => (show Calls Tryd.prog 19 #[.pointer (some ⟨p.t, 0, none⟩), .string ⟨#[32, 59, 120, 41, 10, 39, 40, 98, 41]⟩, .int .i64 0, .int .i64 (1)] W (fun r w' => r = .returned (.tuple #[.int .i64 9, .agg #[.int .i64 0, .int .i64 0]]) ∧ Below W.heap.size W w') from by
    have h1 := sexps_any h.tab ⟨#[32, 59, 120, 41, 10, 39, 40, 98, 41]⟩ (by decide) (hT.below h.bel) 0 (1) (by decide) (by decide)
    rw [nmx3] at h1
    exact h1))
  have HS4 := hide (fun (W : World) (p : TL) (l : List (Nat × Int × Int)) (h : QSt w W p l) => (show Calls Tryd.prog 19 #[.pointer (some ⟨p.t, 0, none⟩), .string ⟨#[32, 59, 120, 41, 10, 39, 40, 98, 41]⟩, .int .i64 9, .int .i64 (-1)] W (fun r w' => r = .returned (.tuple #[.int .i64 5, .agg #[.int .i64 0, .int .i64 0]]) ∧ Below W.heap.size W w') from by
    have h1 := sexps_any h.tab ⟨#[32, 59, 120, 41, 10, 39, 40, 98, 41]⟩ (by decide) (hT.below h.bel) 9 (-1) (by decide) (by decide)
    rw [nmx4] at h1
    exact h1))
  have HS5 := hide (fun (W : World) (p : TL) (l : List (Nat × Int × Int)) (h : QSt w W p l) => (show Calls Tryd.prog 19 #[.pointer (some ⟨p.t, 0, none⟩), .string ⟨#[97, 32, 59, 98]⟩, .int .i64 4, .int .i64 (-1)] W (fun r w' => r = .returned (.tuple #[.int .i64 0, .agg #[.int .i64 9, .int .i64 2]]) ∧ Below W.heap.size W w') from by
    have h1 := sexps_any h.tab ⟨#[97, 32, 59, 98]⟩ (by decide) (hT.below h.bel) 4 (-1) (by decide) (by decide)
    rw [nmx5] at h1
    exact h1))
  have HS6 := hide (fun (W : World) (p : TL) (l : List (Nat × Int × Int)) (h : QSt w W p l) => (show Calls Tryd.prog 19 #[.pointer (some ⟨p.t, 0, none⟩), .string ⟨#[40, 97, 93]⟩, .int .i64 0, .int .i64 (1)] W (fun r w' => r = .returned (.tuple #[.int .i64 0, .agg #[.int .i64 5, .int .i64 2]]) ∧ Below W.heap.size W w') from by
    have h1 := sexps_any h.tab ⟨#[40, 97, 93]⟩ (by decide) (hT.below h.bel) 0 (1) (by decide) (by decide)
    rw [nmx6] at h1
    exact h1))
  have HS7 := hide (fun (W : World) (p : TL) (l : List (Nat × Int × Int)) (h : QSt w W p l) => (show Calls Tryd.prog 19 #[.pointer (some ⟨p.t, 0, none⟩), .string ⟨#[97, 41, 32, 98, 41]⟩, .int .i64 5, .int .i64 (-1)] W (fun r w' => r = .returned (.tuple #[.int .i64 0, .agg #[.int .i64 5, .int .i64 4]]) ∧ Below W.heap.size W w') from by
    have h1 := sexps_any h.tab ⟨#[97, 41, 32, 98, 41]⟩ (by decide) (hT.below h.bel) 5 (-1) (by decide) (by decide)
    rw [nmx7] at h1
    exact h1))
  have HS8 := hide (fun (W : World) (p : TL) (l : List (Nat × Int × Int)) (h : QSt w W p l) => (show Calls Tryd.prog 19 #[.pointer (some ⟨p.t, 0, none⟩), .string ⟨#[92, 40, 32, 97]⟩, .int .i64 0, .int .i64 (1)] W (fun r w' => r = .returned (.tuple #[.int .i64 2, .agg #[.int .i64 0, .int .i64 0]]) ∧ Below W.heap.size W w') from by
    have h1 := sexps_any h.tab ⟨#[92, 40, 32, 97]⟩ (by decide) (hT.below h.bel) 0 (1) (by decide) (by decide)
    rw [nmx8] at h1
    exact h1))
  have HS9 := hide (fun (W : World) (p : TL) (l : List (Nat × Int × Int)) (h : QSt w W p l) => (show Calls Tryd.prog 19 #[.pointer (some ⟨p.t, 0, none⟩), .string ⟨#[97]⟩, .int .i64 1, .int .i64 (1)] W (fun r w' => r = .returned (.tuple #[.int .i64 0, .agg #[.int .i64 13, .int .i64 1]]) ∧ Below W.heap.size W w') from by
    have h1 := sexps_any h.tab ⟨#[97]⟩ (by decide) (hT.below h.bel) 1 (1) (by decide) (by decide)
    rw [nmx9] at h1
    exact h1))
  have HS10 := hide (fun (W : World) (p : TL) (l : List (Nat × Int × Int)) (h : QSt w W p l) => (show Calls Tryd.prog 19 #[.pointer (some ⟨p.t, 0, none⟩), .string ⟨#[97]⟩, .int .i64 2, .int .i64 (1)] W (fun r w' => r = .returned (.tuple #[.int .i64 0, .agg #[.int .i64 3, .int .i64 0]]) ∧ Below W.heap.size W w') from by
    have h1 := sexps_any h.tab ⟨#[97]⟩ (by decide) (hT.below h.bel) 2 (1) (by decide) (by decide)
    rw [nmx10] at h1
    exact h1))
  have HOV := hide (fun (W : World) (p : TL) (l : List (Nat × Int × Int)) (h : QSt w W p l) => (show Calls Tryd.prog 25 #[.pointer (some ⟨p.t, 0, none⟩), .string ⟨#[40, 34, 97]⟩, .int .i64 0, .int .i64 3, .agg #[.slice none 0 0, .int .i64 0, .int .i64 0, .bool false, .int .i64 0, .bool false]] W (fun r w' => ∃ A c, r = .returned (.tuple #[.agg #[.slice A 1 c, .int .i64 0, .int .i64 34, .bool false, .int .i64 1, .bool false], .int .i64 0]) ∧ Below W.heap.size W w') from by
    refine (over_any h.tab ⟨#[40, 34, 97]⟩ (by decide) (hT.below h.bel) 0 3 (.slice none 0 0) sta0 (Rd.nil _ _) (by decide) (by decide)).mono fun r w' => ?_
    rw [nmoz]
    rintro ⟨A, c, h1, -, h3⟩
    exact ⟨A, c, h1, h3⟩))
  have HWO := hide (fun (W : World) (p : TL) (l : List (Nat × Int × Int)) (h : QSt w W p l) => (show Calls Tryd.prog 14 #[.pointer (some ⟨p.t, 0, none⟩), .string ⟨#[97, 98, 32, 99, 100]⟩, .int .i64 5, .int .i64 (-3)] W (fun r w' => r = .returned (.tuple #[.int .i64 0, .bool false, .int .i64 0]) ∧ Below W.heap.size W w') from by
    have h1 := words_any h.tab ⟨#[97, 98, 32, 99, 100]⟩ (by decide) (hT.below h.bel) 5 (-3) (by decide) (by decide)
    rw [nmwo] at h1
    exact h1))
  have HB1 := hide (fun (W : World) (p : TL) (l : List (Nat × Int × Int)) (h : QSt w W p l) => tset_bad h.tab (-1) 0 0 (by decide))
  have HB2 := hide (fun (W : World) (p : TL) (l : List (Nat × Int × Int)) (h : QSt w W p l) => tset_bad h.tab 97 11 0 (by decide))
  have HB3 := hide (fun (W : World) (p : TL) (l : List (Nat × Int × Int)) (h : QSt w W p l) => tset_bad h.tab 97 4 (-1) (by decide))
  have HMA := hide (fun (W : World) (p : TL) (l : List (Nat × Int × Int)) (h : QSt w W p l) => (show Calls Tryd.prog 29 #[.pointer (some ⟨p.t, 0, none⟩), .int .i64 40] W (fun e w' => e = .returned (.int .i64 41) ∧ Below W.heap.size W w') from by
    have h1 := mate_any h.tab 40
    rw [show Tb.mate ⟨true, []⟩ 40 = 41 from by decide] at h1
    exact h1))
  clear hT
  have eqf := eq_flt
  go_enter Tryd.func8, Tryd.ntmps8
  go_wp2_with (first | (go_at_call 22; (with_reducible refine Calls.mono (tlisp_any _) ?_); rintro r w0 ⟨p, rfl, hb, -, ht⟩; have HQ0 := hide (show QSt w w0 p [] from ⟨hb, ht, fun x hx => by cases hx⟩); clear hb ht) | (go_at_call 19; (with_reducible refine Calls.mono (HS0.out _ p _ HQ0.out) ?_); rintro r w1 ⟨rfl, hb⟩; have HQ1 := hide (HQ0.out.next hb 13 0); clear hb) | (go_at_call 19; (with_reducible refine Calls.mono (HS1.out _ p _ HQ1.out) ?_); rintro r w2 ⟨rfl, hb⟩; have HQ2 := hide (HQ1.out.next hb 5 0); clear hb) | (go_at_call 20; (with_reducible refine Calls.mono (HSY.out _ p _ HQ2.out) ?_); rintro r w3 ⟨rfl, hb⟩; have HQ3 := hide (HQ2.out.below hb); clear hb) | (go_at_call 19; (with_reducible refine Calls.mono (HS3.out _ p _ HQ3.out) ?_); rintro r w4 ⟨rfl, hb⟩; have HQ4 := hide (HQ3.out.next hb 0 0); clear hb) | (go_at_call 19; (with_reducible refine Calls.mono (HS4.out _ p _ HQ4.out) ?_); rintro r w5 ⟨rfl, hb⟩; have HQ5 := hide (HQ4.out.next hb 0 0); clear hb) | (go_at_call 19; (with_reducible refine Calls.mono (HS5.out _ p _ HQ5.out) ?_); rintro r w6 ⟨rfl, hb⟩; have HQ6 := hide (HQ5.out.next hb 9 2); clear hb) | (go_at_call 19; (with_reducible refine Calls.mono (HS6.out _ p _ HQ6.out) ?_); rintro r w7 ⟨rfl, hb⟩; have HQ7 := hide (HQ6.out.next hb 5 2); clear hb) | (go_at_call 19; (with_reducible refine Calls.mono (HS7.out _ p _ HQ7.out) ?_); rintro r w8 ⟨rfl, hb⟩; have HQ8 := hide (HQ7.out.next hb 5 4); clear hb) | (go_at_call 19; (with_reducible refine Calls.mono (HS8.out _ p _ HQ8.out) ?_); rintro r w9 ⟨rfl, hb⟩; have HQ9 := hide (HQ8.out.next hb 0 0); clear hb) | (go_at_call 19; (with_reducible refine Calls.mono (HS9.out _ p _ HQ9.out) ?_); rintro r w10 ⟨rfl, hb⟩; have HQ10 := hide (HQ9.out.next hb 13 1); clear hb) | (go_at_call 19; (with_reducible refine Calls.mono (HS10.out _ p _ HQ10.out) ?_); rintro r w11 ⟨rfl, hb⟩; have HQ11 := hide (HQ10.out.next hb 3 0); clear hb) | (go_at_call 25; (with_reducible refine Calls.mono (HOV.out _ p _ HQ11.out) ?_); rintro r w12 ⟨A, c, rfl, hb⟩; have HQ12 := hide ((HQ11.out.below hb).below (below_box w12 (.cells #[.slice A 1 c, .int .i64 0, .int .i64 34, .bool false, .int .i64 1, .bool false] 50))); have HK12 := hide (Blk.new w12 50 #[.slice A 1 c, .int .i64 0, .int .i64 34, .bool false, .int .i64 1, .bool false]); clear hb) | (go_at_call 14; (with_reducible refine Calls.mono (HWO.out _ p _ HQ12.out) ?_); rintro r w13 ⟨rfl, hb⟩; have HQ13 := hide (HQ12.out.below hb); have HK13 := hide (HK12.out.below hb HK12.out.lt); clear hb) | (go_at_call 11; (with_reducible refine Calls.mono (lives_any _ (HT.out.below HQ13.out.bel)) ?_); rintro r w14 ⟨rfl, hb⟩; have HQ14 := hide (HQ13.out.below hb); have kk := HK13.out.below hb HK13.out.lt; clear hb; obtain ⟨c1, d1⟩ := HQ14.out.cell (g := w1.heap.size) (e := 13) (f := 0) (by simp); obtain ⟨c2, d2⟩ := HQ14.out.cell (g := w2.heap.size) (e := 5) (f := 0) (by simp); obtain ⟨c4, d4⟩ := HQ14.out.cell (g := w4.heap.size) (e := 0) (f := 0) (by simp); obtain ⟨c5, d5⟩ := HQ14.out.cell (g := w5.heap.size) (e := 0) (f := 0) (by simp); obtain ⟨c6, d6⟩ := HQ14.out.cell (g := w6.heap.size) (e := 9) (f := 2) (by simp); obtain ⟨c7, d7⟩ := HQ14.out.cell (g := w7.heap.size) (e := 5) (f := 2) (by simp); obtain ⟨c8, d8⟩ := HQ14.out.cell (g := w8.heap.size) (e := 5) (f := 4) (by simp); obtain ⟨c9, d9⟩ := HQ14.out.cell (g := w9.heap.size) (e := 0) (f := 0) (by simp); obtain ⟨c10, d10⟩ := HQ14.out.cell (g := w10.heap.size) (e := 13) (f := 1) (by simp); obtain ⟨c11, d11⟩ := HQ14.out.cell (g := w11.heap.size) (e := 3) (f := 0) (by simp); have k0 := kk.cell 0; have k2 := kk.cell 2; have k4 := kk.cell 4; clear kk) | (go_at_call 28; (with_reducible refine Calls.mono (HB1.out _ p _ HQ14.out) ?_); rintro r w' ⟨rfl, rfl⟩) | (go_at_call 28; (with_reducible refine Calls.mono (HB2.out _ p _ HQ14.out) ?_); rintro r w' ⟨rfl, rfl⟩) | (go_at_call 28; (with_reducible refine Calls.mono (HB3.out _ p _ HQ14.out) ?_); rintro r w' ⟨rfl, rfl⟩) | (go_at_call 29; (with_reducible refine Calls.mono (HMA.out _ p _ HQ14.out) ?_); rintro r w15 ⟨rfl, hb⟩; have HQ15 := hide (HQ14.out.below hb); clear hb))
  go_ret
  exact ⟨rfl, HQ15.out.bel⟩
end Go.Proofs.YtdojcgefiekleaaDoor
