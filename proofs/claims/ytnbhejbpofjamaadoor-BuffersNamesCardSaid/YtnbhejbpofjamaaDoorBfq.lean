/- BuffersNames: the walk. No condition but those written. -/
import Derived.Test.YtnbhejbpofjamaaDoorBfv
namespace Go.Proofs.YtnbhejbpofjamaaDoor
open Go.RowKit

set_option maxRecDepth 100000 in
set_option maxHeartbeats 8000000 in
theorem names_walk (W : World) (hT : Tabs W) (hP : Pow W) : Calls Tryd.prog 4 #[] W fun e w' => e = .returned (.bool true) ∧ Below W.heap.size W w' := by
  have HNEW := hide (ls_new W hT)
  have HT := hide hT
  have HP := hide hP
  clear hT hP
  obtain ⟨X, hX⟩ : ∃ X, X = xB 200 := ⟨_, rfl⟩
  have HX := hide hX
  have HXS := hide (show X.size = 200 by rw [hX]; exact size_x 200)
  have HXC := hide (show chkE X = 0 by rw [hX]; exact chk_x (by omega) (by omega))
  obtain ⟨Y, hY⟩ : ∃ Y, Y = xB 201 := ⟨_, rfl⟩
  have HY := hide hY
  obtain ⟨U, hU⟩ : ∃ U, U = nmB X 1 := ⟨_, rfl⟩
  have HU := hide hU
  have hus : (U.size : Int) = 203 := by rw [hU, nm_one, HXS.out]; rfl
  have hud : decide ((U.size : Int) = 203) = true := by rw [hus]; rfl
  have hub : ((U.size : Int) == 203) = true := by rw [hus]; rfl
  clear hX hY hU
  have hs1 : scrB.toList = [42, 115, 99, 114, 97, 116, 99, 104, 42] := by kernel_rfl
  have hs2 : nA3.toList = [97, 60, 51, 62] := by kernel_rfl
  go_enter Tryd.func4, Tryd.ntmps4
  go_wp2_with fail
  refine (Calls.mono HNEW.out) ?_
  rintro e w0 ⟨sb, g0, b0, rfl, h0⟩
  have h0' : LS W w0 sb (q0 g0 b0) := h0
  have H := hide h0'
  clear h0 h0' HNEW
  have K0 := hide (show Calls Tryd.prog 12 #[.pointer (some ⟨sb, 0, none⟩), .int .i64 0] w0 fun e w' => e = .returned (.tuple #[.string scrB, .bool true]) ∧ w0 = w' from H.out.name 0)
  go_wp2_with fail
  refine (Calls.mono K0.out) ?_
  rintro e w1 ⟨rfl, rfl⟩
  have K1 := hide (show Calls Tryd.prog 9 #[.pointer (some ⟨sb, 0, none⟩), .string scrB] w0 fun e w' => e = .returned (.tuple #[.int .i64 0, .int .i64 17]) ∧ LS W w' sb (q0 g0 b0) from H.out.create_bad HT.out (by show 1 < 500; omega) scrB (by show _ < (1000000 : Nat); decide) (cre0_scr) (by decide))
  go_wp2_with fail
  refine (Calls.mono K1.out) ?_
  rintro e w1 ⟨rfl, hw1⟩
  clear H
  have H := hide hw1
  clear hw1
  have K2 := hide (show Calls Tryd.prog 9 #[.pointer (some ⟨sb, 0, none⟩), .string ⟨#[]⟩] w1 fun e w' => e = .returned (.tuple #[.int .i64 0, .int .i64 17]) ∧ LS W w' sb (q0 g0 b0) from H.out.create_bad HT.out (by show 1 < 500; omega) ⟨#[]⟩ (by show _ < (1000000 : Nat); decide) (cre0_none) (by decide))
  go_wp2_with fail
  refine (Calls.mono K2.out) ?_
  rintro e w2 ⟨rfl, hw2⟩
  clear H
  have H := hide hw2
  clear hw2
  have K3 := hide (show Calls Tryd.prog 9 #[.pointer (some ⟨sb, 0, none⟩), .string ⟨#[255]⟩] w2 fun e w' => e = .returned (.tuple #[.int .i64 0, .int .i64 5]) ∧ LS W w' sb (q0 g0 b0) from H.out.create_bad HT.out (by show 1 < 500; omega) ⟨#[255]⟩ (by show _ < (1000000 : Nat); decide) (cre0_ff) (by decide))
  go_wp2_with fail
  refine (Calls.mono K3.out) ?_
  rintro e w3 ⟨rfl, hw3⟩
  clear H
  have H := hide hw3
  clear hw3
  have K4 := hide (show Calls Tryd.prog 13 #[.string ⟨#[120]⟩, .int .i64 201] w3 fun e w' => e = .returned (.string Y) ∧ w3 = w' from by rw [HY.out]; exact times_call 201 _ (by omega))
  go_wp2_with fail
  refine (Calls.mono K4.out) ?_
  rintro e wt ⟨rfl, rfl⟩
  have K5 := hide (show Calls Tryd.prog 9 #[.pointer (some ⟨sb, 0, none⟩), .string Y] w3 fun e w' => e = .returned (.tuple #[.int .i64 0, .int .i64 4]) ∧ LS W w' sb (q0 g0 b0) from H.out.create_bad HT.out (by show 1 < 500; omega) Y (by rw [HY.out]; unfold xB; rw [size_x]; omega) (by rw [HY.out]; exact cre0_long (by omega)) (by decide))
  go_wp2_with fail
  refine (Calls.mono K5.out) ?_
  rintro e w4 ⟨rfl, hw4⟩
  clear H
  have H := hide hw4
  clear hw4
  have K6 := hide (show Calls Tryd.prog 13 #[.string ⟨#[120]⟩, .int .i64 200] w4 fun e w' => e = .returned (.string X) ∧ w4 = w' from by rw [HX.out]; exact times_call 200 _ (by omega))
  go_wp2_with fail
  refine (Calls.mono K6.out) ?_
  rintro e wt ⟨rfl, rfl⟩
  have K7 := hide (show Calls Tryd.prog 9 #[.pointer (some ⟨sb, 0, none⟩), .string X] w4 fun e w' => e = .returned (.tuple #[.int .i64 1, .int .i64 0]) ∧ ∃ g b, LS W w' sb (addS (q0 g0 b0) X g b) from H.out.create_ok HT.out (by show 1 < 500; omega) X (by rw [HXS.out]; omega) (j := 1) (cre0_x HXS.out HXC.out) rfl)
  go_wp2_with fail
  refine (Calls.mono K7.out) ?_
  rintro e w5 ⟨rfl, g1, b1, hw5⟩
  have h2 : LS W w5 sb (q1 X g0 b0 g1 b1) := hw5
  clear H
  have H := hide h2
  clear h2 hw5
  have K8 := hide (show Calls Tryd.prog 13 #[.string ⟨#[120]⟩, .int .i64 200] w5 fun e w' => e = .returned (.string X) ∧ w5 = w' from by rw [HX.out]; exact times_call 200 _ (by omega))
  go_wp2_with fail
  refine (Calls.mono K8.out) ?_
  rintro e wt ⟨rfl, rfl⟩
  have K9 := hide (show Calls Tryd.prog 8 #[.pointer (some ⟨sb, 0, none⟩), .string X] w5 fun e w' => e = .returned (.tuple #[.string U, .int .i64 0]) ∧ LS W w' sb (q1 X g0 b0 g1 b1) from H.out.unique_ok HT.out HP.out X (by rw [HXS.out]; omega) (HXC.out) 1 (uni1_lt) (uni1_at HXS.out) (HU.out.symm))
  go_wp2_with fail
  refine (Calls.mono K9.out) ?_
  rintro e w6 ⟨rfl, hw6⟩
  clear H
  have H := hide hw6
  clear hw6
  have K10 := hide (show Calls Tryd.prog 8 #[.pointer (some ⟨sb, 0, none⟩), .string ⟨#[]⟩] w6 fun e w' => e = .returned (.tuple #[.string ⟨#[]⟩, .int .i64 17]) ∧ LS W w' sb (q1 X g0 b0 g1 b1) from H.out.unique_bad HT.out HP.out ⟨#[]⟩ (by show _ < (1000000 : Nat); decide) (by kernel_rfl) (by decide))
  go_wp2_with fail
  refine (Calls.mono K10.out) ?_
  rintro e w7 ⟨rfl, hw7⟩
  clear H
  have H := hide hw7
  clear hw7
  have K11 := hide (show Calls Tryd.prog 9 #[.pointer (some ⟨sb, 0, none⟩), .string nA] w7 fun e w' => e = .returned (.tuple #[.int .i64 2, .int .i64 0]) ∧ ∃ g b, LS W w' sb (addS (q1 X g0 b0 g1 b1) nA g b) from H.out.create_ok HT.out (by show 2 < 500; omega) nA (by show _ < (1000000 : Nat); decide) (j := 2) (cre1_a HXS.out) rfl)
  go_wp2_with fail
  refine (Calls.mono K11.out) ?_
  rintro e w8 ⟨rfl, g2, b2, hw8⟩
  have h2 : LS W w8 sb (q2 X g0 b0 g1 b1 g2 b2) := hw8
  clear H
  have H := hide h2
  clear h2 hw8
  have K12 := hide (show Calls Tryd.prog 9 #[.pointer (some ⟨sb, 0, none⟩), .string nA2] w8 fun e w' => e = .returned (.tuple #[.int .i64 3, .int .i64 0]) ∧ ∃ g b, LS W w' sb (addS (q2 X g0 b0 g1 b1 g2 b2) nA2 g b) from H.out.create_ok HT.out (by show 3 < 500; omega) nA2 (by show _ < (1000000 : Nat); decide) (j := 3) (cre2_a2 HXS.out) rfl)
  go_wp2_with fail
  refine (Calls.mono K12.out) ?_
  rintro e w9 ⟨rfl, g3, b3, hw9⟩
  have h2 : LS W w9 sb (q3 X g0 b0 g1 b1 g2 b2 g3 b3) := hw9
  clear H
  have H := hide h2
  clear h2 hw9
  have K13 := hide (show Calls Tryd.prog 8 #[.pointer (some ⟨sb, 0, none⟩), .string nA] w9 fun e w' => e = .returned (.tuple #[.string nA3, .int .i64 0]) ∧ LS W w' sb (q3 X g0 b0 g1 b1 g2 b2 g3 b3) from H.out.unique_ok HT.out HP.out nA (by show _ < (1000000 : Nat); decide) (by kernel_rfl) 2 (uni3_lt) (uni3_at HXS.out) (nm_a3))
  go_wp2_with fail
  refine (Calls.mono K13.out) ?_
  rintro e w10 ⟨rfl, hw10⟩
  clear H
  have H := hide hw10
  clear hw10
  have K14 := hide (show Calls Tryd.prog 14 #[.pointer (some ⟨sb, 0, none⟩), .int .i64 2, .string nA2] w10 fun e w' => e = .returned (.int .i64 17) ∧ LS W w' sb (q3 X g0 b0 g1 b1 g2 b2 g3 b3) from by have h := H.out.rename HT.out (q3_names HXS.out) (2) nA2 (by show _ < (1000000 : Nat); decide); rw [ren3_used] at h; exact h)
  go_wp2_with fail
  refine (Calls.mono K14.out) ?_
  rintro e w11 ⟨rfl, hw11⟩
  clear H
  have H := hide hw11
  clear hw11
  have K15 := hide (show Calls Tryd.prog 14 #[.pointer (some ⟨sb, 0, none⟩), .int .i64 2, .string nA] w11 fun e w' => e = .returned (.int .i64 0) ∧ LS W w' sb (q3 X g0 b0 g1 b1 g2 b2 g3 b3) from by have h := H.out.rename HT.out (q3_names HXS.out) (2) nA (by show _ < (1000000 : Nat); decide); rw [ren3_a HXS.out, if_pos rfl, ren3_same] at h; exact h)
  go_wp2_with fail
  refine (Calls.mono K15.out) ?_
  rintro e w12 ⟨rfl, hw12⟩
  clear H
  have H := hide hw12
  clear hw12
  have K16 := hide (show Calls Tryd.prog 14 #[.pointer (some ⟨sb, 0, none⟩), .int .i64 9, .string ⟨#[]⟩] w12 fun e w' => e = .returned (.int .i64 8) ∧ LS W w' sb (q3 X g0 b0 g1 b1 g2 b2 g3 b3) from by have h := H.out.rename HT.out (q3_names HXS.out) (9) ⟨#[]⟩ (by show _ < (1000000 : Nat); decide); rw [ren3_nine] at h; exact h)
  go_wp2_with fail
  refine (Calls.mono K16.out) ?_
  rintro e w13 ⟨rfl, hw13⟩
  clear H
  have H := hide hw13
  clear hw13
  have K17 := hide (show Calls Tryd.prog 14 #[.pointer (some ⟨sb, 0, none⟩), .int .i64 3, .string nC] w13 fun e w' => e = .returned (.int .i64 0) ∧ LS W w' sb (q4 X g0 b0 g1 b1 g2 b2 g3 b3) from by have h := H.out.rename HT.out (q3_names HXS.out) (3) nC (by show _ < (1000000 : Nat); decide); rw [ren3_c HXS.out, if_pos rfl, ren3_q4] at h; exact h)
  go_wp2_with fail
  refine (Calls.mono K17.out) ?_
  rintro e w14 ⟨rfl, hw14⟩
  clear H
  have H := hide hw14
  clear hw14
  have K18 := hide (show Calls Tryd.prog 5 #[] w14 fun e w' => e = .returned (.bool true) ∧ Below w14.heap.size w14 w' from lives_any w14 (HT.out.below H.out.bel) (HP.out.below H.out.bel))
  go_wp2_with fail
  refine (Calls.mono K18.out) ?_
  rintro e w15 ⟨rfl, bw15⟩
  have h2 := H.out.below bw15
  clear H
  have H := hide h2
  clear h2 bw15
  have K19 := hide (show Calls Tryd.prog 15 #[.pointer (some ⟨sb, 0, none⟩), .int .i64 0] w15 fun e w' => e = .returned (.pointer (some ⟨b0, 0, none⟩)) ∧ w15 = w' from H.out.get 0)
  go_wp2_with fail
  refine (Calls.mono K19.out) ?_
  rintro e wt ⟨rfl, rfl⟩
  have K20 := hide (show Calls Tryd.prog 15 #[.pointer (some ⟨sb, 0, none⟩), .int .i64 9] w15 fun e w' => e = .returned (.pointer none) ∧ w15 = w' from H.out.get 9)
  go_wp2_with fail
  refine (Calls.mono K20.out) ?_
  rintro e wt ⟨rfl, rfl⟩
  have K21 := hide (show Calls Tryd.prog 16 #[.pointer (some ⟨sb, 0, none⟩), .int .i64 3] w15 fun e w' => e = .returned (.int .i64 0) ∧ LS W w' sb (q5 X g0 b0 g1 b1 g2 b2 g3 b3) from H.out.enter (3))
  go_wp2_with fail
  refine (Calls.mono K21.out) ?_
  rintro e w16 ⟨rfl, hw16⟩
  clear H
  have H := hide hw16
  clear hw16
  have K22 := hide (show Calls Tryd.prog 18 #[.pointer (some ⟨sb, 0, none⟩)] w16 fun e w' => ∃ A c, e = .returned (.slice A 4 c) ∧ Rd w' (.slice A 4 c) 1 4 (ints [0, 1, 2, 3]) ∧ LS W w' sb (q5 X g0 b0 g1 b1 g2 b2 g3 b3) from H.out.list)
  go_wp2_with fail
  refine (Calls.mono K22.out) ?_
  rintro e w17 ⟨Aw17, cw17, rfl, rw17, hw17⟩
  have HSw17 := hide (same_ints (w17.alloc (.cells #[.int .i64 0, .int .i64 1, .int .i64 2, .int .i64 3] 3)) [0, 1, 2, 3] 4 4 Aw17 (some ⟨w17.heap.size, 0, none⟩) cw17 4 rfl rfl (rw17.belowN (below_box w17 _)) (rd_new w17 #[.int .i64 0, .int .i64 1, .int .i64 2, .int .i64 3] 4 rfl (by omega)) (by simp))
  have h2 := hw17.below (below_box w17 (.cells #[.int .i64 0, .int .i64 1, .int .i64 2, .int .i64 3] 3))
  clear H
  have H := hide h2
  clear h2 rw17 hw17
  go_wp2_with fail
  refine (Calls.mono HSw17.out) ?_
  rintro e w18 ⟨rfl, bw18⟩
  have h2 := H.out.below bw18
  clear H
  have H := hide h2
  clear h2 bw18
  have K23 := hide (show Calls Tryd.prog 19 #[.pointer (some ⟨sb, 0, none⟩), .int .i64 0] w18 fun e w' => e = .returned (.int .i64 0) ∧ LS W w' sb (q6 X g0 b0 g1 b1 g2 b2 g3 b3) from H.out.bury (0))
  go_wp2_with fail
  refine (Calls.mono K23.out) ?_
  rintro e w19 ⟨rfl, hw19⟩
  clear H
  have H := hide hw19
  clear hw19
  have K24 := hide (show Calls Tryd.prog 20 #[.pointer (some ⟨sb, 0, none⟩)] w19 fun e w' => e = .returned (.int .i64 3) ∧ w19 = w' from H.out.current)
  go_wp2_with fail
  refine (Calls.mono K24.out) ?_
  rintro e wt ⟨rfl, rfl⟩
  have K25 := hide (show Calls Tryd.prog 21 #[.pointer (some ⟨sb, 0, none⟩)] w19 fun e w' => e = .returned (.int .i64 1) ∧ LS W w' sb (q6 X g0 b0 g1 b1 g2 b2 g3 b3) from H.out.other)
  go_wp2_with fail
  refine (Calls.mono K25.out) ?_
  rintro e w20 ⟨rfl, hw20⟩
  clear H
  have H := hide hw20
  clear hw20
  have K26 := hide (show Calls Tryd.prog 18 #[.pointer (some ⟨sb, 0, none⟩)] w20 fun e w' => ∃ A c, e = .returned (.slice A 4 c) ∧ Rd w' (.slice A 4 c) 1 4 (ints [1, 2, 3, 0]) ∧ LS W w' sb (q6 X g0 b0 g1 b1 g2 b2 g3 b3) from H.out.list)
  go_wp2_with fail
  refine (Calls.mono K26.out) ?_
  rintro e w21 ⟨Aw21, cw21, rfl, rw21, hw21⟩
  have HSw21 := hide (same_ints (w21.alloc (.cells #[.int .i64 1, .int .i64 2, .int .i64 3, .int .i64 0] 3)) [1, 2, 3, 0] 4 4 Aw21 (some ⟨w21.heap.size, 0, none⟩) cw21 4 rfl rfl (rw21.belowN (below_box w21 _)) (rd_new w21 #[.int .i64 1, .int .i64 2, .int .i64 3, .int .i64 0] 4 rfl (by omega)) (by simp))
  have h2 := hw21.below (below_box w21 (.cells #[.int .i64 1, .int .i64 2, .int .i64 3, .int .i64 0] 3))
  clear H
  have H := hide h2
  clear h2 rw21 hw21
  go_wp2_with fail
  refine (Calls.mono HSw21.out) ?_
  rintro e w22 ⟨rfl, bw22⟩
  have h2 := H.out.below bw22
  clear H
  have H := hide h2
  clear h2 bw22
  have K27 := hide (show Calls Tryd.prog 22 #[.pointer (some ⟨sb, 0, none⟩), .int .i64 9] w22 fun e w' => e = .returned (.int .i64 8) ∧ LS W w' sb (q6 X g0 b0 g1 b1 g2 b2 g3 b3) from H.out.switch (9))
  go_wp2_with fail
  refine (Calls.mono K27.out) ?_
  rintro e w23 ⟨rfl, hw23⟩
  clear H
  have H := hide hw23
  clear hw23
  have K28 := hide (show Calls Tryd.prog 19 #[.pointer (some ⟨sb, 0, none⟩), .int .i64 9] w23 fun e w' => e = .returned (.int .i64 8) ∧ LS W w' sb (q6 X g0 b0 g1 b1 g2 b2 g3 b3) from H.out.bury (9))
  go_wp2_with fail
  refine (Calls.mono K28.out) ?_
  rintro e w24 ⟨rfl, hw24⟩
  clear H
  have H := hide hw24
  clear hw24
  have K29 := hide (show Calls Tryd.prog 16 #[.pointer (some ⟨sb, 0, none⟩), .int .i64 (-1)] w24 fun e w' => e = .returned (.int .i64 8) ∧ LS W w' sb (q6 X g0 b0 g1 b1 g2 b2 g3 b3) from H.out.enter (-1))
  go_wp2_with fail
  refine (Calls.mono K29.out) ?_
  rintro e w25 ⟨rfl, hw25⟩
  clear H
  have H := hide hw25
  clear hw25
  have K30 := hide (show Calls Tryd.prog 10 #[.pointer (some ⟨sb, 0, none⟩), .int .i64 9] w25 fun e w' => e = .returned (.int .i64 8) ∧ LS W w' sb (q6 X g0 b0 g1 b1 g2 b2 g3 b3) from H.out.kill (9))
  go_wp2_with fail
  refine (Calls.mono K30.out) ?_
  rintro e w26 ⟨rfl, hw26⟩
  clear H
  have H := hide hw26
  clear hw26
  have K31 := hide (show Calls Tryd.prog 7 #[.pointer (some ⟨sb, 0, none⟩)] w26 fun e w' => e = .returned (.int .i64 4) ∧ w26 = w' from H.out.many)
  go_wp2_with fail
  refine (Calls.mono K31.out) ?_
  rintro e wt ⟨rfl, rfl⟩
  go_wp2_with fail
  go_ret
  exact ⟨rfl, H.out.bel⟩
end Go.Proofs.YtnbhejbpofjamaaDoor
