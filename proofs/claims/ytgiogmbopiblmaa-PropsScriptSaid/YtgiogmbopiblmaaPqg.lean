/- The chapter's examples: the walk. No condition but those written. -/
import Derived.Test.YtgiogmbopiblmaaPqf
import Derived.Deep.RegionHeld3
namespace Go.Proofs.Ytgiogmbopiblmaa
open Go.RowKit

theorem obj_put_a {W w : World} {b : Nat} (h : Obj W w b []) : Calls Try.prog 13 #[.pointer (some ⟨b, 0, none⟩), .int .i64 2, .int .i64 5, .int .i64 7, .agg #[.int .i64 0, .int .i64 1]] w (ORes W w b exA (.int .i64 0)) := by
  have := obj_put h (Good.nil 64) (by omega) 2 5 7 0 1
  rw [putA.1, putA.2] at this
  exact this
theorem obj_put_b {W w : World} {b : Nat} (h : Obj W w b exA) : Calls Try.prog 13 #[.pointer (some ⟨b, 0, none⟩), .int .i64 3, .int .i64 4, .int .i64 8, .agg #[.int .i64 1, .int .i64 1]] w (ORes W w b exB (.int .i64 0)) := by
  have := obj_put h gdA (by omega) 3 4 8 1 1
  rw [putB.1, putB.2] at this
  exact this
theorem obj_ins_c {W w : World} {b : Nat} (h : Obj W w b exB) : Calls Try.prog 19 #[.pointer (some ⟨b, 0, none⟩), .int .i64 3, .int .i64 2] w (ORes W w b exC (.int .i64 0)) := by
  have := obj_ins h gdB (by omega) 3 2
  rw [insCQ.1, insCQ.2] at this
  exact this
set_option maxRecDepth 100000 in
set_option maxHeartbeats 16000000 in
theorem lives_any (w : World) : Calls Try.prog 10 #[] w fun e w' => e = .returned (.bool true) ∧ Below w.heap.size w w' := by
  go_enter Try.func10, Try.ntmps10
  go_wp2_with fail
  refine (Calls.mono (obj_new (Below.refl _ w))) ?_
  rintro r w1 ⟨b, rfl, h1, b1⟩
  have H1 := hide h1
  clear h1
  clear b1
  go_wp2_with fail
  refine (Calls.mono (int_any 1 w1)) ?_
  rintro r w2 ⟨rfl, b2⟩
  have H2 := hide (H1.out.below b2)
  clear b2 H1
  go_wp2_with fail
  refine (Calls.mono (obj_put_a H2.out)) ?_
  rintro r w3 ⟨rfl, h3, _⟩
  have H3 := hide h3
  clear h3 H2
  go_wp2_with fail
  refine (Calls.mono (t_any w3)) ?_
  rintro r w4 ⟨rfl, b4⟩
  have H4 := hide (H3.out.below b4)
  clear b4 H3
  go_wp2_with fail
  refine (Calls.mono (obj_put_b H4.out)) ?_
  rintro r w5 ⟨rfl, h5, _⟩
  have H5 := hide h5
  clear h5 H4
  go_wp2_with fail
  refine (Calls.mono (obj_spans H5.out gdB (by omega) 1 9)) ?_
  rintro r w6 ⟨v6, S, rfl, h6, e6⟩
  rw [spB] at e6
  obtain ⟨s0, s1, s2, rfl⟩ : ∃ s0 s1 s2, S = [s0, s1, s2] := by
    have hl : S.length = 3 := by rw [← sns_len, e6]; rfl
    match S, hl with
    | [s0, s1, s2], _ => exact ⟨s0, s1, s2, rfl⟩
  obtain ⟨a0, v0⟩ := s0
  obtain ⟨a1, v1⟩ := s1
  obtain ⟨a2, v2⟩ := s2
  simp only [sns, List.map_cons, List.map_nil, List.cons.injEq, and_true] at e6
  obtain ⟨rfl, rfl, rfl⟩ := e6
  obtain ⟨A6, c6, rfl, _⟩ := h6.inn.row.form
  have hrd := h6.inn.rd
  obtain ⟨g, off, e1, p00, p01, p02⟩ := hrd.at_ rfl (i := 0) rfl
  subst e1
  obtain ⟨_, _, e1, p10, p11, p12⟩ := hrd.at_ rfl (i := 1) rfl
  injection e1 with e1
  injection e1 with e1 e2
  subst e1 e2
  obtain ⟨_, _, e1, p20, p21, p22⟩ := hrd.at_ rfl (i := 2) rfl
  injection e1 with e1
  injection e1 with e1 e2
  subst e1 e2
  have hv1 : PrS w6 v1 [x7, x8] := h6.inn.inn (⟨3, 4, [x7, x8]⟩, v1) (by simp)
  obtain ⟨A7, c7, rfl, _⟩ := Sl.form hv1
  obtain ⟨g7, o7, e7, q0, q1, q2⟩ := PrS.at_ (Sl.rd hv1) rfl (i := 1) rfl
  subst e7
  have H6 := hide (H5.out.below h6.bel)
  simp only [Nat.zero_mul, Nat.one_mul, Nat.add_zero, Nat.reduceMul, Nat.add_assoc, Nat.reduceAdd, List.length_cons, List.length_nil] at p00 p01 p02 p10 p11 p12 p20 p21 p22 q0 q1 q2
  clear h6 hrd hv1 H5
  simp only [List.length_cons, List.length_nil, Nat.zero_add, Nat.reduceAdd]
  go_wp2_with fail
  refine (Calls.mono (obj_ins_c H6.out)) ?_
  rintro r w7 ⟨rfl, h7, _⟩
  have H7 := hide h7
  clear h7 H6 p00 p01 p02 p10 p11 p12 p20 p21 p22 q0 q1 q2
  go_wp2_with fail
  refine (Calls.mono (obj_get H7.out gdC (by omega) 4 7)) ?_
  rintro r w8 ⟨rfl, b8⟩
  have H8 := hide (H7.out.below b8)
  clear b8 H7
  rw [show getV (denI exC 4) 7 = (0, 0) from rfl, show getP (denI exC 4) 7 = none from rfl]
  simp only [Option.isSome_none]
  go_wp2_with fail
  have H9 := hide (H8.out.below (below_box w8 (.cells #[.int .i64 0, .int .i64 0] 29)))
  clear H8
  refine Calls.mono (obj_get H9.out gdC (by omega) 5 7) ?_
  rintro r w10 ⟨rfl, b10⟩
  have H10 := hide (H9.out.below b10)
  clear b10 H9
  rw [show getV (denI exC 5) 7 = (0, 1) from rfl, show getP (denI exC 5) 7 = some (0, 1) from rfl]
  simp only [Option.isSome_some]
  go_upto_region 10 with fail
  have hbx := below_box w10 (.cells #[.int .i64 0, .int .i64 1] 29)
  have B11 := hide ((Blk.new w10 29 #[.int .i64 0, .int .i64 1]).drew)
  have H11 := hide ((H10.out.below hbx).below (Below.refl _ _).drew)
  have HK := hide (fun (w' : World) (hb : Blk w' w10.heap.size 29 #[.int .i64 0, .int .i64 1]) => (show w'.cell? ⟨w10.heap.size, 0, none⟩ = some (.int .i64 0) ∧ w'.cell? ⟨w10.heap.size, 1, none⟩ = some (.int .i64 1) from ⟨hb.cell 0, hb.cell 1⟩))
  clear hbx H10
  go_region_held3 (fun w' => w'.cell? ⟨w10.heap.size, 0, none⟩ = some (.int .i64 0) ∧ w'.cell? ⟨w10.heap.size, 1, none⟩ = some (.int .i64 1))
    (first | exact HK.out _ B11.out | exact HK.out _ B12.out | exact HK.out _ B13.out | exact HK.out _ B14.out)
    ((first
      | (go_at_call 14; (with_reducible refine Calls.mono (int_any 1 _) ?_); rintro r w12 ⟨rfl, b12⟩; have B12 := hide (B11.out.below b12 B11.out.lt); have H12 := hide (H11.out.below b12); clear b12)
      | (go_at_call 22; (with_reducible refine Calls.mono (obj_next H12.out gdC (by omega) 1 9) ?_); rintro r w13 ⟨rfl, b13⟩; rw [nx1]; have B13 := hide (B12.out.below b13 B12.out.lt); have H13 := hide (H12.out.below b13); clear b13)
      | (go_at_call 30; (with_reducible refine Calls.mono (obj_nextof H13.out gdC (by omega) 2 7 9) ?_); rintro r w14 ⟨rfl, b14⟩; rw [nx2]; have B14 := hide (B13.out.below b14 B13.out.lt); have H14 := hide (H13.out.below b14); clear b14)))
  all_goals go_wp2
  all_goals (go_ret; exact ⟨rfl, H14.out.bel⟩)
/-- copyistkit.Pick. -/
def pickZ (n k : Int) : Int := if n.tmod k < 0 then n.tmod k + k else n.tmod k
theorem pickZ_range (n : Int) {k : Int} (hk : 0 < k) : 0 ≤ pickZ n k ∧ pickZ n k < k := by
  have b1 := Int.lt_tmod_of_pos n hk
  have b2 := Int.tmod_lt_of_pos n hk
  unfold pickZ
  split <;> omega
theorem pick_any (n k : Int) (w : World) (hk : 0 < k) (hk2 : k ≤ 100000) : Calls Try.prog 11 #[.int .i64 n, .int .i64 k] w fun e w' => e = .returned (.int .i64 (pickZ n k)) ∧ w = w' := by
  have hz : decide (k ≤ 0) = false := by simp; omega
  have b1 := Int.lt_tmod_of_pos n hk
  have b2 := Int.tmod_lt_of_pos n hk
  by_cases h : n.tmod k < 0
  · have hz2 : decide (n.tmod k < 0) = true := by simpa using h
    have HP := hide (show pickZ n k = n.tmod k + k by unfold pickZ; rw [if_pos h])
    go_enter Try.func11, Try.ntmps11
    go_wp2
    go_ret
    exact ⟨by rw [HP.out]; rfl, rfl⟩
  · have hz2 : decide (n.tmod k < 0) = false := by simpa using h
    have HP := hide (show pickZ n k = n.tmod k by unfold pickZ; rw [if_neg h])
    go_enter Try.func11, Try.ntmps11
    go_wp2
    go_ret
    exact ⟨by rw [HP.out]; rfl, rfl⟩
end Go.Proofs.Ytgiogmbopiblmaa
