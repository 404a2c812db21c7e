/- The reference's step over a character. No condition but those written. -/
import Derived.Test.YtdojcgefiekleaaDoorSeg
import Derived.Test.YtdojcgefiekleaaDoorSdd
namespace Go.Proofs.YtdojcgefiekleaaDoor
open Go.RowKit

theorem fresh_step {w w1 w2 : World} {v v2 : Value} (hB : Below w.heap.size w w1) (hO : ∀ g, v.ownBlock = some g → w.heap.size ≤ g) (ho : Only (fun g => v.ownBlock = some g) w1 w2) (hv : v2.ownBlock = v.ownBlock ∨ v2.ownBlock = some w1.heap.size) : Below w.heap.size w w2 ∧ ∀ g, v2.ownBlock = some g → w.heap.size ≤ g := by
  refine ⟨hB.trans (ho.below hB.size fun g hg => hO g hg), fun g hg => ?_⟩
  rcases hv with e | e
  · exact hO g (by rw [← e]; exact hg)
  · rw [e] at hg
    cases hg
    exact hB.size
theorem rd_take {w : World} {A : Option Addr} {n c m : Nat} {xs : List Value} (h : Rd w (.slice A n c) 1 n xs) (hm : m ≤ n) : Rd w (.slice A m c) 1 m (xs.take m) := by
  obtain ⟨A', c', e, hl, hc⟩ := h
  injection e with e1 _ e2
  subst e1 e2
  refine ⟨A, c, rfl, by rw [List.length_take, hl]; omega, fun hp => ?_⟩
  obtain ⟨g, off, e, hx⟩ := hc (by omega)
  refine ⟨g, off, e, fun j u hu => hx j u ?_⟩
  rw [List.getElem?_take] at hu
  split at hu
  · exact hu
  · cases hu
theorem wrap_up1 {x : Int} (h : -9223372036854775808 ≤ x ∧ x ≤ 9223372036854775807) : IntKind.i64.wrap (x + 1) = up1 x := by
  unfold up1
  split
  · next e => subst e; rfl
  · exact IntWalk.i64_in _ (by omega)
theorem info_nt2 : (Tryd.prog.info? 3).map (fun i => (i.zero, i.size, i.bytes)) = some (some (.int .i64 0), 1, 8) := by kernel_rfl
/-- A list of opens keeps where two boxes are written. -/
theorem sl_two {w w' : World} {b b8 n : Nat} {v : Value} {xs : List Value} {cs cs8 : Array Value} (h : Sl w 3 1 v n xs) (ho : Only (fun g => g = b ∨ g = b8) w w') (hb : Blk w b 50 cs) (hb8 : Blk w b8 50 cs8) : Sl w' 3 1 v n xs := by
  refine h.only ho fun g hg e => ?_
  rcases e with rfl | rfl
  · exact h.ne_blk hb (by decide) hg
  · exact h.ne_blk hb8 (by decide) hg
def StepRes (w : World) (S : Sta) (e : Ending) (w' : World) : Prop := ∃ A k, e = .returned (staV A k S) ∧ Sl w' 3 1 (.slice A S.opens.length k) S.opens.length (zints S.opens) ∧ Below w.heap.size w w'
section
variable {w : World} {r : Nat} {T : Tb}
set_option maxRecDepth 100000 in
set_option maxHeartbeats 32000000 in
theorem rstep_any (h : RT w r T) (A : Option Addr) (k : Nat) (S : Sta) (hs : Sl w 3 1 (.slice A S.opens.length k) S.opens.length (zints S.opens)) (hl : S.opens.length ≤ 2000) (hu : -9223372036854775808 ≤ S.under ∧ S.under ≤ 9223372036854775807) (c i : Nat) : Calls Tryd.prog 64 #[.pointer (some ⟨r, 0, none⟩), staV A k S, .int .i64 (c : Int), .int .i64 (i : Int)] w (StepRes w (S.step T c i)) := by
  obtain ⟨op, un, inn, cm, st, qu⟩ := S
  have hs : Sl w 3 1 (.slice A op.length k) op.length (zints op) := hs
  have hl : op.length ≤ 2000 := hl
  have hu : -9223372036854775808 ≤ un ∧ un ≤ 9223372036854775807 := hu
  show Calls Tryd.prog 64 #[.pointer (some ⟨r, 0, none⟩), .agg #[.slice A op.length k, .int .i64 un, .int .i64 inn, .bool cm, .int .i64 st, .bool qu], .int .i64 (c : Int), .int .i64 (i : Int)] w (StepRes w (Sta.step T ⟨op, un, inn, cm, st, qu⟩ c i))
  obtain ⟨ol, hol⟩ : ∃ m, m = op.length := ⟨_, rfl⟩
  have HOL := hide hol
  rw [← hol] at hs hl ⊢
  have hol9 : (ol : Int) ≤ 2000 := by omega
  obtain ⟨_, _, ek, hk1, hk2⟩ := hs.form
  injection ek with e1 e2 e3
  subst e1 e3
  clear e2
  have HKC := hide hk1
  have hkc : (ol : Int) ≤ (k : Int) := by omega
  have wu := wrap_up1 hu
  obtain ⟨un1, hun1⟩ : ∃ z, z = up1 un := ⟨_, rfl⟩
  have HUN := hide hun1
  rw [← hun1] at wu
  have HS := hide hs
  obtain ⟨i0, hi, hi1, hi2, hi3⟩ := info_parts info_nt2
  have HI := hide hi
  have HI1 := hide hi1
  have HI2 := hide hi2
  have HI3 := hide hi3
  have hb0 := (below_box w (.cells #[.slice A ol k, .int .i64 un, .int .i64 inn, .bool cm, .int .i64 st, .bool qu] 50)).alloc (below_box w (.cells #[.slice A ol k, .int .i64 un, .int .i64 inn, .bool cm, .int .i64 st, .bool qu] 50)).size (.cells #[.slice none 0 0, .int .i64 0, .int .i64 0, .bool false, .int .i64 0, .bool false] 50)
  have HB0 := hide hb0
  have HX5 := hide ((Blk.new w 50 #[.slice A ol k, .int .i64 un, .int .i64 inn, .bool cm, .int .i64 st, .bool qu]).alloc (.cells #[.slice none 0 0, .int .i64 0, .int .i64 0, .bool false, .int .i64 0, .bool false] 50))
  have HX8 := hide (show Blk ((w.alloc (.cells #[.slice A ol k, .int .i64 un, .int .i64 inn, .bool cm, .int .i64 st, .bool qu] 50)).alloc (.cells #[.slice none 0 0, .int .i64 0, .int .i64 0, .bool false, .int .i64 0, .bool false] 50)) (w.heap.size + 1) 50 #[.slice none 0 0, .int .i64 0, .int .i64 0, .bool false, .int .i64 0, .bool false] by
    have := Blk.new (w.alloc (.cells #[.slice A ol k, .int .i64 un, .int .i64 inn, .bool cm, .int .i64 st, .bool qu] 50)) 50 #[.slice none 0 0, .int .i64 0, .int .i64 0, .bool false, .int .i64 0, .bool false]
    rwa [World.size_alloc] at this)
  have HCL := hide (rClass_any (h.below hb0) (c : Int))
  obtain ⟨w1, hw1⟩ : ∃ y : World, y = (w.alloc (.cells #[.slice A ol k, .int .i64 un, .int .i64 inn, .bool cm, .int .i64 st, .bool qu] 50)).alloc (.cells #[.slice none 0 0, .int .i64 0, .int .i64 0, .bool false, .int .i64 0, .bool false] 50) := ⟨_, rfl⟩
  have HW1 := hide hw1
  rw [← hw1] at HB0 HX5 HX8 HCL
  obtain ⟨kc, hkc0⟩ : ∃ z, z = T.cl (c : Int) := ⟨_, rfl⟩
  rw [← hkc0] at HCL
  have HKL := hide hkc0
  clear h hs hl hu hol hk1 hk2 hun1 hi hi1 hi2 hi3 hb0 hw1
  cases qu with
  | true =>
    have HE := hide (show Sta.step T ⟨op, un, inn, cm, st, true⟩ c i = ⟨op, un, inn, cm, st, false⟩ by simp [Sta.step])

    clear hkc0
    go_enter Tryd.func64, Tryd.ntmps64
    go_wp2_with (rw [← HW1.out]; (go_at_call 35; (with_reducible refine Calls.mono HCL.out ?_); rintro e w2 ⟨rfl, b2⟩; have HB2 := hide (HB0.out.trans (b2.mono HB0.out.size)); have HY5 := hide (HX5.out.below b2 HX5.out.lt); have HY8 := hide (HX8.out.below b2 HX8.out.lt); have k0 := HY5.out.cell 0; have k1 := HY5.out.cell 1; have k2 := HY5.out.cell 2; have k3 := HY5.out.cell 3; have k4 := HY5.out.cell 4; have k5 := HY5.out.cell 5; have f0 := HY5.out.frozen 0; have f1 := HY5.out.frozen 1; have f2 := HY5.out.frozen 2; have f3 := HY5.out.frozen 3; have f4 := HY5.out.frozen 4; have f5 := HY5.out.frozen 5; have z0 := HY8.out.cell 0; have z1 := HY8.out.cell 1; have z2 := HY8.out.cell 2; have z3 := HY8.out.cell 3; have z4 := HY8.out.cell 4; have z5 := HY8.out.cell 5; have g0 := HY8.out.frozen 0; have g1 := HY8.out.frozen 1; have g2 := HY8.out.frozen 2; have g3 := HY8.out.frozen 3; have g4 := HY8.out.frozen 4; have g5 := HY8.out.frozen 5; clear b2))
    refine bodyPost_ret (results_cell_row rfl _ _ (w.heap.size + 1) 50 #[.slice A ol k, .int .i64 un, .int .i64 inn, .bool cm, .int .i64 st, .bool false] (0, 0) _ rfl (((((((HY8.out.far (p := ⟨w.heap.size, 5, none⟩) (by simp) _).set_ 0 _).set_ 1 _).set_ 2 _).set_ 3 _).set_ 4 _).set_ 5 _) Tryd.underlying50 rfl (by kernel_rfl)) rfl ?_
    exact ⟨A, k, by rw [HE.out, HOL.out]; rfl, by rw [HE.out]; show Sl _ 3 1 (.slice A op.length k) op.length (zints op); rw [← HOL.out]; exact sl_two (HS.out.only (Only.of_below (F := fun _ => False) HB2.out) fun _ _ f => f) ((((((((Only.refl (fun g => g = w.heap.size ∨ g = w.heap.size + 1) w2).setCell (p := ⟨w.heap.size, 5, none⟩) (.inl (.inl rfl)) _).setCell (p := ⟨w.heap.size + 1, 0, none⟩) (.inl (.inr rfl)) _).setCell (p := ⟨w.heap.size + 1, 1, none⟩) (.inl (.inr rfl)) _).setCell (p := ⟨w.heap.size + 1, 2, none⟩) (.inl (.inr rfl)) _).setCell (p := ⟨w.heap.size + 1, 3, none⟩) (.inl (.inr rfl)) _).setCell (p := ⟨w.heap.size + 1, 4, none⟩) (.inl (.inr rfl)) _).setCell (p := ⟨w.heap.size + 1, 5, none⟩) (.inl (.inr rfl)) _) HY5.out HY8.out, (((((((HB2.out.setCell (p := ⟨w.heap.size, 5, none⟩) (Nat.le_refl _) _).setCell (p := ⟨w.heap.size + 1, 0, none⟩) (Nat.le_succ _) _).setCell (p := ⟨w.heap.size + 1, 1, none⟩) (Nat.le_succ _) _).setCell (p := ⟨w.heap.size + 1, 2, none⟩) (Nat.le_succ _) _).setCell (p := ⟨w.heap.size + 1, 3, none⟩) (Nat.le_succ _) _).setCell (p := ⟨w.heap.size + 1, 4, none⟩) (Nat.le_succ _) _).setCell (p := ⟨w.heap.size + 1, 5, none⟩) (Nat.le_succ _) _)⟩
  | false =>
    by_cases h0 : inn = 0
    · subst h0
      cases cm with
      | true =>
        by_cases h9 : kc = 9
        · subst h9
          have HE := hide (show Sta.step T ⟨op, un, 0, true, st, false⟩ c i = ⟨op, un, 0, false, 0, false⟩ by simp [Sta.step, ← hkc0])

          clear hkc0
          go_enter Tryd.func64, Tryd.ntmps64
          go_wp2_with (rw [← HW1.out]; (go_at_call 35; (with_reducible refine Calls.mono HCL.out ?_); rintro e w2 ⟨rfl, b2⟩; have HB2 := hide (HB0.out.trans (b2.mono HB0.out.size)); have HY5 := hide (HX5.out.below b2 HX5.out.lt); have HY8 := hide (HX8.out.below b2 HX8.out.lt); have k0 := HY5.out.cell 0; have k1 := HY5.out.cell 1; have k2 := HY5.out.cell 2; have k3 := HY5.out.cell 3; have k4 := HY5.out.cell 4; have k5 := HY5.out.cell 5; have f0 := HY5.out.frozen 0; have f1 := HY5.out.frozen 1; have f2 := HY5.out.frozen 2; have f3 := HY5.out.frozen 3; have f4 := HY5.out.frozen 4; have f5 := HY5.out.frozen 5; have z0 := HY8.out.cell 0; have z1 := HY8.out.cell 1; have z2 := HY8.out.cell 2; have z3 := HY8.out.cell 3; have z4 := HY8.out.cell 4; have z5 := HY8.out.cell 5; have g0 := HY8.out.frozen 0; have g1 := HY8.out.frozen 1; have g2 := HY8.out.frozen 2; have g3 := HY8.out.frozen 3; have g4 := HY8.out.frozen 4; have g5 := HY8.out.frozen 5; clear b2))
          refine bodyPost_ret (results_cell_row rfl _ _ (w.heap.size + 1) 50 #[.slice A ol k, .int .i64 un, .int .i64 0, .bool false, .int .i64 0, .bool false] (0, 0) _ rfl ((((((((HY8.out.far (p := ⟨w.heap.size, 3, none⟩) (by simp) _).far (p := ⟨w.heap.size, 4, none⟩) (by simp) _).set_ 0 _).set_ 1 _).set_ 2 _).set_ 3 _).set_ 4 _).set_ 5 _) Tryd.underlying50 rfl (by kernel_rfl)) rfl ?_
          exact ⟨A, k, by rw [HE.out, HOL.out]; rfl, by rw [HE.out]; show Sl _ 3 1 (.slice A op.length k) op.length (zints op); rw [← HOL.out]; exact sl_two (HS.out.only (Only.of_below (F := fun _ => False) HB2.out) fun _ _ f => f) (((((((((Only.refl (fun g => g = w.heap.size ∨ g = w.heap.size + 1) w2).setCell (p := ⟨w.heap.size, 3, none⟩) (.inl (.inl rfl)) _).setCell (p := ⟨w.heap.size, 4, none⟩) (.inl (.inl rfl)) _).setCell (p := ⟨w.heap.size + 1, 0, none⟩) (.inl (.inr rfl)) _).setCell (p := ⟨w.heap.size + 1, 1, none⟩) (.inl (.inr rfl)) _).setCell (p := ⟨w.heap.size + 1, 2, none⟩) (.inl (.inr rfl)) _).setCell (p := ⟨w.heap.size + 1, 3, none⟩) (.inl (.inr rfl)) _).setCell (p := ⟨w.heap.size + 1, 4, none⟩) (.inl (.inr rfl)) _).setCell (p := ⟨w.heap.size + 1, 5, none⟩) (.inl (.inr rfl)) _) HY5.out HY8.out, ((((((((HB2.out.setCell (p := ⟨w.heap.size, 3, none⟩) (Nat.le_refl _) _).setCell (p := ⟨w.heap.size, 4, none⟩) (Nat.le_refl _) _).setCell (p := ⟨w.heap.size + 1, 0, none⟩) (Nat.le_succ _) _).setCell (p := ⟨w.heap.size + 1, 1, none⟩) (Nat.le_succ _) _).setCell (p := ⟨w.heap.size + 1, 2, none⟩) (Nat.le_succ _) _).setCell (p := ⟨w.heap.size + 1, 3, none⟩) (Nat.le_succ _) _).setCell (p := ⟨w.heap.size + 1, 4, none⟩) (Nat.le_succ _) _).setCell (p := ⟨w.heap.size + 1, 5, none⟩) (Nat.le_succ _) _)⟩
        · have e9 : (kc == 9) = false := by simpa using h9
          have HE := hide (show Sta.step T ⟨op, un, 0, true, st, false⟩ c i = ⟨op, un, 0, true, st, false⟩ by simp [Sta.step, ← hkc0, h9])

          clear h9 hkc0
          go_enter Tryd.func64, Tryd.ntmps64
          go_wp2_with (rw [← HW1.out]; (go_at_call 35; (with_reducible refine Calls.mono HCL.out ?_); rintro e w2 ⟨rfl, b2⟩; have HB2 := hide (HB0.out.trans (b2.mono HB0.out.size)); have HY5 := hide (HX5.out.below b2 HX5.out.lt); have HY8 := hide (HX8.out.below b2 HX8.out.lt); have k0 := HY5.out.cell 0; have k1 := HY5.out.cell 1; have k2 := HY5.out.cell 2; have k3 := HY5.out.cell 3; have k4 := HY5.out.cell 4; have k5 := HY5.out.cell 5; have f0 := HY5.out.frozen 0; have f1 := HY5.out.frozen 1; have f2 := HY5.out.frozen 2; have f3 := HY5.out.frozen 3; have f4 := HY5.out.frozen 4; have f5 := HY5.out.frozen 5; have z0 := HY8.out.cell 0; have z1 := HY8.out.cell 1; have z2 := HY8.out.cell 2; have z3 := HY8.out.cell 3; have z4 := HY8.out.cell 4; have z5 := HY8.out.cell 5; have g0 := HY8.out.frozen 0; have g1 := HY8.out.frozen 1; have g2 := HY8.out.frozen 2; have g3 := HY8.out.frozen 3; have g4 := HY8.out.frozen 4; have g5 := HY8.out.frozen 5; clear b2))
          refine bodyPost_ret (results_cell_row rfl _ _ (w.heap.size + 1) 50 #[.slice A ol k, .int .i64 un, .int .i64 0, .bool true, .int .i64 st, .bool false] (0, 0) _ rfl ((((((HY8.out.set_ 0 _).set_ 1 _).set_ 2 _).set_ 3 _).set_ 4 _).set_ 5 _) Tryd.underlying50 rfl (by kernel_rfl)) rfl ?_
          exact ⟨A, k, by rw [HE.out, HOL.out]; rfl, by rw [HE.out]; show Sl _ 3 1 (.slice A op.length k) op.length (zints op); rw [← HOL.out]; exact sl_two (HS.out.only (Only.of_below (F := fun _ => False) HB2.out) fun _ _ f => f) (((((((Only.refl (fun g => g = w.heap.size ∨ g = w.heap.size + 1) w2).setCell (p := ⟨w.heap.size + 1, 0, none⟩) (.inl (.inr rfl)) _).setCell (p := ⟨w.heap.size + 1, 1, none⟩) (.inl (.inr rfl)) _).setCell (p := ⟨w.heap.size + 1, 2, none⟩) (.inl (.inr rfl)) _).setCell (p := ⟨w.heap.size + 1, 3, none⟩) (.inl (.inr rfl)) _).setCell (p := ⟨w.heap.size + 1, 4, none⟩) (.inl (.inr rfl)) _).setCell (p := ⟨w.heap.size + 1, 5, none⟩) (.inl (.inr rfl)) _) HY5.out HY8.out, ((((((HB2.out.setCell (p := ⟨w.heap.size + 1, 0, none⟩) (Nat.le_succ _) _).setCell (p := ⟨w.heap.size + 1, 1, none⟩) (Nat.le_succ _) _).setCell (p := ⟨w.heap.size + 1, 2, none⟩) (Nat.le_succ _) _).setCell (p := ⟨w.heap.size + 1, 3, none⟩) (Nat.le_succ _) _).setCell (p := ⟨w.heap.size + 1, 4, none⟩) (Nat.le_succ _) _).setCell (p := ⟨w.heap.size + 1, 5, none⟩) (Nat.le_succ _) _)⟩
      | false =>
        by_cases h7 : kc = 7
        · subst h7
          have HE := hide (show Sta.step T ⟨op, un, 0, false, st, false⟩ c i = ⟨op, un, 0, false, st, true⟩ by simp [Sta.step, ← hkc0])

          clear hkc0
          go_enter Tryd.func64, Tryd.ntmps64
          go_wp2_with (rw [← HW1.out]; (go_at_call 35; (with_reducible refine Calls.mono HCL.out ?_); rintro e w2 ⟨rfl, b2⟩; have HB2 := hide (HB0.out.trans (b2.mono HB0.out.size)); have HY5 := hide (HX5.out.below b2 HX5.out.lt); have HY8 := hide (HX8.out.below b2 HX8.out.lt); have k0 := HY5.out.cell 0; have k1 := HY5.out.cell 1; have k2 := HY5.out.cell 2; have k3 := HY5.out.cell 3; have k4 := HY5.out.cell 4; have k5 := HY5.out.cell 5; have f0 := HY5.out.frozen 0; have f1 := HY5.out.frozen 1; have f2 := HY5.out.frozen 2; have f3 := HY5.out.frozen 3; have f4 := HY5.out.frozen 4; have f5 := HY5.out.frozen 5; have z0 := HY8.out.cell 0; have z1 := HY8.out.cell 1; have z2 := HY8.out.cell 2; have z3 := HY8.out.cell 3; have z4 := HY8.out.cell 4; have z5 := HY8.out.cell 5; have g0 := HY8.out.frozen 0; have g1 := HY8.out.frozen 1; have g2 := HY8.out.frozen 2; have g3 := HY8.out.frozen 3; have g4 := HY8.out.frozen 4; have g5 := HY8.out.frozen 5; clear b2))
          refine bodyPost_ret (results_cell_row rfl _ _ (w.heap.size + 1) 50 #[.slice A ol k, .int .i64 un, .int .i64 0, .bool false, .int .i64 st, .bool true] (0, 0) _ rfl (((((((HY8.out.far (p := ⟨w.heap.size, 5, none⟩) (by simp) _).set_ 0 _).set_ 1 _).set_ 2 _).set_ 3 _).set_ 4 _).set_ 5 _) Tryd.underlying50 rfl (by kernel_rfl)) rfl ?_
          exact ⟨A, k, by rw [HE.out, HOL.out]; rfl, by rw [HE.out]; show Sl _ 3 1 (.slice A op.length k) op.length (zints op); rw [← HOL.out]; exact sl_two (HS.out.only (Only.of_below (F := fun _ => False) HB2.out) fun _ _ f => f) ((((((((Only.refl (fun g => g = w.heap.size ∨ g = w.heap.size + 1) w2).setCell (p := ⟨w.heap.size, 5, none⟩) (.inl (.inl rfl)) _).setCell (p := ⟨w.heap.size + 1, 0, none⟩) (.inl (.inr rfl)) _).setCell (p := ⟨w.heap.size + 1, 1, none⟩) (.inl (.inr rfl)) _).setCell (p := ⟨w.heap.size + 1, 2, none⟩) (.inl (.inr rfl)) _).setCell (p := ⟨w.heap.size + 1, 3, none⟩) (.inl (.inr rfl)) _).setCell (p := ⟨w.heap.size + 1, 4, none⟩) (.inl (.inr rfl)) _).setCell (p := ⟨w.heap.size + 1, 5, none⟩) (.inl (.inr rfl)) _) HY5.out HY8.out, (((((((HB2.out.setCell (p := ⟨w.heap.size, 5, none⟩) (Nat.le_refl _) _).setCell (p := ⟨w.heap.size + 1, 0, none⟩) (Nat.le_succ _) _).setCell (p := ⟨w.heap.size + 1, 1, none⟩) (Nat.le_succ _) _).setCell (p := ⟨w.heap.size + 1, 2, none⟩) (Nat.le_succ _) _).setCell (p := ⟨w.heap.size + 1, 3, none⟩) (Nat.le_succ _) _).setCell (p := ⟨w.heap.size + 1, 4, none⟩) (Nat.le_succ _) _).setCell (p := ⟨w.heap.size + 1, 5, none⟩) (Nat.le_succ _) _)⟩
        have e7 : (kc == 7) = false := by simpa using h7
        by_cases h6 : kc = 6
        · subst h6
          have HE := hide (show Sta.step T ⟨op, un, 0, false, st, false⟩ c i = ⟨op, un, (c : Int), false, (i : Int), false⟩ by simp [Sta.step, ← hkc0])

          clear h7 hkc0
          go_enter Tryd.func64, Tryd.ntmps64
          go_wp2_with (rw [← HW1.out]; (go_at_call 35; (with_reducible refine Calls.mono HCL.out ?_); rintro e w2 ⟨rfl, b2⟩; have HB2 := hide (HB0.out.trans (b2.mono HB0.out.size)); have HY5 := hide (HX5.out.below b2 HX5.out.lt); have HY8 := hide (HX8.out.below b2 HX8.out.lt); have k0 := HY5.out.cell 0; have k1 := HY5.out.cell 1; have k2 := HY5.out.cell 2; have k3 := HY5.out.cell 3; have k4 := HY5.out.cell 4; have k5 := HY5.out.cell 5; have f0 := HY5.out.frozen 0; have f1 := HY5.out.frozen 1; have f2 := HY5.out.frozen 2; have f3 := HY5.out.frozen 3; have f4 := HY5.out.frozen 4; have f5 := HY5.out.frozen 5; have z0 := HY8.out.cell 0; have z1 := HY8.out.cell 1; have z2 := HY8.out.cell 2; have z3 := HY8.out.cell 3; have z4 := HY8.out.cell 4; have z5 := HY8.out.cell 5; have g0 := HY8.out.frozen 0; have g1 := HY8.out.frozen 1; have g2 := HY8.out.frozen 2; have g3 := HY8.out.frozen 3; have g4 := HY8.out.frozen 4; have g5 := HY8.out.frozen 5; clear b2))
          refine bodyPost_ret (results_cell_row rfl _ _ (w.heap.size + 1) 50 #[.slice A ol k, .int .i64 un, .int .i64 (c : Int), .bool false, .int .i64 (i : Int), .bool false] (0, 0) _ rfl ((((((((HY8.out.far (p := ⟨w.heap.size, 2, none⟩) (by simp) _).far (p := ⟨w.heap.size, 4, none⟩) (by simp) _).set_ 0 _).set_ 1 _).set_ 2 _).set_ 3 _).set_ 4 _).set_ 5 _) Tryd.underlying50 rfl (by kernel_rfl)) rfl ?_
          exact ⟨A, k, by rw [HE.out, HOL.out]; rfl, by rw [HE.out]; show Sl _ 3 1 (.slice A op.length k) op.length (zints op); rw [← HOL.out]; exact sl_two (HS.out.only (Only.of_below (F := fun _ => False) HB2.out) fun _ _ f => f) (((((((((Only.refl (fun g => g = w.heap.size ∨ g = w.heap.size + 1) w2).setCell (p := ⟨w.heap.size, 2, none⟩) (.inl (.inl rfl)) _).setCell (p := ⟨w.heap.size, 4, none⟩) (.inl (.inl rfl)) _).setCell (p := ⟨w.heap.size + 1, 0, none⟩) (.inl (.inr rfl)) _).setCell (p := ⟨w.heap.size + 1, 1, none⟩) (.inl (.inr rfl)) _).setCell (p := ⟨w.heap.size + 1, 2, none⟩) (.inl (.inr rfl)) _).setCell (p := ⟨w.heap.size + 1, 3, none⟩) (.inl (.inr rfl)) _).setCell (p := ⟨w.heap.size + 1, 4, none⟩) (.inl (.inr rfl)) _).setCell (p := ⟨w.heap.size + 1, 5, none⟩) (.inl (.inr rfl)) _) HY5.out HY8.out, ((((((((HB2.out.setCell (p := ⟨w.heap.size, 2, none⟩) (Nat.le_refl _) _).setCell (p := ⟨w.heap.size, 4, none⟩) (Nat.le_refl _) _).setCell (p := ⟨w.heap.size + 1, 0, none⟩) (Nat.le_succ _) _).setCell (p := ⟨w.heap.size + 1, 1, none⟩) (Nat.le_succ _) _).setCell (p := ⟨w.heap.size + 1, 2, none⟩) (Nat.le_succ _) _).setCell (p := ⟨w.heap.size + 1, 3, none⟩) (Nat.le_succ _) _).setCell (p := ⟨w.heap.size + 1, 4, none⟩) (Nat.le_succ _) _).setCell (p := ⟨w.heap.size + 1, 5, none⟩) (Nat.le_succ _) _)⟩
        have e6 : (kc == 6) = false := by simpa using h6
        by_cases h8 : kc = 8
        · subst h8
          have HE := hide (show Sta.step T ⟨op, un, 0, false, st, false⟩ c i = ⟨op, un, 0, true, (i : Int), false⟩ by simp [Sta.step, ← hkc0])

          clear h7 h6 hkc0
          go_enter Tryd.func64, Tryd.ntmps64
          go_wp2_with (rw [← HW1.out]; (go_at_call 35; (with_reducible refine Calls.mono HCL.out ?_); rintro e w2 ⟨rfl, b2⟩; have HB2 := hide (HB0.out.trans (b2.mono HB0.out.size)); have HY5 := hide (HX5.out.below b2 HX5.out.lt); have HY8 := hide (HX8.out.below b2 HX8.out.lt); have k0 := HY5.out.cell 0; have k1 := HY5.out.cell 1; have k2 := HY5.out.cell 2; have k3 := HY5.out.cell 3; have k4 := HY5.out.cell 4; have k5 := HY5.out.cell 5; have f0 := HY5.out.frozen 0; have f1 := HY5.out.frozen 1; have f2 := HY5.out.frozen 2; have f3 := HY5.out.frozen 3; have f4 := HY5.out.frozen 4; have f5 := HY5.out.frozen 5; have z0 := HY8.out.cell 0; have z1 := HY8.out.cell 1; have z2 := HY8.out.cell 2; have z3 := HY8.out.cell 3; have z4 := HY8.out.cell 4; have z5 := HY8.out.cell 5; have g0 := HY8.out.frozen 0; have g1 := HY8.out.frozen 1; have g2 := HY8.out.frozen 2; have g3 := HY8.out.frozen 3; have g4 := HY8.out.frozen 4; have g5 := HY8.out.frozen 5; clear b2))
          refine bodyPost_ret (results_cell_row rfl _ _ (w.heap.size + 1) 50 #[.slice A ol k, .int .i64 un, .int .i64 0, .bool true, .int .i64 (i : Int), .bool false] (0, 0) _ rfl ((((((((HY8.out.far (p := ⟨w.heap.size, 3, none⟩) (by simp) _).far (p := ⟨w.heap.size, 4, none⟩) (by simp) _).set_ 0 _).set_ 1 _).set_ 2 _).set_ 3 _).set_ 4 _).set_ 5 _) Tryd.underlying50 rfl (by kernel_rfl)) rfl ?_
          exact ⟨A, k, by rw [HE.out, HOL.out]; rfl, by rw [HE.out]; show Sl _ 3 1 (.slice A op.length k) op.length (zints op); rw [← HOL.out]; exact sl_two (HS.out.only (Only.of_below (F := fun _ => False) HB2.out) fun _ _ f => f) (((((((((Only.refl (fun g => g = w.heap.size ∨ g = w.heap.size + 1) w2).setCell (p := ⟨w.heap.size, 3, none⟩) (.inl (.inl rfl)) _).setCell (p := ⟨w.heap.size, 4, none⟩) (.inl (.inl rfl)) _).setCell (p := ⟨w.heap.size + 1, 0, none⟩) (.inl (.inr rfl)) _).setCell (p := ⟨w.heap.size + 1, 1, none⟩) (.inl (.inr rfl)) _).setCell (p := ⟨w.heap.size + 1, 2, none⟩) (.inl (.inr rfl)) _).setCell (p := ⟨w.heap.size + 1, 3, none⟩) (.inl (.inr rfl)) _).setCell (p := ⟨w.heap.size + 1, 4, none⟩) (.inl (.inr rfl)) _).setCell (p := ⟨w.heap.size + 1, 5, none⟩) (.inl (.inr rfl)) _) HY5.out HY8.out, ((((((((HB2.out.setCell (p := ⟨w.heap.size, 3, none⟩) (Nat.le_refl _) _).setCell (p := ⟨w.heap.size, 4, none⟩) (Nat.le_refl _) _).setCell (p := ⟨w.heap.size + 1, 0, none⟩) (Nat.le_succ _) _).setCell (p := ⟨w.heap.size + 1, 1, none⟩) (Nat.le_succ _) _).setCell (p := ⟨w.heap.size + 1, 2, none⟩) (Nat.le_succ _) _).setCell (p := ⟨w.heap.size + 1, 3, none⟩) (Nat.le_succ _) _).setCell (p := ⟨w.heap.size + 1, 4, none⟩) (Nat.le_succ _) _).setCell (p := ⟨w.heap.size + 1, 5, none⟩) (Nat.le_succ _) _)⟩
        have e8 : (kc == 8) = false := by simpa using h8
        by_cases h4 : kc = 4
        · subst h4
          have HE := hide (show Sta.step T ⟨op, un, 0, false, st, false⟩ c i = ⟨op ++ [(i : Int)], un, 0, false, st, false⟩ by simp [Sta.step, ← hkc0])
          clear h7 h6 h8 hkc0
          go_enter Tryd.func64, Tryd.ntmps64
          go_wp2_with (first | (rw [← HW1.out]; (go_at_call 35; (with_reducible refine Calls.mono HCL.out ?_); rintro e w2 ⟨rfl, b2⟩; have HB2 := hide (HB0.out.trans (b2.mono HB0.out.size)); have HY5 := hide (HX5.out.below b2 HX5.out.lt); have HY8 := hide (HX8.out.below b2 HX8.out.lt); have k0 := HY5.out.cell 0; have k1 := HY5.out.cell 1; have k2 := HY5.out.cell 2; have k3 := HY5.out.cell 3; have k4 := HY5.out.cell 4; have k5 := HY5.out.cell 5; have f0 := HY5.out.frozen 0; have f1 := HY5.out.frozen 1; have f2 := HY5.out.frozen 2; have f3 := HY5.out.frozen 3; have f4 := HY5.out.frozen 4; have f5 := HY5.out.frozen 5; have z0 := HY8.out.cell 0; have z1 := HY8.out.cell 1; have z2 := HY8.out.cell 2; have z3 := HY8.out.cell 3; have z4 := HY8.out.cell 4; have z5 := HY8.out.cell 5; have g0 := HY8.out.frozen 0; have g1 := HY8.out.frozen 1; have g2 := HY8.out.frozen 2; have g3 := HY8.out.frozen 3; have g4 := HY8.out.frozen 4; have g5 := HY8.out.frozen 5; have HR2 := hide (Sl.rd ((HS.out.only (Only.of_below (F := fun _ => False) HB2.out) fun _ _ f => f).alloc (.cells #[] 3))); have HEM := hide (show Sl (w2.alloc (.cells #[] 3)) 3 1 (.slice (some ⟨w2.heap.size, 0, none⟩) 0 0) 0 [] by simpa using Sl.new w2 3 1 #[] 0 0 (Nat.le_refl _) (by simp [maxLen]) (by simp)); have ka0 := (HY5.out.alloc (.cells #[] 3)).cell 0; clear b2)) | (at_builtin; refine wpList_append_sl rfl (.tmp 57) (.tmp 59) 24 rfl 3 i0 (.int .i64 0) 1 8 Tryd.underlying24 HI.out HI1.out HI2.out HI3.out rfl (.slice (some ⟨w2.heap.size, 0, none⟩) 0 0) 0 [] rfl HEM.out _ rfl  ol (zints op) HR2.out (fun u hu => by obtain ⟨z, _, rfl⟩ := List.mem_map.1 hu; rfl) ?b1 ?b2 ?_))
          case b1 => unfold maxLen; omega
          case b2 => omega
          intro v4 w4 hs4 ho4 hv4
          have hf4 := fresh_step ((below_box w2 (.cells #[] 3))) (by intro g hg; cases hg; exact Nat.le_refl _) ho4 (by rw [World.size_alloc]; exact hv4)
          have HF4 := hide hf4
          have HS4 := hide (show Sl w4 3 1 v4 ol (zints op) by simpa using hs4)
          obtain ⟨A4, c4, rfl, _, _⟩ := HS4.out.form
          clear hs4 ho4 hv4 hf4 ka0 k0 k1 k2 k3 k4 k5 f0 f1 f2 f3 f4 f5 z0 z1 z2 z3 z4 z5 g0 g1 g2 g3 g4 g5
          have HOB := hide (HS4.out.alloc (.cells #[.int .i64 (i : Int)] 3))
          go_wp2_with (at_builtin; refine wpList_append_sl rfl (.tmp 60) (.tmp 62) 24 rfl 3 i0 (.int .i64 0) 1 8 Tryd.underlying24 HI.out HI1.out HI2.out HI3.out rfl (.slice A4 ol c4) ol (zints op) rfl HOB.out _ rfl 1 [.int .i64 (i : Int)] (rd_elem w4 3 1 [.int .i64 (i : Int)] rfl) (fun u hu => by simp at hu; rw [hu]; rfl) ?b1 ?b2 ?_)
          case b1 => unfold maxLen; omega
          case b2 => omega
          intro v5 w5 hs5 ho5 hv5
          have hf5 := fresh_step (HF4.out.1.trans ((below_box w4 (.cells #[.int .i64 (i : Int)] 3)).mono HF4.out.1.size)) HF4.out.2 ho5 (by rw [World.size_alloc]; exact hv5)
          have HF5 := hide hf5.1
          have HS5 := hide (show Sl w5 3 1 v5 (ol + 1) (zints (op ++ [(i : Int)])) by rw [zints_snoc]; exact hs5)
          obtain ⟨A5, c5, rfl, _, _⟩ := HS5.out.form
          have HU5 := hide (HY5.out.below hf5.1 HY5.out.lt)
          have HU8 := hide (HY8.out.below hf5.1 HY8.out.lt)
          have HBX := hide (HB2.out.trans (hf5.1.mono HB2.out.size))
          have k0 := HU5.out.cell 0
          have k1 := HU5.out.cell 1
          have k2 := HU5.out.cell 2
          have k3 := HU5.out.cell 3
          have k4 := HU5.out.cell 4
          have k5 := HU5.out.cell 5
          have f0 := HU5.out.frozen 0
          have f1 := HU5.out.frozen 1
          have f2 := HU5.out.frozen 2
          have f3 := HU5.out.frozen 3
          have f4 := HU5.out.frozen 4
          have f5 := HU5.out.frozen 5
          have z0 := HU8.out.cell 0
          have z1 := HU8.out.cell 1
          have z2 := HU8.out.cell 2
          have z3 := HU8.out.cell 3
          have z4 := HU8.out.cell 4
          have z5 := HU8.out.cell 5
          have g0 := HU8.out.frozen 0
          have g1 := HU8.out.frozen 1
          have g2 := HU8.out.frozen 2
          have g3 := HU8.out.frozen 3
          have g4 := HU8.out.frozen 4
          have g5 := HU8.out.frozen 5
          clear hs5 ho5 hv5 hf5
          go_wp2_with fail
          refine bodyPost_ret (results_cell_row rfl _ _ (w.heap.size + 1) 50 #[.slice A5 (ol + 1) c5, .int .i64 un, .int .i64 0, .bool false, .int .i64 st, .bool false] (0, 0) _ rfl (((((((HU8.out.far (p := ⟨w.heap.size, 0, none⟩) (by simp) _).set_ 0 _).set_ 1 _).set_ 2 _).set_ 3 _).set_ 4 _).set_ 5 _) Tryd.underlying50 rfl (by kernel_rfl)) rfl ?_
          exact ⟨A5, c5, by rw [HE.out]; unfold staV; simp [HOL.out], by rw [HE.out]; show Sl _ 3 1 (.slice A5 (op ++ [(i : Int)]).length c5) (op ++ [(i : Int)]).length (zints (op ++ [(i : Int)])); rw [show (op ++ [(i : Int)]).length = (ol + 1) from by have := HOL.out; simp; omega]; exact sl_two HS5.out ((((((((Only.refl (fun g => g = w.heap.size ∨ g = w.heap.size + 1) w5).setCell (p := ⟨w.heap.size, 0, none⟩) (.inl (.inl rfl)) _).setCell (p := ⟨w.heap.size + 1, 0, none⟩) (.inl (.inr rfl)) _).setCell (p := ⟨w.heap.size + 1, 1, none⟩) (.inl (.inr rfl)) _).setCell (p := ⟨w.heap.size + 1, 2, none⟩) (.inl (.inr rfl)) _).setCell (p := ⟨w.heap.size + 1, 3, none⟩) (.inl (.inr rfl)) _).setCell (p := ⟨w.heap.size + 1, 4, none⟩) (.inl (.inr rfl)) _).setCell (p := ⟨w.heap.size + 1, 5, none⟩) (.inl (.inr rfl)) _) HU5.out HU8.out, (((((((HBX.out.setCell (p := ⟨w.heap.size, 0, none⟩) (Nat.le_refl _) _).setCell (p := ⟨w.heap.size + 1, 0, none⟩) (Nat.le_succ _) _).setCell (p := ⟨w.heap.size + 1, 1, none⟩) (Nat.le_succ _) _).setCell (p := ⟨w.heap.size + 1, 2, none⟩) (Nat.le_succ _) _).setCell (p := ⟨w.heap.size + 1, 3, none⟩) (Nat.le_succ _) _).setCell (p := ⟨w.heap.size + 1, 4, none⟩) (Nat.le_succ _) _).setCell (p := ⟨w.heap.size + 1, 5, none⟩) (Nat.le_succ _) _)⟩
        have e4 : (kc == 4) = false := by simpa using h4
        by_cases h5 : kc = 5
        · subst h5
          by_cases ho : 0 < ol
          · have o1 : decide (0 < ol) = true := by simpa using ho
            have o2 : decide ((0 : Int) < (ol : Int)) = true := by simp; omega
            have o3 : (0 : Int) < (ol : Int) := by omega
            obtain ⟨om, hom⟩ : ∃ z, ol = z + 1 := ⟨ol - 1, by omega⟩
            have wo : IntKind.i64.wrap ((ol : Int) - 1) = (om : Int) := by rw [show (ol : Int) - 1 = (om : Int) by omega]; exact IntWalk.i64_in _ (by omega)
            have hok : (om : Int) ≤ (k : Int) := by omega
            have hok2 : om ≤ k := by have := HKC.out; omega
            have HOM := hide hom
            have om9 : (om : Int) ≤ 2000 := by omega
            have HE := hide (show Sta.step T ⟨op, un, 0, false, st, false⟩ c i = ⟨op.dropLast, un, 0, false, st, false⟩ by
              have e0 : op ≠ [] := fun e => by rw [HOL.out, e] at ho; simp at ho
              simp [Sta.step, ← hkc0, e0])
            clear h7 h6 h8 h4 ho hom hkc0
            go_enter Tryd.func64, Tryd.ntmps64
            go_wp2_with (first | (rw [← HW1.out]; (go_at_call 35; (with_reducible refine Calls.mono HCL.out ?_); rintro e w2 ⟨rfl, b2⟩; have HB2 := hide (HB0.out.trans (b2.mono HB0.out.size)); have HY5 := hide (HX5.out.below b2 HX5.out.lt); have HY8 := hide (HX8.out.below b2 HX8.out.lt); have k0 := HY5.out.cell 0; have k1 := HY5.out.cell 1; have k2 := HY5.out.cell 2; have k3 := HY5.out.cell 3; have k4 := HY5.out.cell 4; have k5 := HY5.out.cell 5; have f0 := HY5.out.frozen 0; have f1 := HY5.out.frozen 1; have f2 := HY5.out.frozen 2; have f3 := HY5.out.frozen 3; have f4 := HY5.out.frozen 4; have f5 := HY5.out.frozen 5; have z0 := HY8.out.cell 0; have z1 := HY8.out.cell 1; have z2 := HY8.out.cell 2; have z3 := HY8.out.cell 3; have z4 := HY8.out.cell 4; have z5 := HY8.out.cell 5; have g0 := HY8.out.frozen 0; have g1 := HY8.out.frozen 1; have g2 := HY8.out.frozen 2; have g3 := HY8.out.frozen 3; have g4 := HY8.out.frozen 4; have g5 := HY8.out.frozen 5; have HR2 := hide (rd_take (m := om) (Sl.rd ((HS.out.only (Only.of_below (F := fun _ => False) HB2.out) fun _ _ f => f).alloc (.cells #[] 3))) (by have := HOM.out; omega)); have HEM := hide (show Sl (w2.alloc (.cells #[] 3)) 3 1 (.slice (some ⟨w2.heap.size, 0, none⟩) 0 0) 0 [] by simpa using Sl.new w2 3 1 #[] 0 0 (Nat.le_refl _) (by simp [maxLen]) (by simp)); have ka0 := (HY5.out.alloc (.cells #[] 3)).cell 0; clear b2)) | (at_builtin; refine wpList_append_sl rfl (.tmp 74) (.tmp 81) 24 rfl 3 i0 (.int .i64 0) 1 8 Tryd.underlying24 HI.out HI1.out HI2.out HI3.out rfl (.slice (some ⟨w2.heap.size, 0, none⟩) 0 0) 0 [] rfl HEM.out _ rfl  om ((zints op).take om) HR2.out (fun u hu => by obtain ⟨z, _, rfl⟩ := List.mem_map.1 (List.mem_of_mem_take hu); rfl) ?b1 ?b2 ?_))
            case b1 => unfold maxLen; omega
            case b2 => omega
            intro v5 w5 hs5 ho5 hv5
            have hf5 := fresh_step ((below_box w2 (.cells #[] 3))) (by intro g hg; cases hg; exact Nat.le_refl _) ho5 (by rw [World.size_alloc]; exact hv5)
            have HS5 := hide (show Sl w5 3 1 v5 om (zints op.dropLast) by
              have e : zints op.dropLast = (zints op).take om := by unfold zints; rw [List.dropLast_eq_take, List.map_take, ← HOL.out, HOM.out, Nat.add_sub_cancel]
              rw [e]
              simpa using hs5)
            obtain ⟨A5, c5, rfl, _, _⟩ := HS5.out.form
            have HU5 := hide (HY5.out.below hf5.1 HY5.out.lt)
            have HU8 := hide (HY8.out.below hf5.1 HY8.out.lt)
            have HBX := hide (HB2.out.trans (hf5.1.mono HB2.out.size))
            clear ka0 k0 k1 k2 k3 k4 k5 f0 f1 f2 f3 f4 f5 z0 z1 z2 z3 z4 z5 g0 g1 g2 g3 g4 g5
            have k0 := HU5.out.cell 0
            have k1 := HU5.out.cell 1
            have k2 := HU5.out.cell 2
            have k3 := HU5.out.cell 3
            have k4 := HU5.out.cell 4
            have k5 := HU5.out.cell 5
            have f0 := HU5.out.frozen 0
            have f1 := HU5.out.frozen 1
            have f2 := HU5.out.frozen 2
            have f3 := HU5.out.frozen 3
            have f4 := HU5.out.frozen 4
            have f5 := HU5.out.frozen 5
            have z0 := HU8.out.cell 0
            have z1 := HU8.out.cell 1
            have z2 := HU8.out.cell 2
            have z3 := HU8.out.cell 3
            have z4 := HU8.out.cell 4
            have z5 := HU8.out.cell 5
            have g0 := HU8.out.frozen 0
            have g1 := HU8.out.frozen 1
            have g2 := HU8.out.frozen 2
            have g3 := HU8.out.frozen 3
            have g4 := HU8.out.frozen 4
            have g5 := HU8.out.frozen 5
            clear hs5 ho5 hv5 hf5
            go_wp2_with fail
            refine bodyPost_ret (results_cell_row rfl _ _ (w.heap.size + 1) 50 #[.slice A5 om c5, .int .i64 un, .int .i64 0, .bool false, .int .i64 st, .bool false] (0, 0) _ rfl (((((((HU8.out.far (p := ⟨w.heap.size, 0, none⟩) (by simp) _).set_ 0 _).set_ 1 _).set_ 2 _).set_ 3 _).set_ 4 _).set_ 5 _) Tryd.underlying50 rfl (by kernel_rfl)) rfl ?_
            exact ⟨A5, c5, by rw [HE.out]; unfold staV; rw [List.length_dropLast, ← HOL.out, HOM.out, Nat.add_sub_cancel], by rw [HE.out]; show Sl _ 3 1 (.slice A5 (op.dropLast).length c5) (op.dropLast).length (zints (op.dropLast)); rw [show (op.dropLast).length = om from by have := HOL.out; have := HOM.out; rw [List.length_dropLast]; omega]; exact sl_two HS5.out ((((((((Only.refl (fun g => g = w.heap.size ∨ g = w.heap.size + 1) w5).setCell (p := ⟨w.heap.size, 0, none⟩) (.inl (.inl rfl)) _).setCell (p := ⟨w.heap.size + 1, 0, none⟩) (.inl (.inr rfl)) _).setCell (p := ⟨w.heap.size + 1, 1, none⟩) (.inl (.inr rfl)) _).setCell (p := ⟨w.heap.size + 1, 2, none⟩) (.inl (.inr rfl)) _).setCell (p := ⟨w.heap.size + 1, 3, none⟩) (.inl (.inr rfl)) _).setCell (p := ⟨w.heap.size + 1, 4, none⟩) (.inl (.inr rfl)) _).setCell (p := ⟨w.heap.size + 1, 5, none⟩) (.inl (.inr rfl)) _) HU5.out HU8.out, (((((((HBX.out.setCell (p := ⟨w.heap.size, 0, none⟩) (Nat.le_refl _) _).setCell (p := ⟨w.heap.size + 1, 0, none⟩) (Nat.le_succ _) _).setCell (p := ⟨w.heap.size + 1, 1, none⟩) (Nat.le_succ _) _).setCell (p := ⟨w.heap.size + 1, 2, none⟩) (Nat.le_succ _) _).setCell (p := ⟨w.heap.size + 1, 3, none⟩) (Nat.le_succ _) _).setCell (p := ⟨w.heap.size + 1, 4, none⟩) (Nat.le_succ _) _).setCell (p := ⟨w.heap.size + 1, 5, none⟩) (Nat.le_succ _) _)⟩
          · have o1 : decide (0 < ol) = false := by simpa using ho
            have o2 : decide ((0 : Int) < (ol : Int)) = false := by simp; omega
            have o3 : ¬ (0 : Int) < (ol : Int) := by omega
            have HE := hide (show Sta.step T ⟨op, un, 0, false, st, false⟩ c i = ⟨op, un1, 0, false, st, false⟩ by (have e0 : op = [] := List.eq_nil_of_length_eq_zero (by rw [← HOL.out]; omega)); simp [Sta.step, ← hkc0, e0, ← HUN.out])

            clear h7 h6 h8 h4 ho hkc0
            go_enter Tryd.func64, Tryd.ntmps64
            go_wp2_with (rw [← HW1.out]; (go_at_call 35; (with_reducible refine Calls.mono HCL.out ?_); rintro e w2 ⟨rfl, b2⟩; have HB2 := hide (HB0.out.trans (b2.mono HB0.out.size)); have HY5 := hide (HX5.out.below b2 HX5.out.lt); have HY8 := hide (HX8.out.below b2 HX8.out.lt); have k0 := HY5.out.cell 0; have k1 := HY5.out.cell 1; have k2 := HY5.out.cell 2; have k3 := HY5.out.cell 3; have k4 := HY5.out.cell 4; have k5 := HY5.out.cell 5; have f0 := HY5.out.frozen 0; have f1 := HY5.out.frozen 1; have f2 := HY5.out.frozen 2; have f3 := HY5.out.frozen 3; have f4 := HY5.out.frozen 4; have f5 := HY5.out.frozen 5; have z0 := HY8.out.cell 0; have z1 := HY8.out.cell 1; have z2 := HY8.out.cell 2; have z3 := HY8.out.cell 3; have z4 := HY8.out.cell 4; have z5 := HY8.out.cell 5; have g0 := HY8.out.frozen 0; have g1 := HY8.out.frozen 1; have g2 := HY8.out.frozen 2; have g3 := HY8.out.frozen 3; have g4 := HY8.out.frozen 4; have g5 := HY8.out.frozen 5; clear b2))
            refine bodyPost_ret (results_cell_row rfl _ _ (w.heap.size + 1) 50 #[.slice A ol k, .int .i64 un1, .int .i64 0, .bool false, .int .i64 st, .bool false] (0, 0) _ rfl (((((((HY8.out.far (p := ⟨w.heap.size, 1, none⟩) (by simp) _).set_ 0 _).set_ 1 _).set_ 2 _).set_ 3 _).set_ 4 _).set_ 5 _) Tryd.underlying50 rfl (by kernel_rfl)) rfl ?_
            exact ⟨A, k, by rw [HE.out, HOL.out]; rfl, by rw [HE.out]; show Sl _ 3 1 (.slice A op.length k) op.length (zints op); rw [← HOL.out]; exact sl_two (HS.out.only (Only.of_below (F := fun _ => False) HB2.out) fun _ _ f => f) ((((((((Only.refl (fun g => g = w.heap.size ∨ g = w.heap.size + 1) w2).setCell (p := ⟨w.heap.size, 1, none⟩) (.inl (.inl rfl)) _).setCell (p := ⟨w.heap.size + 1, 0, none⟩) (.inl (.inr rfl)) _).setCell (p := ⟨w.heap.size + 1, 1, none⟩) (.inl (.inr rfl)) _).setCell (p := ⟨w.heap.size + 1, 2, none⟩) (.inl (.inr rfl)) _).setCell (p := ⟨w.heap.size + 1, 3, none⟩) (.inl (.inr rfl)) _).setCell (p := ⟨w.heap.size + 1, 4, none⟩) (.inl (.inr rfl)) _).setCell (p := ⟨w.heap.size + 1, 5, none⟩) (.inl (.inr rfl)) _) HY5.out HY8.out, (((((((HB2.out.setCell (p := ⟨w.heap.size, 1, none⟩) (Nat.le_refl _) _).setCell (p := ⟨w.heap.size + 1, 0, none⟩) (Nat.le_succ _) _).setCell (p := ⟨w.heap.size + 1, 1, none⟩) (Nat.le_succ _) _).setCell (p := ⟨w.heap.size + 1, 2, none⟩) (Nat.le_succ _) _).setCell (p := ⟨w.heap.size + 1, 3, none⟩) (Nat.le_succ _) _).setCell (p := ⟨w.heap.size + 1, 4, none⟩) (Nat.le_succ _) _).setCell (p := ⟨w.heap.size + 1, 5, none⟩) (Nat.le_succ _) _)⟩
        have e5 : (kc == 5) = false := by simpa using h5
        have HE := hide (show Sta.step T ⟨op, un, 0, false, st, false⟩ c i = ⟨op, un, 0, false, st, false⟩ by simp [Sta.step, ← hkc0, h7, h6, h8, h4, h5])

        clear h7 h6 h8 h4 h5 hkc0
        go_enter Tryd.func64, Tryd.ntmps64
        go_wp2_with (rw [← HW1.out]; (go_at_call 35; (with_reducible refine Calls.mono HCL.out ?_); rintro e w2 ⟨rfl, b2⟩; have HB2 := hide (HB0.out.trans (b2.mono HB0.out.size)); have HY5 := hide (HX5.out.below b2 HX5.out.lt); have HY8 := hide (HX8.out.below b2 HX8.out.lt); have k0 := HY5.out.cell 0; have k1 := HY5.out.cell 1; have k2 := HY5.out.cell 2; have k3 := HY5.out.cell 3; have k4 := HY5.out.cell 4; have k5 := HY5.out.cell 5; have f0 := HY5.out.frozen 0; have f1 := HY5.out.frozen 1; have f2 := HY5.out.frozen 2; have f3 := HY5.out.frozen 3; have f4 := HY5.out.frozen 4; have f5 := HY5.out.frozen 5; have z0 := HY8.out.cell 0; have z1 := HY8.out.cell 1; have z2 := HY8.out.cell 2; have z3 := HY8.out.cell 3; have z4 := HY8.out.cell 4; have z5 := HY8.out.cell 5; have g0 := HY8.out.frozen 0; have g1 := HY8.out.frozen 1; have g2 := HY8.out.frozen 2; have g3 := HY8.out.frozen 3; have g4 := HY8.out.frozen 4; have g5 := HY8.out.frozen 5; clear b2))
        refine bodyPost_ret (results_cell_row rfl _ _ (w.heap.size + 1) 50 #[.slice A ol k, .int .i64 un, .int .i64 0, .bool false, .int .i64 st, .bool false] (0, 0) _ rfl ((((((HY8.out.set_ 0 _).set_ 1 _).set_ 2 _).set_ 3 _).set_ 4 _).set_ 5 _) Tryd.underlying50 rfl (by kernel_rfl)) rfl ?_
        exact ⟨A, k, by rw [HE.out, HOL.out]; rfl, by rw [HE.out]; show Sl _ 3 1 (.slice A op.length k) op.length (zints op); rw [← HOL.out]; exact sl_two (HS.out.only (Only.of_below (F := fun _ => False) HB2.out) fun _ _ f => f) (((((((Only.refl (fun g => g = w.heap.size ∨ g = w.heap.size + 1) w2).setCell (p := ⟨w.heap.size + 1, 0, none⟩) (.inl (.inr rfl)) _).setCell (p := ⟨w.heap.size + 1, 1, none⟩) (.inl (.inr rfl)) _).setCell (p := ⟨w.heap.size + 1, 2, none⟩) (.inl (.inr rfl)) _).setCell (p := ⟨w.heap.size + 1, 3, none⟩) (.inl (.inr rfl)) _).setCell (p := ⟨w.heap.size + 1, 4, none⟩) (.inl (.inr rfl)) _).setCell (p := ⟨w.heap.size + 1, 5, none⟩) (.inl (.inr rfl)) _) HY5.out HY8.out, ((((((HB2.out.setCell (p := ⟨w.heap.size + 1, 0, none⟩) (Nat.le_succ _) _).setCell (p := ⟨w.heap.size + 1, 1, none⟩) (Nat.le_succ _) _).setCell (p := ⟨w.heap.size + 1, 2, none⟩) (Nat.le_succ _) _).setCell (p := ⟨w.heap.size + 1, 3, none⟩) (Nat.le_succ _) _).setCell (p := ⟨w.heap.size + 1, 4, none⟩) (Nat.le_succ _) _).setCell (p := ⟨w.heap.size + 1, 5, none⟩) (Nat.le_succ _) _)⟩
    · have n0 : (inn != 0) = true := by simpa using h0
      have n1 : (inn == 0) = false := by simpa using h0
      by_cases h7 : kc = 7
      · subst h7
        have HE := hide (show Sta.step T ⟨op, un, inn, cm, st, false⟩ c i = ⟨op, un, inn, cm, st, true⟩ by simp [Sta.step, ← hkc0, h0])

        clear h0 hkc0
        go_enter Tryd.func64, Tryd.ntmps64
        go_wp2_with (rw [← HW1.out]; (go_at_call 35; (with_reducible refine Calls.mono HCL.out ?_); rintro e w2 ⟨rfl, b2⟩; have HB2 := hide (HB0.out.trans (b2.mono HB0.out.size)); have HY5 := hide (HX5.out.below b2 HX5.out.lt); have HY8 := hide (HX8.out.below b2 HX8.out.lt); have k0 := HY5.out.cell 0; have k1 := HY5.out.cell 1; have k2 := HY5.out.cell 2; have k3 := HY5.out.cell 3; have k4 := HY5.out.cell 4; have k5 := HY5.out.cell 5; have f0 := HY5.out.frozen 0; have f1 := HY5.out.frozen 1; have f2 := HY5.out.frozen 2; have f3 := HY5.out.frozen 3; have f4 := HY5.out.frozen 4; have f5 := HY5.out.frozen 5; have z0 := HY8.out.cell 0; have z1 := HY8.out.cell 1; have z2 := HY8.out.cell 2; have z3 := HY8.out.cell 3; have z4 := HY8.out.cell 4; have z5 := HY8.out.cell 5; have g0 := HY8.out.frozen 0; have g1 := HY8.out.frozen 1; have g2 := HY8.out.frozen 2; have g3 := HY8.out.frozen 3; have g4 := HY8.out.frozen 4; have g5 := HY8.out.frozen 5; clear b2))
        refine bodyPost_ret (results_cell_row rfl _ _ (w.heap.size + 1) 50 #[.slice A ol k, .int .i64 un, .int .i64 inn, .bool cm, .int .i64 st, .bool true] (0, 0) _ rfl (((((((HY8.out.far (p := ⟨w.heap.size, 5, none⟩) (by simp) _).set_ 0 _).set_ 1 _).set_ 2 _).set_ 3 _).set_ 4 _).set_ 5 _) Tryd.underlying50 rfl (by kernel_rfl)) rfl ?_
        exact ⟨A, k, by rw [HE.out, HOL.out]; rfl, by rw [HE.out]; show Sl _ 3 1 (.slice A op.length k) op.length (zints op); rw [← HOL.out]; exact sl_two (HS.out.only (Only.of_below (F := fun _ => False) HB2.out) fun _ _ f => f) ((((((((Only.refl (fun g => g = w.heap.size ∨ g = w.heap.size + 1) w2).setCell (p := ⟨w.heap.size, 5, none⟩) (.inl (.inl rfl)) _).setCell (p := ⟨w.heap.size + 1, 0, none⟩) (.inl (.inr rfl)) _).setCell (p := ⟨w.heap.size + 1, 1, none⟩) (.inl (.inr rfl)) _).setCell (p := ⟨w.heap.size + 1, 2, none⟩) (.inl (.inr rfl)) _).setCell (p := ⟨w.heap.size + 1, 3, none⟩) (.inl (.inr rfl)) _).setCell (p := ⟨w.heap.size + 1, 4, none⟩) (.inl (.inr rfl)) _).setCell (p := ⟨w.heap.size + 1, 5, none⟩) (.inl (.inr rfl)) _) HY5.out HY8.out, (((((((HB2.out.setCell (p := ⟨w.heap.size, 5, none⟩) (Nat.le_refl _) _).setCell (p := ⟨w.heap.size + 1, 0, none⟩) (Nat.le_succ _) _).setCell (p := ⟨w.heap.size + 1, 1, none⟩) (Nat.le_succ _) _).setCell (p := ⟨w.heap.size + 1, 2, none⟩) (Nat.le_succ _) _).setCell (p := ⟨w.heap.size + 1, 3, none⟩) (Nat.le_succ _) _).setCell (p := ⟨w.heap.size + 1, 4, none⟩) (Nat.le_succ _) _).setCell (p := ⟨w.heap.size + 1, 5, none⟩) (Nat.le_succ _) _)⟩
      · have e7 : (kc == 7) = false := by simpa using h7
        by_cases hc : (c : Int) = inn
        · have c1 : ((c : Int) == inn) = true := by simpa using hc
          have HE := hide (show Sta.step T ⟨op, un, inn, cm, st, false⟩ c i = ⟨op, un, 0, cm, 0, false⟩ by (have h9 : T.cl inn ≠ 7 := by rw [← hc, ← hkc0]; exact h7); simp [Sta.step, h0, hc, h9])

          clear h0 h7 hc hkc0
          go_enter Tryd.func64, Tryd.ntmps64
          go_wp2_with (rw [← HW1.out]; (go_at_call 35; (with_reducible refine Calls.mono HCL.out ?_); rintro e w2 ⟨rfl, b2⟩; have HB2 := hide (HB0.out.trans (b2.mono HB0.out.size)); have HY5 := hide (HX5.out.below b2 HX5.out.lt); have HY8 := hide (HX8.out.below b2 HX8.out.lt); have k0 := HY5.out.cell 0; have k1 := HY5.out.cell 1; have k2 := HY5.out.cell 2; have k3 := HY5.out.cell 3; have k4 := HY5.out.cell 4; have k5 := HY5.out.cell 5; have f0 := HY5.out.frozen 0; have f1 := HY5.out.frozen 1; have f2 := HY5.out.frozen 2; have f3 := HY5.out.frozen 3; have f4 := HY5.out.frozen 4; have f5 := HY5.out.frozen 5; have z0 := HY8.out.cell 0; have z1 := HY8.out.cell 1; have z2 := HY8.out.cell 2; have z3 := HY8.out.cell 3; have z4 := HY8.out.cell 4; have z5 := HY8.out.cell 5; have g0 := HY8.out.frozen 0; have g1 := HY8.out.frozen 1; have g2 := HY8.out.frozen 2; have g3 := HY8.out.frozen 3; have g4 := HY8.out.frozen 4; have g5 := HY8.out.frozen 5; clear b2))
          refine bodyPost_ret (results_cell_row rfl _ _ (w.heap.size + 1) 50 #[.slice A ol k, .int .i64 un, .int .i64 0, .bool cm, .int .i64 0, .bool false] (0, 0) _ rfl ((((((((HY8.out.far (p := ⟨w.heap.size, 2, none⟩) (by simp) _).far (p := ⟨w.heap.size, 4, none⟩) (by simp) _).set_ 0 _).set_ 1 _).set_ 2 _).set_ 3 _).set_ 4 _).set_ 5 _) Tryd.underlying50 rfl (by kernel_rfl)) rfl ?_
          exact ⟨A, k, by rw [HE.out, HOL.out]; rfl, by rw [HE.out]; show Sl _ 3 1 (.slice A op.length k) op.length (zints op); rw [← HOL.out]; exact sl_two (HS.out.only (Only.of_below (F := fun _ => False) HB2.out) fun _ _ f => f) (((((((((Only.refl (fun g => g = w.heap.size ∨ g = w.heap.size + 1) w2).setCell (p := ⟨w.heap.size, 2, none⟩) (.inl (.inl rfl)) _).setCell (p := ⟨w.heap.size, 4, none⟩) (.inl (.inl rfl)) _).setCell (p := ⟨w.heap.size + 1, 0, none⟩) (.inl (.inr rfl)) _).setCell (p := ⟨w.heap.size + 1, 1, none⟩) (.inl (.inr rfl)) _).setCell (p := ⟨w.heap.size + 1, 2, none⟩) (.inl (.inr rfl)) _).setCell (p := ⟨w.heap.size + 1, 3, none⟩) (.inl (.inr rfl)) _).setCell (p := ⟨w.heap.size + 1, 4, none⟩) (.inl (.inr rfl)) _).setCell (p := ⟨w.heap.size + 1, 5, none⟩) (.inl (.inr rfl)) _) HY5.out HY8.out, ((((((((HB2.out.setCell (p := ⟨w.heap.size, 2, none⟩) (Nat.le_refl _) _).setCell (p := ⟨w.heap.size, 4, none⟩) (Nat.le_refl _) _).setCell (p := ⟨w.heap.size + 1, 0, none⟩) (Nat.le_succ _) _).setCell (p := ⟨w.heap.size + 1, 1, none⟩) (Nat.le_succ _) _).setCell (p := ⟨w.heap.size + 1, 2, none⟩) (Nat.le_succ _) _).setCell (p := ⟨w.heap.size + 1, 3, none⟩) (Nat.le_succ _) _).setCell (p := ⟨w.heap.size + 1, 4, none⟩) (Nat.le_succ _) _).setCell (p := ⟨w.heap.size + 1, 5, none⟩) (Nat.le_succ _) _)⟩
        · have c1 : ((c : Int) == inn) = false := by simpa using hc
          have HE := hide (show Sta.step T ⟨op, un, inn, cm, st, false⟩ c i = ⟨op, un, inn, cm, st, false⟩ by simp [Sta.step, ← hkc0, h0, h7, hc])

          clear h0 h7 hc hkc0
          go_enter Tryd.func64, Tryd.ntmps64
          go_wp2_with (rw [← HW1.out]; (go_at_call 35; (with_reducible refine Calls.mono HCL.out ?_); rintro e w2 ⟨rfl, b2⟩; have HB2 := hide (HB0.out.trans (b2.mono HB0.out.size)); have HY5 := hide (HX5.out.below b2 HX5.out.lt); have HY8 := hide (HX8.out.below b2 HX8.out.lt); have k0 := HY5.out.cell 0; have k1 := HY5.out.cell 1; have k2 := HY5.out.cell 2; have k3 := HY5.out.cell 3; have k4 := HY5.out.cell 4; have k5 := HY5.out.cell 5; have f0 := HY5.out.frozen 0; have f1 := HY5.out.frozen 1; have f2 := HY5.out.frozen 2; have f3 := HY5.out.frozen 3; have f4 := HY5.out.frozen 4; have f5 := HY5.out.frozen 5; have z0 := HY8.out.cell 0; have z1 := HY8.out.cell 1; have z2 := HY8.out.cell 2; have z3 := HY8.out.cell 3; have z4 := HY8.out.cell 4; have z5 := HY8.out.cell 5; have g0 := HY8.out.frozen 0; have g1 := HY8.out.frozen 1; have g2 := HY8.out.frozen 2; have g3 := HY8.out.frozen 3; have g4 := HY8.out.frozen 4; have g5 := HY8.out.frozen 5; clear b2))
          refine bodyPost_ret (results_cell_row rfl _ _ (w.heap.size + 1) 50 #[.slice A ol k, .int .i64 un, .int .i64 inn, .bool cm, .int .i64 st, .bool false] (0, 0) _ rfl ((((((HY8.out.set_ 0 _).set_ 1 _).set_ 2 _).set_ 3 _).set_ 4 _).set_ 5 _) Tryd.underlying50 rfl (by kernel_rfl)) rfl ?_
          exact ⟨A, k, by rw [HE.out, HOL.out]; rfl, by rw [HE.out]; show Sl _ 3 1 (.slice A op.length k) op.length (zints op); rw [← HOL.out]; exact sl_two (HS.out.only (Only.of_below (F := fun _ => False) HB2.out) fun _ _ f => f) (((((((Only.refl (fun g => g = w.heap.size ∨ g = w.heap.size + 1) w2).setCell (p := ⟨w.heap.size + 1, 0, none⟩) (.inl (.inr rfl)) _).setCell (p := ⟨w.heap.size + 1, 1, none⟩) (.inl (.inr rfl)) _).setCell (p := ⟨w.heap.size + 1, 2, none⟩) (.inl (.inr rfl)) _).setCell (p := ⟨w.heap.size + 1, 3, none⟩) (.inl (.inr rfl)) _).setCell (p := ⟨w.heap.size + 1, 4, none⟩) (.inl (.inr rfl)) _).setCell (p := ⟨w.heap.size + 1, 5, none⟩) (.inl (.inr rfl)) _) HY5.out HY8.out, ((((((HB2.out.setCell (p := ⟨w.heap.size + 1, 0, none⟩) (Nat.le_succ _) _).setCell (p := ⟨w.heap.size + 1, 1, none⟩) (Nat.le_succ _) _).setCell (p := ⟨w.heap.size + 1, 2, none⟩) (Nat.le_succ _) _).setCell (p := ⟨w.heap.size + 1, 3, none⟩) (Nat.le_succ _) _).setCell (p := ⟨w.heap.size + 1, 4, none⟩) (Nat.le_succ _) _).setCell (p := ⟨w.heap.size + 1, 5, none⟩) (Nat.le_succ _) _)⟩
end
end Go.Proofs.YtdojcgefiekleaaDoor
