/- The walk of VarsLocal: it returns true and leaves everything that was there as it was. No condition. -/
import Derived.Test.YtempnakdpmmmoaaVarLr
import Derived.Test.YtempnakdpmmmoaaVarDeep
import Derived.Test.YtempnakdpmmmoaaVarConst2
namespace Go.Proofs.Ytempnakdpmmmoaa
open Go.RowKit
attribute [local go_sem] neq_cells

theorem lA_hit (a n : Int) (y : Cel) (A : Shp) : lclA ((a, [(n, y)]) :: A) a n = some y := by simp [lclA]
theorem lA_skip {a b : Int} (h : a ≠ b) (n : Int) (es : List (Int × Cel)) (A : Shp) : lclA ((a, es) :: A) b n = lclA A b n := by
  have hb : (b == a) = false := by simpa using fun e => h e.symm
  simp [lclA, List.find?_cons, hb]
theorem lA_empty (a n : Int) (A : Shp) : lclA ((a, []) :: A) a n = none := by simp [lclA]
theorem sA {a b : Int} (h : a ≠ b) (es : List (Int × Cel)) : ([(a, es)] : Shp).find? (fun x => b == x.1) = none := by
  have hb : (b == a) = false := by simpa using fun e => h e.symm
  simp [List.find?_cons, hb]
theorem lA_nil (b n : Int) : lclA [] b n = none := rfl
section
variable {W w : World} {vb : Nat} {f : Int → Cel} {k : Int} {A : Shp} {R : Heap}
theorem Lq.word (h : Lq W vb f k A R w) (x y : Int) : Lq W vb f k A ((w.heap.size, .cells 29 #[.int .i64 x, .int .i64 y]) :: R) (w.alloc (.cells #[.int .i64 x, .int .i64 y] 29)) := by
  obtain ⟨b, s, h1, h2, h3⟩ := h.at_
  exact ⟨b, s, h1, h2.box 29 #[.int .i64 x, .int .i64 y], h3⟩
theorem Lq.read (h : Lq W vb f k A R w) {g : Nat} {x y : Int} (hg : (g, Ast.cells 29 #[.int .i64 x, .int .i64 y]) ∈ R) : w.cell? ⟨g, 0, none⟩ = some (.int .i64 x) ∧ w.cell? ⟨g, 1, none⟩ = some (.int .i64 y) := by
  obtain ⟨b, s, h1, h2, h3⟩ := h.at_
  have hk := h2.own.blk (List.mem_append_right _ hg)
  exact ⟨hk.cell 0, hk.cell 1⟩
end
def Two (p : Nat) (a b : Int) (w : World) : Prop := w.cell? ⟨p, 0, none⟩ = some (.int .i64 a) ∧ w.cell? ⟨p, 1, none⟩ = some (.int .i64 b)
theorem two_kept {w w' : World} {p : Nat} {a b : Int} (hk : Blk w p 29 #[.int .i64 a, .int .i64 b]) (h : Below w.heap.size w w') (hlt : p < w.heap.size) : Two p a b w' := by
  have k := hk.below h hlt
  exact ⟨k.cell 0, k.cell 1⟩
theorem words3 {W w : World} {a b c d e f : Int} (hb : Below (((W.alloc (.cells #[.int .i64 a, .int .i64 b] 29)).alloc (.cells #[.int .i64 c, .int .i64 d] 29)).alloc (.cells #[.int .i64 e, .int .i64 f] 29)).heap.size (((W.alloc (.cells #[.int .i64 a, .int .i64 b] 29)).alloc (.cells #[.int .i64 c, .int .i64 d] 29)).alloc (.cells #[.int .i64 e, .int .i64 f] 29)) w) (w' : World) (h : Below w.heap.size w w') :
    Two W.heap.size a b w' ∧ Two (W.heap.size + 1) c d w' ∧ Two (W.heap.size + 1 + 1) e f w' := by
  have hs := hb.size
  simp only [World.size_alloc] at hs
  have k1 := ((Blk.new W 29 #[.int .i64 a, .int .i64 b]).below (((Below.refl _ _).alloc (Nat.le_refl _) (.cells #[.int .i64 c, .int .i64 d] 29)).alloc (by simp) (.cells #[.int .i64 e, .int .i64 f] 29)) (by simp)).below hb (by simp; omega)
  have k2 := ((Blk.new (W.alloc (.cells #[.int .i64 a, .int .i64 b] 29)) 29 #[.int .i64 c, .int .i64 d]).below ((Below.refl _ _).alloc (Nat.le_refl _) (.cells #[.int .i64 e, .int .i64 f] 29)) (by simp)).below hb (by simp)
  have k3 := (Blk.new ((W.alloc (.cells #[.int .i64 a, .int .i64 b] 29)).alloc (.cells #[.int .i64 c, .int .i64 d] 29)) 29 #[.int .i64 e, .int .i64 f]).below hb (by simp)
  simp only [World.size_alloc] at k2 k3
  exact ⟨two_kept k1 h (by omega), two_kept k2 h (by omega), two_kept k3 h (by omega)⟩
set_option maxRecDepth 100000 in
set_option maxHeartbeats 4000000 in
theorem local_walk (n a b xk xn yk yn zk zn : Int) (W : World) : Calls Try.prog 5 #[.int .i64 n, .int .i64 a, .int .i64 b, .agg #[.int .i64 xk, .int .i64 xn], .agg #[.int .i64 yk, .int .i64 yn], .agg #[.int .i64 zk, .int .i64 zn]] W fun e w' => e = .returned (.bool true) ∧ Below W.heap.size W w' := by
  have n1 := pickZ_ge (n := n) (k := 16382) (by decide)
  have n2 := pickZ_lt (n := n) (k := 16382) (by decide)
  have a1 := pickZ_ge (n := a) (k := 65536) (by decide)
  have a2 := pickZ_lt (n := a) (k := 65536) (by decide)
  have b1 := pickZ_ge (n := b) (k := 65536) (by decide)
  have b2 := pickZ_lt (n := b) (k := 65536) (by decide)
  have HPN := hide fun w => pick_any n 16382 w (by decide) (by decide)
  have HPA := hide fun w => pick_any a 65536 w (by decide) (by decide)
  have HPB := hide fun w => pick_any b 65536 w (by decide) (by decide)
  generalize pickZ n 16382 = z at *
  generalize pickZ a 65536 = u at *
  generalize pickZ b 65536 = v at *
  have HN := hide (show 2 ≤ 2 + z ∧ 2 + z < 16384 by omega)
  have HA := hide (show 1 ≤ 1 + u ∧ 1 + u ≤ 65536 by omega)
  have HB := hide (show 1 ≤ 1 + v ∧ 1 + v ≤ 65536 by omega)
  go_enter Try.func5, Try.ntmps5
  go_wp2_with fail
  refine (lives_any _).mono ?_
  rintro r w1 ⟨rfl, l1⟩
  have HX := hide (words3 l1)
  have HB1 := hide ((((((Below.refl _ W).alloc (Nat.le_refl _) (.cells #[.int .i64 xk, .int .i64 xn] 29)).alloc (by simp) (.cells #[.int .i64 yk, .int .i64 yn] 29))).alloc (by simp; omega) (.cells #[.int .i64 zk, .int .i64 zn] 29)).trans (l1.mono (by simp; omega)))
  clear l1
  go_wp2_with fail
  refine (HPN.out w1).mono ?_
  rintro r w2 ⟨rfl, rfl⟩
  go_wp2_with fail
  refine (HPA.out w1).mono ?_
  rintro r w2 ⟨rfl, rfl⟩
  go_wp2_with fail
  refine (HPB.out w1).mono ?_
  rintro r w2 ⟨rfl, rfl⟩
  go_wp2_with fail
  refine (sim_new w1).mono ?_
  rintro r w2 ⟨vb, rfl, h2⟩
  have H2 := hide h2.lq
  clear h2 HPN HPA HPB
  by_cases huv : u = v
  · subst huv
    have HE := hide (HB1.out.trans (H2.out.bel.mono HB1.out.size))
    clear H2 HX
    go_wp2
    go_ret
    exact ⟨rfl, HE.out⟩
  have HU := hide (show 1 + u ≠ 1 + v by omega)
  have hz : decide (1 + u = 1 + v) = false := by simp; omega
  have hz2 : decide (u = v) = false := by simp; omega
  obtain ⟨⟨x0, x1⟩, ⟨y0, y1⟩, _⟩ := HX.out _ H2.out.bel
  go_wp2_with fail
  refine (lq_default H2.out (2 + z) HN.out xk xn).mono ?_
  rintro r w3 ⟨rfl, h3⟩
  have HF := hide (put_same first2 (2 + z) ⟨xk, xn, true⟩)
  generalize put first2 (2 + z) ⟨xk, xn, true⟩ = F at *
  have H3 := hide h3
  clear h3 x0 x1 y0 y1 H2
  obtain ⟨⟨x0, x1⟩, ⟨y0, y1⟩, _⟩ := HX.out _ H3.out.bel
  go_wp2_with fail
  refine (lq_setlocal H3.out (2 + z) HN.out (1 + u) HA.out rfl yk yn).mono ?_
  rintro r w4 ⟨rfl, h4⟩
  have H4 := hide (show Lq w1 vb F 0 [(1 + u, [(2 + z, ⟨yk, yn, true⟩)])] [] w4 from h4)
  clear h4 x0 x1 y0 y1 H3
  go_wp2_with fail
  refine (lq_scope H4.out (1 + v) (by have := HB.out; omega)).mono ?_
  rintro r w5 ⟨rfl, h5⟩
  have H5 := hide h5
  clear h5 H4
  have HAZ := hide (show 1 + u ≠ 0 by have := HA.out; omega)
  have HBZ := hide (show 1 + v ≠ 0 by have := HB.out; omega)
  have HNG := hide (show 0 ≤ 2 + z ∧ 2 + z < 16384 by have := HN.out; omega)
  clear n1 n2 a1 a2 b1 b2
  go_wp2_with fail
  refine (lq_get H5.out (2 + z) HNG.out ⟨xk, xn, true⟩ (by rw [lA_skip HU.out, lA_nil]; exact HF.out)).mono ?_
  rintro r w6 ⟨rfl, h6⟩
  have H6 := hide (h6.word xk xn)
  clear h6 H5
  go_wp2_with fail
  refine (lq_make H6.out (2 + z) HN.out HBZ.out (sA HU.out _)).mono ?_
  rintro r w7 ⟨rfl, h7⟩
  have H7 := hide (show Lq w1 vb F (1 + v) [(1 + u, [(2 + z, ⟨yk, yn, true⟩)]), (1 + v, [(2 + z, F (2 + z))])] _ w7 from h7)
  clear h7 H6
  obtain ⟨_, _, ⟨z0, z1⟩⟩ := HX.out _ H7.out.bel
  go_wp2_with fail
  refine (lq_set_two H7.out HU.out HN.out zk zn).mono ?_
  rintro r w8 ⟨rfl, h8⟩
  have H8 := hide h8
  clear h8 H7 z0 z1
  go_wp2_with fail
  refine (lq_scope H8.out (1 + u) (by have := HA.out; omega)).mono ?_
  rintro r w9 ⟨rfl, h9⟩
  have H9 := hide h9
  clear h9 H8
  go_wp2_with fail
  refine (lq_get H9.out (2 + z) HNG.out ⟨yk, yn, true⟩ (by rw [lA_hit]; rfl)).mono ?_
  rintro r w10 ⟨rfl, h10⟩
  have H10 := hide (h10.word yk yn)
  clear h10 H9
  go_wp2_with fail
  refine (lq_scope H10.out 0 (by decide)).mono ?_
  rintro r w11 ⟨rfl, h11⟩
  have H11 := hide h11
  clear h11 H10
  go_wp2_with fail
  refine (lq_get H11.out (2 + z) HNG.out ⟨xk, xn, true⟩ (by rw [lA_skip HAZ.out, lA_skip HBZ.out, lA_nil]; exact HF.out)).mono ?_
  rintro r w12 ⟨rfl, h12⟩
  have H12 := hide (h12.word xk xn)
  clear h12 H11
  go_wp2_with fail
  refine (lq_local H12.out (2 + z) (1 + v) ⟨zk, zn, true⟩ (by rw [lA_skip HU.out, lA_hit])).mono ?_
  rintro r w13 ⟨rfl, h13⟩
  have H13 := hide (h13.word zk zn)
  clear h13 H12
  go_wp2_with fail
  refine (lq_scope H13.out (1 + u) (by have := HA.out; omega)).mono ?_
  rintro r w14 ⟨rfl, h14⟩
  have H14 := hide h14
  clear h14 H13
  go_wp2_with fail
  refine (lq_kill (2 + z) ⟨yk, yn, true⟩ H14.out HNG.out HAZ.out).mono ?_
  rintro r w15 ⟨rfl, h15⟩
  have H15 := hide h15
  clear h15 H14
  go_wp2_with fail
  refine (lq_get H15.out (2 + z) HNG.out ⟨xk, xn, true⟩ (by rw [lA_empty]; exact HF.out)).mono ?_
  rintro r w16 ⟨rfl, h16⟩
  have H16 := hide (h16.word xk xn)
  clear h16 H15
  go_wp2_with fail
  refine (lq_scope H16.out (1 + v) (by have := HB.out; omega)).mono ?_
  rintro r w17 ⟨rfl, h17⟩
  have H17 := hide (show Lq w1 vb F (1 + v) ([(1 + u, [])] ++ [(1 + v, [(2 + z, ⟨zk, zn, true⟩)])]) _ w17 from h17)
  clear h17 H16
  go_wp2_with fail
  refine (lq_drop H17.out (fun y hy => by simp at hy; rw [hy]; exact HU.out) HB.out).mono ?_
  rintro r w18 ⟨rfl, h18⟩
  have H18 := hide h18
  clear h18 H17
  go_wp2_with fail
  refine (lq_get H18.out (2 + z) HNG.out ⟨xk, xn, true⟩ (by rw [lA_skip HAZ.out, lA_nil]; exact HF.out)).mono ?_
  rintro r w19 ⟨rfl, h19⟩
  have H19 := hide (h19.word xk xn)
  clear h19 H18
  obtain ⟨⟨x0, x1⟩, ⟨y0, y1⟩, ⟨z0, z1⟩⟩ := HX.out _ H19.out.bel
  obtain ⟨p0, p1⟩ := H19.out.read (g := w6.heap.size) (x := xk) (y := xn) (by simp)
  obtain ⟨q0, q1⟩ := H19.out.read (g := w10.heap.size) (x := yk) (y := yn) (by simp)
  obtain ⟨r0, r1⟩ := H19.out.read (g := w12.heap.size) (x := xk) (y := xn) (by simp)
  obtain ⟨s0, s1⟩ := H19.out.read (g := w13.heap.size) (x := zk) (y := zn) (by simp)
  obtain ⟨t0, t1⟩ := H19.out.read (g := w16.heap.size) (x := xk) (y := xn) (by simp)
  obtain ⟨u0, u1⟩ := H19.out.read (g := w19.heap.size) (x := xk) (y := xn) (by simp)
  go_wp2_with fail
  refine (lq_now H19.out).mono ?_
  rintro r w21 ⟨rfl, rfl⟩
  go_wp2_with fail
  refine (lq_islocal H19.out (2 + z) (1 + v) false (by rw [lA_skip HU.out, lA_nil]; rfl)).mono ?_
  rintro r w21 ⟨rfl, rfl⟩
  go_wp2_with fail
  refine (lq_locals (1 + u) H19.out).mono ?_
  rintro r w21 ⟨rfl, h21⟩
  have HE := hide (HB1.out.trans (h21.bel.mono HB1.out.size))
  clear h21 H19 x0 x1 y0 y1 z0 z1 p0 p1 q0 q1 r0 r1 s0 s1 t0 t1 u0 u1
  go_wp2
  go_ret
  exact ⟨rfl, HE.out⟩
end Go.Proofs.Ytempnakdpmmmoaa
