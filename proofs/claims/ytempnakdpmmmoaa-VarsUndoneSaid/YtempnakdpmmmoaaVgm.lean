/- Variables: do, kind by kind. No condition but those written. -/
import Derived.Test.YtempnakdpmmmoaaVgl
namespace Go.Proofs.Ytempnakdpmmmoaa
open Go.RowKit
attribute [local go_sem] neq_cells eql_cells

/-- A call, as the law writes it down. -/
structure Vac where
  kd : Int
  n : Int
  k : Int
  wk : Int
  wn : Int
def Vac.cells (a : Vac) : List Value := [.int .i64 a.kd, .int .i64 a.n, .int .i64 a.k, .int .i64 a.wk, .int .i64 a.wn]
def Vac.c (a : Vac) : Cel := ⟨a.wk, a.wn, true⟩
/-- What do answers, and what is then there: by the kind. -/
inductive Did (v : Vw) (a : Vac) : Int → Int → Vw → Prop
  | set : Did v a 0 (v.chg a.n) (v.set a.n a.c)
  | clear : Did v a 1 (v.chg a.n) (v.set a.n Cel.zero)
  | special : Did v a 2 (chkV a.n) (v.mkV a.n false)
  | const : Did v a 3 (chkV a.n) (v.mkV a.n true)
  | bind4 (g1 g2 : Nat) : Did v a 4 (v.bndE a.n) (v.bnd a.n a.c g1 g2)
  | bind5 (g1 g2 : Nat) : Did v a 5 (v.bndE a.n) (v.bnd a.n a.c g1 g2)
  | unbind : Did v a 6 (v.unbE a.k) (v.unbV a.k)
  | scope : Did v a 7 (scpE a.k) (v.ssc a.k)
  | make : Did v a 8 (v.mklE a.n) (v.mkl a.n)
  | kill : Did v a 9 (v.kilE a.n) (v.kilV a.n)
  | setlocal : Did v a 10 (v.sloE a.n a.k) (v.slo a.n a.k a.c)
  | setdefault : Did v a 11 (v.chg a.n) (v.sdf a.n a.c)
  | drop : Did v a 12 (drpE a.k) (v.drpV a.k)
  | none : Did v a 13 0 v
/-- What do leaves. -/
def DidG (W : World) (vb : Nat) (v : Vw) (R : Heap) (a : Vac) (p : Int) (r : Ending) (w' : World) : Prop := ∃ E v', r = .returned (.int .i64 E) ∧ Did v a p E v' ∧ VZ W w' vb v' R
section
variable {W w w' : World} {vb : Nat} {v : Vw} {R : Heap}
set_option maxRecDepth 100000 in
set_option maxHeartbeats 1000000 in
theorem do_0 (h : VZ W w vb v R) (a : Vac) (hp : pickZ a.kd 14 = 0) : Calls Try.prog 30 #[.pointer (some ⟨vb, 0, none⟩), .agg #[.int .i64 a.kd, .int .i64 a.n, .int .i64 a.k, .int .i64 a.wk, .int .i64 a.wn]] w (DidG W vb v R a 0) := by
  have h1 := h.below ((Below.refl _ w).alloc (Nat.le_refl _) (.cells #[.int .i64 a.kd, .int .i64 a.n, .int .i64 a.k, .int .i64 a.wk, .int .i64 a.wn] 47))
  have HP := fun w1 => pick_any a.kd 14 w1 (by omega) (by omega)
  rw [hp] at HP
  have HP := hide HP
  have b0 := Blk.new w 47 #[.int .i64 a.kd, .int .i64 a.n, .int .i64 a.k, .int .i64 a.wk, .int .i64 a.wn]
  have k0 := b0.cell 0
  have k1 := b0.cell 1
  have k2 := b0.cell 2
  have k3 := b0.cell 3
  have k4 := b0.cell 4
  have HX := hide (VZ.set h1 a.n a.wk a.wn)
  clear h h1 hp b0
  go_enter Try.func30, Try.ntmps30
  go_wp2_with fail
  refine (Calls.mono (HP.out _)) ?_
  rintro e w2 ⟨rfl, rfl⟩
  go_wp2_with fail
  refine (Calls.mono (HX.out)) ?_
  rintro r w3 ⟨rfl, hV⟩
  have HV := hide hV
  clear hV HX HP k0 k1 k2 k3 k4
  go_wp2
  go_ret
  exact ⟨_, _, rfl, .set, HV.out⟩
set_option maxRecDepth 100000 in
set_option maxHeartbeats 1000000 in
theorem do_1 (h : VZ W w vb v R) (a : Vac) (hp : pickZ a.kd 14 = 1) : Calls Try.prog 30 #[.pointer (some ⟨vb, 0, none⟩), .agg #[.int .i64 a.kd, .int .i64 a.n, .int .i64 a.k, .int .i64 a.wk, .int .i64 a.wn]] w (DidG W vb v R a 1) := by
  have h1 := h.below ((Below.refl _ w).alloc (Nat.le_refl _) (.cells #[.int .i64 a.kd, .int .i64 a.n, .int .i64 a.k, .int .i64 a.wk, .int .i64 a.wn] 47))
  have HP := fun w1 => pick_any a.kd 14 w1 (by omega) (by omega)
  rw [hp] at HP
  have HP := hide HP
  have b0 := Blk.new w 47 #[.int .i64 a.kd, .int .i64 a.n, .int .i64 a.k, .int .i64 a.wk, .int .i64 a.wn]
  have k0 := b0.cell 0
  have k1 := b0.cell 1
  have k2 := b0.cell 2
  have k3 := b0.cell 3
  have k4 := b0.cell 4
  have HX := hide (VZ.clear h1 a.n)
  clear h h1 hp b0
  go_enter Try.func30, Try.ntmps30
  go_wp2_with fail
  refine (Calls.mono (HP.out _)) ?_
  rintro e w2 ⟨rfl, rfl⟩
  go_wp2_with fail
  refine (Calls.mono (HX.out)) ?_
  rintro r w3 ⟨rfl, hV⟩
  have HV := hide hV
  clear hV HX HP k0 k1 k2 k3 k4
  go_wp2
  go_ret
  exact ⟨_, _, rfl, .clear, HV.out⟩
set_option maxRecDepth 100000 in
set_option maxHeartbeats 1000000 in
theorem do_2 (h : VZ W w vb v R) (a : Vac) (hp : pickZ a.kd 14 = 2) : Calls Try.prog 30 #[.pointer (some ⟨vb, 0, none⟩), .agg #[.int .i64 a.kd, .int .i64 a.n, .int .i64 a.k, .int .i64 a.wk, .int .i64 a.wn]] w (DidG W vb v R a 2) := by
  have h1 := h.below ((Below.refl _ w).alloc (Nat.le_refl _) (.cells #[.int .i64 a.kd, .int .i64 a.n, .int .i64 a.k, .int .i64 a.wk, .int .i64 a.wn] 47))
  have HP := fun w1 => pick_any a.kd 14 w1 (by omega) (by omega)
  rw [hp] at HP
  have HP := hide HP
  have b0 := Blk.new w 47 #[.int .i64 a.kd, .int .i64 a.n, .int .i64 a.k, .int .i64 a.wk, .int .i64 a.wn]
  have k0 := b0.cell 0
  have k1 := b0.cell 1
  have k2 := b0.cell 2
  have k3 := b0.cell 3
  have k4 := b0.cell 4
  have HX := hide (VZ.special_ h1 a.n)
  clear h h1 hp b0
  go_enter Try.func30, Try.ntmps30
  go_wp2_with fail
  refine (Calls.mono (HP.out _)) ?_
  rintro e w2 ⟨rfl, rfl⟩
  go_wp2_with fail
  refine (Calls.mono (HX.out)) ?_
  rintro r w3 ⟨rfl, hV⟩
  have HV := hide hV
  clear hV HX HP k0 k1 k2 k3 k4
  go_wp2
  go_ret
  exact ⟨_, _, rfl, .special, HV.out⟩
set_option maxRecDepth 100000 in
set_option maxHeartbeats 1000000 in
theorem do_3 (h : VZ W w vb v R) (a : Vac) (hp : pickZ a.kd 14 = 3) : Calls Try.prog 30 #[.pointer (some ⟨vb, 0, none⟩), .agg #[.int .i64 a.kd, .int .i64 a.n, .int .i64 a.k, .int .i64 a.wk, .int .i64 a.wn]] w (DidG W vb v R a 3) := by
  have h1 := h.below ((Below.refl _ w).alloc (Nat.le_refl _) (.cells #[.int .i64 a.kd, .int .i64 a.n, .int .i64 a.k, .int .i64 a.wk, .int .i64 a.wn] 47))
  have HP := fun w1 => pick_any a.kd 14 w1 (by omega) (by omega)
  rw [hp] at HP
  have HP := hide HP
  have b0 := Blk.new w 47 #[.int .i64 a.kd, .int .i64 a.n, .int .i64 a.k, .int .i64 a.wk, .int .i64 a.wn]
  have k0 := b0.cell 0
  have k1 := b0.cell 1
  have k2 := b0.cell 2
  have k3 := b0.cell 3
  have k4 := b0.cell 4
  have HX := hide (VZ.const_ h1 a.n)
  clear h h1 hp b0
  go_enter Try.func30, Try.ntmps30
  go_wp2_with fail
  refine (Calls.mono (HP.out _)) ?_
  rintro e w2 ⟨rfl, rfl⟩
  go_wp2_with fail
  refine (Calls.mono (HX.out)) ?_
  rintro r w3 ⟨rfl, hV⟩
  have HV := hide hV
  clear hV HX HP k0 k1 k2 k3 k4
  go_wp2
  go_ret
  exact ⟨_, _, rfl, .const, HV.out⟩
set_option maxRecDepth 100000 in
set_option maxHeartbeats 1000000 in
theorem do_4 (h : VZ W w vb v R) (a : Vac) (hp : pickZ a.kd 14 = 4) : Calls Try.prog 30 #[.pointer (some ⟨vb, 0, none⟩), .agg #[.int .i64 a.kd, .int .i64 a.n, .int .i64 a.k, .int .i64 a.wk, .int .i64 a.wn]] w (DidG W vb v R a 4) := by
  have h1 := h.below ((Below.refl _ w).alloc (Nat.le_refl _) (.cells #[.int .i64 a.kd, .int .i64 a.n, .int .i64 a.k, .int .i64 a.wk, .int .i64 a.wn] 47))
  have HP := fun w1 => pick_any a.kd 14 w1 (by omega) (by omega)
  rw [hp] at HP
  have HP := hide HP
  have b0 := Blk.new w 47 #[.int .i64 a.kd, .int .i64 a.n, .int .i64 a.k, .int .i64 a.wk, .int .i64 a.wn]
  have k0 := b0.cell 0
  have k1 := b0.cell 1
  have k2 := b0.cell 2
  have k3 := b0.cell 3
  have k4 := b0.cell 4
  have HX := hide (VZ.bind h1 a.n a.wk a.wn)
  clear h h1 hp b0
  go_enter Try.func30, Try.ntmps30
  go_wp2_with fail
  refine (Calls.mono (HP.out _)) ?_
  rintro e w2 ⟨rfl, rfl⟩
  go_wp2_with fail
  refine (Calls.mono (HX.out)) ?_
  rintro r w3 ⟨rfl, g1, g2, hV⟩
  have HV := hide hV
  clear hV HX HP k0 k1 k2 k3 k4
  go_wp2
  go_ret
  exact ⟨_, _, rfl, .bind4 g1 g2, HV.out⟩
set_option maxRecDepth 100000 in
set_option maxHeartbeats 1000000 in
theorem do_5 (h : VZ W w vb v R) (a : Vac) (hp : pickZ a.kd 14 = 5) : Calls Try.prog 30 #[.pointer (some ⟨vb, 0, none⟩), .agg #[.int .i64 a.kd, .int .i64 a.n, .int .i64 a.k, .int .i64 a.wk, .int .i64 a.wn]] w (DidG W vb v R a 5) := by
  have h1 := h.below ((Below.refl _ w).alloc (Nat.le_refl _) (.cells #[.int .i64 a.kd, .int .i64 a.n, .int .i64 a.k, .int .i64 a.wk, .int .i64 a.wn] 47))
  have HP := fun w1 => pick_any a.kd 14 w1 (by omega) (by omega)
  rw [hp] at HP
  have HP := hide HP
  have b0 := Blk.new w 47 #[.int .i64 a.kd, .int .i64 a.n, .int .i64 a.k, .int .i64 a.wk, .int .i64 a.wn]
  have k0 := b0.cell 0
  have k1 := b0.cell 1
  have k2 := b0.cell 2
  have k3 := b0.cell 3
  have k4 := b0.cell 4
  have HX := hide (VZ.bind h1 a.n a.wk a.wn)
  clear h h1 hp b0
  go_enter Try.func30, Try.ntmps30
  go_wp2_with fail
  refine (Calls.mono (HP.out _)) ?_
  rintro e w2 ⟨rfl, rfl⟩
  go_wp2_with fail
  refine (Calls.mono (HX.out)) ?_
  rintro r w3 ⟨rfl, g1, g2, hV⟩
  have HV := hide hV
  clear hV HX HP k0 k1 k2 k3 k4
  go_wp2
  go_ret
  exact ⟨_, _, rfl, .bind5 g1 g2, HV.out⟩
set_option maxRecDepth 100000 in
set_option maxHeartbeats 1000000 in
theorem do_6 (h : VZ W w vb v R) (a : Vac) (hp : pickZ a.kd 14 = 6) : Calls Try.prog 30 #[.pointer (some ⟨vb, 0, none⟩), .agg #[.int .i64 a.kd, .int .i64 a.n, .int .i64 a.k, .int .i64 a.wk, .int .i64 a.wn]] w (DidG W vb v R a 6) := by
  have h1 := h.below ((Below.refl _ w).alloc (Nat.le_refl _) (.cells #[.int .i64 a.kd, .int .i64 a.n, .int .i64 a.k, .int .i64 a.wk, .int .i64 a.wn] 47))
  have HP := fun w1 => pick_any a.kd 14 w1 (by omega) (by omega)
  rw [hp] at HP
  have HP := hide HP
  have b0 := Blk.new w 47 #[.int .i64 a.kd, .int .i64 a.n, .int .i64 a.k, .int .i64 a.wk, .int .i64 a.wn]
  have k0 := b0.cell 0
  have k1 := b0.cell 1
  have k2 := b0.cell 2
  have k3 := b0.cell 3
  have k4 := b0.cell 4
  have HX := hide (VZ.unbind h1 a.k)
  clear h h1 hp b0
  go_enter Try.func30, Try.ntmps30
  go_wp2_with fail
  refine (Calls.mono (HP.out _)) ?_
  rintro e w2 ⟨rfl, rfl⟩
  go_wp2_with fail
  refine (Calls.mono (HX.out)) ?_
  rintro r w3 ⟨rfl, hV⟩
  have HV := hide hV
  clear hV HX HP k0 k1 k2 k3 k4
  go_wp2
  go_ret
  exact ⟨_, _, rfl, .unbind, HV.out⟩
set_option maxRecDepth 100000 in
set_option maxHeartbeats 1000000 in
theorem do_7 (h : VZ W w vb v R) (a : Vac) (hp : pickZ a.kd 14 = 7) : Calls Try.prog 30 #[.pointer (some ⟨vb, 0, none⟩), .agg #[.int .i64 a.kd, .int .i64 a.n, .int .i64 a.k, .int .i64 a.wk, .int .i64 a.wn]] w (DidG W vb v R a 7) := by
  have h1 := h.below ((Below.refl _ w).alloc (Nat.le_refl _) (.cells #[.int .i64 a.kd, .int .i64 a.n, .int .i64 a.k, .int .i64 a.wk, .int .i64 a.wn] 47))
  have HP := fun w1 => pick_any a.kd 14 w1 (by omega) (by omega)
  rw [hp] at HP
  have HP := hide HP
  have b0 := Blk.new w 47 #[.int .i64 a.kd, .int .i64 a.n, .int .i64 a.k, .int .i64 a.wk, .int .i64 a.wn]
  have k0 := b0.cell 0
  have k1 := b0.cell 1
  have k2 := b0.cell 2
  have k3 := b0.cell 3
  have k4 := b0.cell 4
  have HX := hide (VZ.setscope h1 a.k)
  clear h h1 hp b0
  go_enter Try.func30, Try.ntmps30
  go_wp2_with fail
  refine (Calls.mono (HP.out _)) ?_
  rintro e w2 ⟨rfl, rfl⟩
  go_wp2_with fail
  refine (Calls.mono (HX.out)) ?_
  rintro r w3 ⟨rfl, hV⟩
  have HV := hide hV
  clear hV HX HP k0 k1 k2 k3 k4
  go_wp2
  go_ret
  exact ⟨_, _, rfl, .scope, HV.out⟩
set_option maxRecDepth 100000 in
set_option maxHeartbeats 1000000 in
theorem do_8 (h : VZ W w vb v R) (a : Vac) (hp : pickZ a.kd 14 = 8) : Calls Try.prog 30 #[.pointer (some ⟨vb, 0, none⟩), .agg #[.int .i64 a.kd, .int .i64 a.n, .int .i64 a.k, .int .i64 a.wk, .int .i64 a.wn]] w (DidG W vb v R a 8) := by
  have h1 := h.below ((Below.refl _ w).alloc (Nat.le_refl _) (.cells #[.int .i64 a.kd, .int .i64 a.n, .int .i64 a.k, .int .i64 a.wk, .int .i64 a.wn] 47))
  have HP := fun w1 => pick_any a.kd 14 w1 (by omega) (by omega)
  rw [hp] at HP
  have HP := hide HP
  have b0 := Blk.new w 47 #[.int .i64 a.kd, .int .i64 a.n, .int .i64 a.k, .int .i64 a.wk, .int .i64 a.wn]
  have k0 := b0.cell 0
  have k1 := b0.cell 1
  have k2 := b0.cell 2
  have k3 := b0.cell 3
  have k4 := b0.cell 4
  have HX := hide (VZ.make h1 a.n)
  clear h h1 hp b0
  go_enter Try.func30, Try.ntmps30
  go_wp2_with fail
  refine (Calls.mono (HP.out _)) ?_
  rintro e w2 ⟨rfl, rfl⟩
  go_wp2_with fail
  refine (Calls.mono (HX.out)) ?_
  rintro r w3 ⟨rfl, hV⟩
  have HV := hide hV
  clear hV HX HP k0 k1 k2 k3 k4
  go_wp2
  go_ret
  exact ⟨_, _, rfl, .make, HV.out⟩
set_option maxRecDepth 100000 in
set_option maxHeartbeats 1000000 in
theorem do_9 (h : VZ W w vb v R) (a : Vac) (hp : pickZ a.kd 14 = 9) : Calls Try.prog 30 #[.pointer (some ⟨vb, 0, none⟩), .agg #[.int .i64 a.kd, .int .i64 a.n, .int .i64 a.k, .int .i64 a.wk, .int .i64 a.wn]] w (DidG W vb v R a 9) := by
  have h1 := h.below ((Below.refl _ w).alloc (Nat.le_refl _) (.cells #[.int .i64 a.kd, .int .i64 a.n, .int .i64 a.k, .int .i64 a.wk, .int .i64 a.wn] 47))
  have HP := fun w1 => pick_any a.kd 14 w1 (by omega) (by omega)
  rw [hp] at HP
  have HP := hide HP
  have b0 := Blk.new w 47 #[.int .i64 a.kd, .int .i64 a.n, .int .i64 a.k, .int .i64 a.wk, .int .i64 a.wn]
  have k0 := b0.cell 0
  have k1 := b0.cell 1
  have k2 := b0.cell 2
  have k3 := b0.cell 3
  have k4 := b0.cell 4
  have HX := hide (VZ.kill h1 a.n)
  clear h h1 hp b0
  go_enter Try.func30, Try.ntmps30
  go_wp2_with fail
  refine (Calls.mono (HP.out _)) ?_
  rintro e w2 ⟨rfl, rfl⟩
  go_wp2_with fail
  refine (Calls.mono (HX.out)) ?_
  rintro r w3 ⟨rfl, hV⟩
  have HV := hide hV
  clear hV HX HP k0 k1 k2 k3 k4
  go_wp2
  go_ret
  exact ⟨_, _, rfl, .kill, HV.out⟩
set_option maxRecDepth 100000 in
set_option maxHeartbeats 1000000 in
theorem do_10 (h : VZ W w vb v R) (a : Vac) (hp : pickZ a.kd 14 = 10) : Calls Try.prog 30 #[.pointer (some ⟨vb, 0, none⟩), .agg #[.int .i64 a.kd, .int .i64 a.n, .int .i64 a.k, .int .i64 a.wk, .int .i64 a.wn]] w (DidG W vb v R a 10) := by
  have h1 := h.below ((Below.refl _ w).alloc (Nat.le_refl _) (.cells #[.int .i64 a.kd, .int .i64 a.n, .int .i64 a.k, .int .i64 a.wk, .int .i64 a.wn] 47))
  have HP := fun w1 => pick_any a.kd 14 w1 (by omega) (by omega)
  rw [hp] at HP
  have HP := hide HP
  have b0 := Blk.new w 47 #[.int .i64 a.kd, .int .i64 a.n, .int .i64 a.k, .int .i64 a.wk, .int .i64 a.wn]
  have k0 := b0.cell 0
  have k1 := b0.cell 1
  have k2 := b0.cell 2
  have k3 := b0.cell 3
  have k4 := b0.cell 4
  have HX := hide (VZ.setlocal h1 a.n a.k a.wk a.wn)
  clear h h1 hp b0
  go_enter Try.func30, Try.ntmps30
  go_wp2_with fail
  refine (Calls.mono (HP.out _)) ?_
  rintro e w2 ⟨rfl, rfl⟩
  go_wp2_with fail
  refine (Calls.mono (HX.out)) ?_
  rintro r w3 ⟨rfl, hV⟩
  have HV := hide hV
  clear hV HX HP k0 k1 k2 k3 k4
  go_wp2
  go_ret
  exact ⟨_, _, rfl, .setlocal, HV.out⟩
set_option maxRecDepth 100000 in
set_option maxHeartbeats 1000000 in
theorem do_11 (h : VZ W w vb v R) (a : Vac) (hp : pickZ a.kd 14 = 11) : Calls Try.prog 30 #[.pointer (some ⟨vb, 0, none⟩), .agg #[.int .i64 a.kd, .int .i64 a.n, .int .i64 a.k, .int .i64 a.wk, .int .i64 a.wn]] w (DidG W vb v R a 11) := by
  have h1 := h.below ((Below.refl _ w).alloc (Nat.le_refl _) (.cells #[.int .i64 a.kd, .int .i64 a.n, .int .i64 a.k, .int .i64 a.wk, .int .i64 a.wn] 47))
  have HP := fun w1 => pick_any a.kd 14 w1 (by omega) (by omega)
  rw [hp] at HP
  have HP := hide HP
  have b0 := Blk.new w 47 #[.int .i64 a.kd, .int .i64 a.n, .int .i64 a.k, .int .i64 a.wk, .int .i64 a.wn]
  have k0 := b0.cell 0
  have k1 := b0.cell 1
  have k2 := b0.cell 2
  have k3 := b0.cell 3
  have k4 := b0.cell 4
  have HX := hide (VZ.setdefault h1 a.n a.wk a.wn)
  clear h h1 hp b0
  go_enter Try.func30, Try.ntmps30
  go_wp2_with fail
  refine (Calls.mono (HP.out _)) ?_
  rintro e w2 ⟨rfl, rfl⟩
  go_wp2_with fail
  refine (Calls.mono (HX.out)) ?_
  rintro r w3 ⟨rfl, hV⟩
  have HV := hide hV
  clear hV HX HP k0 k1 k2 k3 k4
  go_wp2
  go_ret
  exact ⟨_, _, rfl, .setdefault, HV.out⟩
set_option maxRecDepth 100000 in
set_option maxHeartbeats 1000000 in
theorem do_12 (h : VZ W w vb v R) (a : Vac) (hp : pickZ a.kd 14 = 12) : Calls Try.prog 30 #[.pointer (some ⟨vb, 0, none⟩), .agg #[.int .i64 a.kd, .int .i64 a.n, .int .i64 a.k, .int .i64 a.wk, .int .i64 a.wn]] w (DidG W vb v R a 12) := by
  have h1 := h.below ((Below.refl _ w).alloc (Nat.le_refl _) (.cells #[.int .i64 a.kd, .int .i64 a.n, .int .i64 a.k, .int .i64 a.wk, .int .i64 a.wn] 47))
  have HP := fun w1 => pick_any a.kd 14 w1 (by omega) (by omega)
  rw [hp] at HP
  have HP := hide HP
  have b0 := Blk.new w 47 #[.int .i64 a.kd, .int .i64 a.n, .int .i64 a.k, .int .i64 a.wk, .int .i64 a.wn]
  have k0 := b0.cell 0
  have k1 := b0.cell 1
  have k2 := b0.cell 2
  have k3 := b0.cell 3
  have k4 := b0.cell 4
  have HX := hide (VZ.drop h1 a.k)
  clear h h1 hp b0
  go_enter Try.func30, Try.ntmps30
  go_wp2_with fail
  refine (Calls.mono (HP.out _)) ?_
  rintro e w2 ⟨rfl, rfl⟩
  go_wp2_with fail
  refine (Calls.mono (HX.out)) ?_
  rintro r w3 ⟨rfl, hV⟩
  have HV := hide hV
  clear hV HX HP k0 k1 k2 k3 k4
  go_wp2
  go_ret
  exact ⟨_, _, rfl, .drop, HV.out⟩
set_option maxRecDepth 100000 in
set_option maxHeartbeats 1000000 in
theorem do_13 (h : VZ W w vb v R) (a : Vac) (hp : pickZ a.kd 14 = 13) : Calls Try.prog 30 #[.pointer (some ⟨vb, 0, none⟩), .agg #[.int .i64 a.kd, .int .i64 a.n, .int .i64 a.k, .int .i64 a.wk, .int .i64 a.wn]] w (DidG W vb v R a 13) := by
  have h1 := h.below ((Below.refl _ w).alloc (Nat.le_refl _) (.cells #[.int .i64 a.kd, .int .i64 a.n, .int .i64 a.k, .int .i64 a.wk, .int .i64 a.wn] 47))
  have HP := fun w1 => pick_any a.kd 14 w1 (by omega) (by omega)
  rw [hp] at HP
  have HP := hide HP
  have b0 := Blk.new w 47 #[.int .i64 a.kd, .int .i64 a.n, .int .i64 a.k, .int .i64 a.wk, .int .i64 a.wn]
  have k0 := b0.cell 0
  have k1 := b0.cell 1
  have k2 := b0.cell 2
  have k3 := b0.cell 3
  have k4 := b0.cell 4
  have HV := hide h1
  clear h h1 hp b0
  go_enter Try.func30, Try.ntmps30
  go_wp2_with fail
  refine (Calls.mono (HP.out _)) ?_
  rintro e w2 ⟨rfl, rfl⟩
  go_wp2
  go_ret
  exact ⟨_, _, rfl, .none, HV.out⟩
theorem do_any (h : VZ W w vb v R) (a : Vac) : Calls Try.prog 30 #[.pointer (some ⟨vb, 0, none⟩), .agg #[.int .i64 a.kd, .int .i64 a.n, .int .i64 a.k, .int .i64 a.wk, .int .i64 a.wn]] w (DidG W vb v R a (pickZ a.kd 14)) := by
  have h1 := pickZ_ge (n := a.kd) (k := 14) (by omega)
  have h2 := pickZ_lt (n := a.kd) (k := 14) (by omega)
  obtain ⟨p, hp⟩ : ∃ p, pickZ a.kd 14 = p := ⟨_, rfl⟩
  rw [hp] at h1 h2 ⊢
  obtain rfl | rfl | rfl | rfl | rfl | rfl | rfl | rfl | rfl | rfl | rfl | rfl | rfl | rfl : p = 0 ∨ p = 1 ∨ p = 2 ∨ p = 3 ∨ p = 4 ∨ p = 5 ∨ p = 6 ∨ p = 7 ∨ p = 8 ∨ p = 9 ∨ p = 10 ∨ p = 11 ∨ p = 12 ∨ p = 13 := by omega
  · exact do_0 h a hp
  · exact do_1 h a hp
  · exact do_2 h a hp
  · exact do_3 h a hp
  · exact do_4 h a hp
  · exact do_5 h a hp
  · exact do_6 h a hp
  · exact do_7 h a hp
  · exact do_8 h a hp
  · exact do_9 h a hp
  · exact do_10 h a hp
  · exact do_11 h a hp
  · exact do_12 h a hp
  · exact do_13 h a hp
end
end Go.Proofs.Ytempnakdpmmmoaa
