/- The scanner's move backward: its levels in memory. No condition but those written. -/
import Derived.Test.YtdojcgefiekleaaDoorScd
namespace Go.Proofs.YtdojcgefiekleaaDoor
open Go.RowKit

def lvE (x : Lvl) : List Value := [.int .i64 x.1, .int .i64 x.2.1, .int .i64 x.2.2]
theorem lvE_len (x : Lvl) : (lvE x).length = 3 := rfl
/-- The levels as the program keeps them: the top level first. -/
def lvs (S : List Lvl) (top : Int) : List Lvl := (-1, -1, top) :: S.reverse
def innL (S : List Lvl) (top : Int) : Lvl := match S with | [] => (-1, -1, top) | x :: _ => x
theorem lvs_len (S : List Lvl) (top : Int) : (lvs S top).length = S.length + 1 := by simp [lvs]
theorem lvs_last (S : List Lvl) (top : Int) : (lvs S top)[S.length]? = some (innL S top) := by
  cases S with
  | nil => rfl
  | cons x S => simp [lvs, innL]
theorem lvs_set (S : List Lvl) (top v : Int) : (lvs S top).set S.length ((innL S top).1, (innL S top).2.1, v) = lvs (laidIn S top v).1 (laidIn S top v).2 := by
  cases S with
  | nil => rfl
  | cons x S =>
    simp only [lvs, innL, laidIn, List.length_cons, List.set_cons_succ, List.reverse_cons]
    rw [List.set_append_right _ _ (by simp)]
    simp
theorem laid_len (S : List Lvl) (top v : Int) : (laidIn S top v).1.length = S.length := by cases S <;> rfl
theorem info_lvl : (Tryd.prog.info? 93).map (fun i => (i.zero, i.size, i.bytes)) = some (some (.agg #[.int .i64 0, .int .i64 0, .int .i64 0]), 3, 24) := by kernel_rfl
/-- Within a move backward: the scanner's box, the fault's, the levels. -/
structure BSt (w0 w : World) (p : TL) (v sv : Value) (S : List Lvl) (top : Int) : Prop where
  bel : Below w0.heap.size w0 w
  box : Blk w w0.heap.size 69 #[.pointer (some ⟨p.t, 0, none⟩), v]
  flt : Blk w (w0.heap.size + 1) 40 #[.int .i64 0, .int .i64 0]
  st : Sl w 93 3 sv (S.length + 1) (rows lvE (lvs S top))
  own : ∀ g, sv.ownBlock = some g → w0.heap.size + 2 ≤ g
section
variable {w0 w w' : World} {p : TL} {v sv : Value} {S : List Lvl} {top : Int}
theorem BSt.size (h : BSt w0 w p v sv S top) : w0.heap.size + 2 ≤ w.heap.size := h.flt.lt
theorem BSt.below (h : BSt w0 w p v sv S top) (hb : Below w.heap.size w w') : BSt w0 w' p v sv S top :=
  ⟨h.bel.trans (hb.mono h.bel.size), h.box.below hb h.box.lt, h.flt.below hb h.flt.lt, h.st.only (Only.of_below (F := fun _ => False) hb) fun _ _ f => f, h.own⟩
theorem BSt.drewN (h : BSt w0 w p v sv S top) (n : Nat) : BSt w0 (w.drewN n) p v sv S top := h.below (below_drewN (Below.refl _ _) n)
theorem BSt.c0 (h : BSt w0 w p v sv S top) : w.cell? ⟨w0.heap.size, 0, none⟩ = some (.pointer (some ⟨p.t, 0, none⟩)) := (h.box.cell 0).trans rfl
theorem BSt.c1 (h : BSt w0 w p v sv S top) : w.cell? ⟨w0.heap.size, 1, none⟩ = some v := (h.box.cell 1).trans rfl
theorem BSt.d0 (h : BSt w0 w p v sv S top) : w.cell? ⟨w0.heap.size + 1, 0, none⟩ = some (.int .i64 0) := (h.flt.cell 0).trans rfl
theorem BSt.d1 (h : BSt w0 w p v sv S top) : w.cell? ⟨w0.heap.size + 1, 1, none⟩ = some (.int .i64 0) := (h.flt.cell 1).trans rfl
theorem BSt.e0 (h : BSt w0 w p v sv S top) : w.frozen? ⟨w0.heap.size + 1, 0, none⟩ = false := h.flt.frozen 0
theorem BSt.e1 (h : BSt w0 w p v sv S top) : w.frozen? ⟨w0.heap.size + 1, 1, none⟩ = false := h.flt.frozen 1
theorem BSt.head (h : BSt w0 w p v sv S top) : ∃ b off c, sv = .slice (some ⟨b, off, none⟩) (S.length + 1) c ∧ S.length + 1 ≤ c := by
  obtain ⟨g, off, c, rfl, h1, _⟩ := h.st.at_ (by omega)
  exact ⟨g, off, c, rfl, h1⟩
/-- The innermost level's cells. -/
theorem BSt.hdc {b off n c : Nat} (h : BSt w0 w p v (.slice (some ⟨b, off, none⟩) n c) S top) (w' : World) (hb : Below w.heap.size w w') :
    w'.cell? ⟨b, off + S.length * 3, none⟩ = some (.int .i64 (innL S top).1) ∧ w'.cell? ⟨b, off + S.length * 3 + 1, none⟩ = some (.int .i64 (innL S top).2.1) ∧ w'.cell? ⟨b, off + S.length * 3 + 2, none⟩ = some (.int .i64 (innL S top).2.2) ∧ (∀ j, w'.frozen? ⟨b, j, none⟩ = false) := by
  have h2 := (h.below hb).st
  rw [← lvs_len S top] at h2
  obtain ⟨g', off', c', e, _, _, _, h3, h4⟩ := h2.fld lvE_len (by rw [lvs_len]; omega)
  injection e with e1 e2 e3
  injection e1 with e1
  injection e1 with e4 e5
  subst e4 e5
  exact ⟨h4 _ _ 0 _ (lvs_last S top) rfl, h4 _ _ 1 _ (lvs_last S top) rfl, h4 _ _ 2 _ (lvs_last S top) rfl, h3⟩
theorem BSt.far {b : Nat} (h : BSt w0 w p v sv S top) (hb : sv.ownBlock = some b) : w0.heap.size ≠ b ∧ w0.heap.size + 1 ≠ b ∧ w0.heap.size ≤ b := by
  have := h.own b hb
  omega
/-- The innermost level's last expression is laid. -/
theorem BSt.laid {b off n c : Nat} (h : BSt w0 w p v (.slice (some ⟨b, off, none⟩) n c) S top) (x : Int) : BSt w0 (w.setCell ⟨b, off + S.length * 3 + 2, none⟩ (.int .i64 x)) p v (.slice (some ⟨b, off, none⟩) n c) (laidIn S top x).1 (laidIn S top x).2 := by
  obtain ⟨f0, f1, f2⟩ := h.far (b := b) rfl
  have hst := h.st
  obtain ⟨A', c', e, _⟩ := hst.form
  injection e with e1 e2 e3
  subst e2
  have hl := hst.1
  refine ⟨h.bel.setCell f2 _, h.box.far f0 _, h.flt.far f1 _, ?_, h.own⟩
  have h2 := hst.set (S.length * 3 + 2) (by rw [hl]; omega) (.int .i64 x)
  rw [rows_set lvE_len ((innL S top).1, (innL S top).2.1, x) 2 (.int .i64 x) _ _ _ (lvs_last S top) (by omega) rfl, lvs_set] at h2
  rw [laid_len]
  exact h2
theorem BSt.pop {A : Option Addr} {n c : Nat} {x : Lvl} (h : BSt w0 w p v (.slice A n c) (x :: S) top) : BSt w0 w p v (.slice A (S.length + 1) c) S top := by
  obtain ⟨A', c', e, _⟩ := h.st.form
  injection e with e1 e2 e3
  subst e1 e2 e3
  refine ⟨h.bel, h.box, h.flt, ?_, fun g hg => h.own g (by cases A with
    | none => simp [Value.ownBlock] at hg
    | some a => exact hg)⟩
  have := h.st.cut (m := S.length + 1) (by simp)
  rw [rows_take lvE_len, show (lvs (x :: S) top).take (S.length + 1) = lvs S top by simp [lvs]] at this
  exact this
theorem BSt.push {sv' : Value} {x : Lvl} (h : BSt w0 w p v sv S top) (hs : Sl w' 93 3 sv' (S.length + 1 + 1) (rows lvE (lvs S top) ++ lvE x)) (ho : Only (fun b => sv.ownBlock = some b) w w') (hv : sv'.ownBlock = sv.ownBlock ∨ ∃ g, sv'.ownBlock = some g ∧ w.heap.size ≤ g) : BSt w0 w' p v sv' (x :: S) top := by
  have hsz := h.size
  refine ⟨h.bel.trans (ho.below h.bel.size fun i hi => by have := h.own i hi; omega), h.box.only ho fun e => by have := h.own _ e; omega, h.flt.only ho fun e => by have := h.own _ e; omega, ?_, fun g hg => ?_⟩
  · rw [show lvs (x :: S) top = lvs S top ++ [x] by simp [lvs], rows_append, rows_one]
    exact hs
  · rcases hv with e | ⟨k, e, hk⟩
    · exact h.own g (e ▸ hg)
    · rw [e] at hg
      injection hg with hg
      omega
/-- A wall: the levels begin anew. -/
theorem BSt.wall (h : BSt w0 w p v sv S top) : BSt w0 (w.alloc (.cells #[.int .i64 (-1), .int .i64 (-1), .int .i64 (-1)] 93)) p v (.slice (some ⟨w.heap.size, 0, none⟩) 1 1) [] (-1) := by
  have hsz := h.size
  refine ⟨h.bel.alloc h.bel.size _, h.box.alloc _, h.flt.alloc _, ?_, fun g hg => by simp [Value.ownBlock] at hg; omega⟩
  exact Sl.new w 93 3 #[.int .i64 (-1), .int .i64 (-1), .int .i64 (-1)] 1 1 (Nat.le_refl _) (by simp [maxLen]) (by simp)
theorem BSt.start (w : World) : BSt w (((w.alloc (.cells #[.pointer (some ⟨p.t, 0, none⟩), v] 69)).alloc (.cells #[.int .i64 0, .int .i64 0] 40)).alloc (.cells #[.int .i64 (-1), .int .i64 (-1), .int .i64 (-1)] 93)) p v (.slice (some ⟨w.heap.size + 2, 0, none⟩) 1 1) [] (-1) := by
  have hf := Blk.new (w.alloc (.cells #[.pointer (some ⟨p.t, 0, none⟩), v] 69)) 40 #[.int .i64 0, .int .i64 0]
  rw [World.size_alloc] at hf
  refine ⟨(((Below.refl _ w).alloc (Nat.le_refl _) _).alloc (by simp) _).alloc (by simp; omega) _, ((Blk.new w _ _).alloc _).alloc _, hf.alloc _, ?_, fun g hg => by simp [Value.ownBlock] at hg; omega⟩
  have := Sl.new ((w.alloc (.cells #[.pointer (some ⟨p.t, 0, none⟩), v] 69)).alloc (.cells #[.int .i64 0, .int .i64 0] 40)) 93 3 #[.int .i64 (-1), .int .i64 (-1), .int .i64 (-1)] 1 1 (Nat.le_refl _) (by simp [maxLen]) (by simp)
  rw [World.size_alloc, World.size_alloc] at this
  exact this
/-- The answer, out of the fault's block. -/
theorem BSt.fin (h : BSt w0 w p v sv S top) (x y : Value) : Blk ((w.setCell ⟨w0.heap.size + 1, 0, none⟩ x).setCell ⟨w0.heap.size + 1, 1, none⟩ y) (w0.heap.size + 1) 40 #[x, y] ∧ Below w0.heap.size w0 ((w.setCell ⟨w0.heap.size + 1, 0, none⟩ x).setCell ⟨w0.heap.size + 1, 1, none⟩ y) :=
  ⟨(h.flt.set_ 0 x).set_ 1 y, (h.bel.setCell (by simp) _).setCell (by simp) _⟩
end
end Go.Proofs.YtdojcgefiekleaaDoor
