/- Sexps of a table: the program's. No condition but those written. -/
import Derived.Test.YtdojcgefiekleaaDoorScf
namespace Go.Proofs.YtdojcgefiekleaaDoor
open Go.RowKit

/-- What Sexps answers of a text. -/
def sexpsR (T : Tb) (s : ByteArray) (at_ n : Int) : Ans := match charsL s.data.toList with
  | none => (0, 5, 0)
  | some L => if at_ < 0 ∨ (L.length : Int) < at_ then (0, 3, 0) else sexps T L n at_.toNat
theorem sexps_pos {T : Tb} {L : List Nat} {n : Int} {i : Nat} (hn : 0 < n) : sexps T L n i = if (fwd1 T L i).2.1 = 0 then sexps T L (n - 1) (fwd1 T L i).1 else (0, (fwd1 T L i).2) := by
  unfold sexps
  rw [if_neg (show ¬ n < 0 by omega), if_neg (show ¬ n - 1 < 0 by omega), show n.toNat = (n - 1).toNat + 1 by omega]
  rfl
theorem sexps_neg {T : Tb} {L : List Nat} {n : Int} {i : Nat} (hn : n < 0) : sexps T L n i = if (bck1 T (L.take i)).2.1 = 0 then sexps T L (n + 1) (bck1 T (L.take i)).1 else (0, (bck1 T (L.take i)).2) := by
  unfold sexps
  rw [if_pos hn, show (-n).toNat = (-(n + 1)).toNat + 1 by omega]
  by_cases h : n + 1 < 0
  · rw [if_pos h]
    rfl
  · rw [if_neg h, show (n + 1).toNat = 0 by omega, show (-(n + 1)).toNat = 0 by omega]
    rfl
/-- Within Sexps: the answer's fault, the last move's fault, the characters. -/
structure XSt (w0 w : World) (g : Nat) (v : Value) (L : List Nat) : Prop where
  bel : Below w0.heap.size w0 w
  flt : Blk w w0.heap.size 40 #[.int .i64 0, .int .i64 0]
  one : Blk w g 40 #[.int .i64 0, .int .i64 0]
  row : Sl w 3 1 v L.length (ints L)
  lt : w0.heap.size < g
section
variable {w0 w w' : World} {p : TL} {T : Tb} {v : Value} {L : List Nat} {g : Nat}
theorem XSt.below (h : XSt w0 w g v L) (hb : Below w.heap.size w w') : XSt w0 w' g v L :=
  ⟨h.bel.trans (hb.mono h.bel.size), h.flt.below hb h.flt.lt, h.one.below hb h.one.lt, h.row.only (Only.of_below (F := fun _ => False) hb) fun _ _ f => f, h.lt⟩
theorem XSt.d0 (h : XSt w0 w g v L) : w.cell? ⟨w0.heap.size, 0, none⟩ = some (.int .i64 0) := (h.flt.cell 0).trans rfl
theorem XSt.d1 (h : XSt w0 w g v L) : w.cell? ⟨w0.heap.size, 1, none⟩ = some (.int .i64 0) := (h.flt.cell 1).trans rfl
theorem XSt.e0 (h : XSt w0 w g v L) : w.frozen? ⟨w0.heap.size, 0, none⟩ = false := h.flt.frozen 0
theorem XSt.e1 (h : XSt w0 w g v L) : w.frozen? ⟨w0.heap.size, 1, none⟩ = false := h.flt.frozen 1
theorem XSt.a0 (h : XSt w0 w g v L) : w.cell? ⟨g, 0, none⟩ = some (.int .i64 0) := (h.one.cell 0).trans rfl
theorem XSt.a1 (h : XSt w0 w g v L) : w.cell? ⟨g, 1, none⟩ = some (.int .i64 0) := (h.one.cell 1).trans rfl
theorem XSt.b0 (h : XSt w0 w g v L) : w.frozen? ⟨g, 0, none⟩ = false := h.one.frozen 0
theorem XSt.b1 (h : XSt w0 w g v L) : w.frozen? ⟨g, 1, none⟩ = false := h.one.frozen 1
/-- The last move's fault is stored. -/
theorem XSt.put0 (h : XSt w0 w g v L) : XSt w0 ((w.setCell ⟨g, 0, none⟩ (.int .i64 0)).setCell ⟨g, 1, none⟩ (.int .i64 0)) g v L := by
  have hne : v.ownBlock ≠ some g := h.row.ne_blk h.one (by decide)
  have hlt := h.lt
  exact ⟨(h.bel.setCell (Nat.le_of_lt hlt) _).setCell (Nat.le_of_lt hlt) _, (h.flt.far (by simp only []; omega) _).far (by simp only []; omega) _, (h.one.set_ 0 _).set_ 1 _, (h.row.far hne _).far hne _, hlt⟩
/-- Both faults are stored. -/
theorem XSt.fin (h : XSt w0 w g v L) (x y a b : Value) : Blk ((((w.setCell ⟨g, 0, none⟩ a).setCell ⟨g, 1, none⟩ b).setCell ⟨w0.heap.size, 0, none⟩ x).setCell ⟨w0.heap.size, 1, none⟩ y) w0.heap.size 40 #[x, y] ∧
    Below w0.heap.size w0 ((((w.setCell ⟨g, 0, none⟩ a).setCell ⟨g, 1, none⟩ b).setCell ⟨w0.heap.size, 0, none⟩ x).setCell ⟨w0.heap.size, 1, none⟩ y) := by
  have hlt := h.lt
  exact ⟨(((h.flt.far (by simp only []; omega) _).far (by simp only []; omega) _).set_ 0 _).set_ 1 _, (((h.bel.setCell (Nat.le_of_lt hlt) _).setCell (Nat.le_of_lt hlt) _).setCell (Nat.le_refl _) _).setCell (Nat.le_refl _) _⟩
theorem XSt.fin1 (h : XSt w0 w g v L) (x y : Value) : Blk ((w.setCell ⟨w0.heap.size, 0, none⟩ x).setCell ⟨w0.heap.size, 1, none⟩ y) w0.heap.size 40 #[x, y] ∧
    Below w0.heap.size w0 ((w.setCell ⟨w0.heap.size, 0, none⟩ x).setCell ⟨w0.heap.size, 1, none⟩ y) :=
  ⟨(h.flt.set_ 0 _).set_ 1 _, (h.bel.setCell (Nat.le_refl _) _).setCell (Nat.le_refl _) _⟩
theorem XSt.cells (h : XSt w0 w g v L) (x y : Value) : let W := (w.setCell ⟨g, 0, none⟩ x).setCell ⟨g, 1, none⟩ y
    W.cell? ⟨g, 0, none⟩ = some x ∧ W.cell? ⟨g, 1, none⟩ = some y ∧ W.cell? ⟨w0.heap.size, 0, none⟩ = some (.int .i64 0) ∧ W.cell? ⟨w0.heap.size, 1, none⟩ = some (.int .i64 0) ∧ W.frozen? ⟨w0.heap.size, 0, none⟩ = false ∧ W.frozen? ⟨w0.heap.size, 1, none⟩ = false := by
  have hlt := h.lt
  have h1 : Blk ((w.setCell ⟨g, 0, none⟩ x).setCell ⟨g, 1, none⟩ y) g 40 #[x, y] := (h.one.set_ 0 _).set_ 1 _
  have h2 : Blk ((w.setCell ⟨g, 0, none⟩ x).setCell ⟨g, 1, none⟩ y) w0.heap.size 40 #[.int .i64 0, .int .i64 0] := (h.flt.far (by simp only []; omega) _).far (by simp only []; omega) _
  exact ⟨h1.cell 0, h1.cell 1, h2.cell 0, h2.cell 1, h2.frozen 0, h2.frozen 1⟩
theorem XSt.scan (h : XSt w0 w g v L) (ht : TabAt w0 p T) (hl : L.length ≤ 1000000000000) : Scan w p T v L := ⟨ht.below h.bel, h.row.rd, hl⟩
theorem XSt.scanTo (h : XSt w0 w g v L) (ht : TabAt w0 p T) (hl : L.length ≤ 1000000000000) {A : Option Addr} {n c i : Nat} (hv : v = .slice A n c) (hi : i ≤ L.length) : Scan w p T (.slice A i c) (L.take i) := by
  subst hv
  obtain ⟨A', c', e, _⟩ := h.row.form
  injection e with e1 e2 e3
  subst e1 e2 e3
  have h2 := (h.row.cut hi).rd
  have e : (ints L).take (i * 1) = ints (L.take i) := by simp [ints, List.map_take]
  rw [e] at h2
  refine ⟨ht.below h.bel, ?_, by rw [take_len hi]; omega⟩
  rw [take_len hi]
  exact h2
end
end Go.Proofs.YtdojcgefiekleaaDoor
