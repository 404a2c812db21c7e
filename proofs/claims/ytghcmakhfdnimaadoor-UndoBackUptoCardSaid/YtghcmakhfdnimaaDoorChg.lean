/- Changes: their cells; slices.Clone, slices.Reverse, Same at them. No condition but those written. -/
import Derived.Test.YtghcmakhfdnimaaDoorOwn
import Derived.Test.YtghcmakhfdnimaaDoorChecked
import Derived.RegionTactic
import Derived.BigRegion
import Derived.ChangeAlike
import Derived.BigQuiet
import Derived.Deep.QuietTactic
import Derived.Laws.StructEq
import Derived.IntWalk
namespace Go.Proofs.YtghcmakhfdnimaaDoor
open Go.RowKit

structure Chg where
  k : Int
  a : Int
  t : Int
  id : Int
  nm : Int
  tx : ByteArray
  vk : Int
  vn : Int
  had : Bool
def Chg.cells (c : Chg) : List Value := [.int .i64 c.k, .int .i64 c.a, .int .i64 c.t, .int .i64 c.id, .int .i64 c.nm, .string c.tx, .int .i64 c.vk, .int .i64 c.vn, .bool c.had]
theorem chg_len (c : Chg) : c.cells.length = 9 := rfl
theorem chg_one (c : Chg) : ∀ u ∈ c.cells, u.oneCell' = true := by
  intro u hu
  simp [Chg.cells] at hu
  rcases hu with rfl | rfl | rfl | rfl | rfl | rfl | rfl | rfl | rfl <;> rfl
abbrev Chg.val (c : Chg) : Value := .agg #[.int .i64 c.k, .int .i64 c.a, .int .i64 c.t, .int .i64 c.id, .int .i64 c.nm, .string c.tx, .int .i64 c.vk, .int .i64 c.vn, .bool c.had]
theorem Chg.ext' {c d : Chg} (h1 : c.k = d.k) (h2 : c.a = d.a) (h3 : c.t = d.t) (h4 : c.id = d.id) (h5 : c.nm = d.nm) (h6 : c.tx = d.tx) (h7 : c.vk = d.vk) (h8 : c.vn = d.vn) (h9 : c.had = d.had) : c = d := by
  cases c; cases d; simp_all
/-- Are two changes the same? -/
def Chg.eqB (c d : Chg) : Bool := c.k == d.k && (c.a == d.a && (c.t == d.t && (c.id == d.id && (c.nm == d.nm && (c.tx.toList == d.tx.toList && (c.vk == d.vk && (c.vn == d.vn && (c.had == d.had))))))))
theorem Chg.eqB_iff (c d : Chg) : c.eqB d = true ↔ c = d := by
  have hs : ∀ a b : ByteArray, (a.toList == b.toList) = true ↔ a = b := fun a b => by rw [← beq_toListBytes]; exact MapKept.bytes_beq a b
  constructor
  · intro h
    simp only [Chg.eqB, Bool.and_eq_true, beq_iff_eq] at h
    obtain ⟨h1, h2, h3, h4, h5, h6, h7, h8, h9⟩ := h
    exact Chg.ext' h1 h2 h3 h4 h5 ((hs _ _).1 (by simpa using h6)) h7 h8 h9
  · rintro rfl
    simp [Chg.eqB]
/-- The fields of a change in a world. -/
structure AtC (w : World) (g o : Nat) (c : Chg) : Prop where
  p0 : w.cell? ⟨g, o, none⟩ = some (.int .i64 c.k)
  p1 : w.cell? ⟨g, o + 1, none⟩ = some (.int .i64 c.a)
  p2 : w.cell? ⟨g, o + 2, none⟩ = some (.int .i64 c.t)
  p3 : w.cell? ⟨g, o + 3, none⟩ = some (.int .i64 c.id)
  p4 : w.cell? ⟨g, o + 4, none⟩ = some (.int .i64 c.nm)
  p5 : w.cell? ⟨g, o + 5, none⟩ = some (.string c.tx)
  p6 : w.cell? ⟨g, o + 6, none⟩ = some (.int .i64 c.vk)
  p7 : w.cell? ⟨g, o + 7, none⟩ = some (.int .i64 c.vn)
  p8 : w.cell? ⟨g, o + 8, none⟩ = some (.bool c.had)

theorem info_chg : (Tryd.prog.info? 51).map (fun i => (i.zero, i.size, i.bytes)) = some (some (.agg #[.int .i64 0, .int .i64 0, .int .i64 0, .int .i64 0, .int .i64 0, .string ⟨#[]⟩, .int .i64 0, .int .i64 0, .bool false]), 9, 80) := by kernel_rfl
theorem info_chgs : (Tryd.prog.info? 40).map (fun i => (i.zero, i.size, i.bytes)) = some (some (.slice none 0 0), 1, 24) := by kernel_rfl
theorem neq_chg (w : World) (c d : Chg) : (binOp .neq 51 c.val d.val).run Tryd.prog w = .ok (.bool (!(c.eqB d))) w := by
  go_simp
  unfold Chg.eqB
  repeat' split
  all_goals simp_all

section
variable {w : World}
theorem eql_chgs (w : World) (a : Option Addr) (n c : Nat) : (binOp .eql 40 (.slice a n c) (.slice none 0 0)).run Tryd.prog w = .ok (.bool a.isNone) w := Lib.run_eql_slice_nil w _ _ a n c 0 0 Tryd.underlying40
attribute [local go_sem] eql_chgs
/-- A slice of the call's own is handed back. -/
def FreshC (w : World) (l : List Chg) (e : Ending) (w' : World) : Prop := ∃ v, e = .returned v ∧ Sl w' 51 9 v l.length (rows Chg.cells l) ∧ (∀ g, v.ownBlock = some g → w.heap.size ≤ g) ∧ Below w.heap.size w w'
set_option maxRecDepth 100000 in
set_option maxHeartbeats 2000000 in
theorem clone_some (a : Addr) (c : Nat) (l : List Chg) (w : World) (h : Rd w (.slice (some a) l.length c) 9 l.length (rows Chg.cells l)) (hN : l.length ≤ 1000000) :
    Calls Tryd.prog 48 #[.slice (some a) l.length c] w (FreshC w l) := by
  obtain ⟨i0, hi, hz0, hz1, hz2⟩ := info_parts info_chg
  have he := Sl.new w 51 9 #[] 0 0 (Nat.le_refl _) (by simp [maxLen]) (by simp)
  have he2 : Sl (w.alloc (.cells #[] 51)) 51 9 (.slice (some ⟨w.heap.size, 0, none⟩) 0 0) 0 [] := by simpa using he
  have hB : Below w.heap.size w (w.alloc (.cells #[] 51)) := (Below.refl _ _).alloc (Nat.le_refl _) _
  have hr : Rd (w.alloc (.cells #[] 51)) (.slice (some a) l.length c) 9 l.length (rows Chg.cells l) := h.only (Only.of_below hB) fun _ _ f => f
  go_enter Tryd.func48, Tryd.ntmps48
  go_wp2_with (at_builtin; go_loud (refine wpList_append_sl rfl (.tmp 5) (.tmp 6) 40 rfl 51 i0 _ 9 80 Tryd.underlying40 hi hz0 hz1 hz2 rfl _ 0 [] rfl he2 _ rfl l.length (rows Chg.cells l) hr (rows_cells fun x _ => chg_one x) ?b1 ?b2 ?_))
  case b1 => unfold maxLen; omega
  case b2 => omega
  intro v' w' hsl honly hv'
  have HB := hide (hB.trans (honly.below (B := w.heap.size) (by simp) fun i hi => by simp [Value.ownBlock] at hi; omega))
  have HS := hide (show Sl w' 51 9 v' l.length (rows Chg.cells l) by simpa using hsl)
  have HG := hide (show ∀ g, v'.ownBlock = some g → w.heap.size ≤ g from fun g hg => by
    rcases hv' with e | e <;> rw [e] at hg <;> simp [Value.ownBlock] at hg <;> omega)
  clear hsl honly hv' hB he h
  go_wp2
  go_ret
  exact ⟨_, rfl, HS.out, HG.out, HB.out⟩
set_option maxRecDepth 100000 in
theorem clone_none (c : Nat) (w : World) : Calls Tryd.prog 48 #[.slice none 0 c] w (FreshC w []) := by
  have HF := hide (show FreshC w [] (.returned (.slice none 0 0)) w from ⟨_, rfl, Sl.nil _ _ _, fun g hg => by simp [Value.ownBlock] at hg, Below.refl _ _⟩)
  go_enter Tryd.func48, Tryd.ntmps48
  go_wp2
  go_ret
  exact HF.out
theorem clone_any (v : Value) (l : List Chg) (w : World) (h : Rd w v 9 l.length (rows Chg.cells l)) (hN : l.length ≤ 1000000) :
    Calls Tryd.prog 48 #[v] w (FreshC w l) := by
  obtain ⟨A, c, rfl, hl, hr⟩ := id h
  cases A with
  | some a => exact clone_some a c l w h hN
  | none =>
    have : l.length = 0 := by
      rcases Nat.eq_zero_or_pos l.length with h0 | h0
      · exact h0
      · obtain ⟨b, off, hA, _⟩ := hr h0
        cases hA
    have := List.eq_nil_of_length_eq_zero this
    subst this
    exact clone_none c w

/-- All cells of an element are written. -/
theorem Sl.putC {w : World} {g off c i : Nat} {L : List Chg} (h : Sl w 51 9 (.slice (some ⟨g, off, none⟩) L.length c) L.length (rows Chg.cells L)) (hi : i < L.length) (y : Chg) :
    Sl (((((((((w.setCell ⟨g, off + i * 9, none⟩ (.int .i64 y.k)).setCell ⟨g, off + i * 9 + 1, none⟩ (.int .i64 y.a)).setCell ⟨g, off + i * 9 + 2, none⟩ (.int .i64 y.t)).setCell ⟨g, off + i * 9 + 3, none⟩ (.int .i64 y.id)).setCell ⟨g, off + i * 9 + 4, none⟩ (.int .i64 y.nm)).setCell ⟨g, off + i * 9 + 5, none⟩ (.string y.tx)).setCell ⟨g, off + i * 9 + 6, none⟩ (.int .i64 y.vk)).setCell ⟨g, off + i * 9 + 7, none⟩ (.int .i64 y.vn)).setCell ⟨g, off + i * 9 + 8, none⟩ (.bool y.had))
      51 9 (.slice (some ⟨g, off, none⟩) L.length c) L.length (rows Chg.cells (L.set i y)) := by
  have hlen : ∀ M : List Chg, M.length = L.length → (rows Chg.cells M).length = L.length * 9 := fun M hM => by rw [rows_len chg_len, hM]
  obtain ⟨x, hx⟩ : ∃ x, L[i]? = some x := ⟨_, List.getElem?_eq_getElem hi⟩
  have step : ∀ {w : World} {M : List Chg} {x y : Chg} {j : Nat} {u : Value}, M.length = L.length → M[i]? = some x → j < 9 → x.cells.set j u = y.cells → Sl w 51 9 (.slice (some ⟨g, off, none⟩) L.length c) L.length (rows Chg.cells M) →
      Sl (w.setCell ⟨g, off + (i * 9 + j), none⟩ u) 51 9 (.slice (some ⟨g, off, none⟩) L.length c) L.length (rows Chg.cells (M.set i y)) := fun {w M x y j u} hM hx hj he hs => by
    have := hs.set (i * 9 + j) (by rw [hlen M hM]; omega) u
    rwa [rows_set chg_len y j u M i x hx hj he] at this
  have at_ : ∀ (z : Chg), (L.set i z)[i]? = some z := fun z => by rw [List.getElem?_set_self]; simpa using hi
  simp only [Nat.add_assoc]
  have h0 := step (j := 0) (u := .int .i64 y.k) (y := { x with k := y.k }) rfl hx (by omega) rfl h
  have nx : ∀ {w : World} {x z : Chg} {j : Nat} {u : Value}, Sl w 51 9 (.slice (some ⟨g, off, none⟩) L.length c) L.length (rows Chg.cells (L.set i x)) → j < 9 → x.cells.set j u = z.cells →
      Sl (w.setCell ⟨g, off + (i * 9 + j), none⟩ u) 51 9 (.slice (some ⟨g, off, none⟩) L.length c) L.length (rows Chg.cells (L.set i z)) := fun {w x z j u} hs hj he => by
    have := step (M := L.set i x) (by simp) (at_ x) hj he hs
    rwa [List.set_set] at this
  have h1 := nx (j := 1) (u := .int .i64 y.a) (z := { x with k := y.k, a := y.a }) h0 (by omega) rfl
  have h2 := nx (j := 2) (u := .int .i64 y.t) (z := { x with k := y.k, a := y.a, t := y.t }) h1 (by omega) rfl
  have h3 := nx (j := 3) (u := .int .i64 y.id) (z := { x with k := y.k, a := y.a, t := y.t, id := y.id }) h2 (by omega) rfl
  have h4 := nx (j := 4) (u := .int .i64 y.nm) (z := { x with k := y.k, a := y.a, t := y.t, id := y.id, nm := y.nm }) h3 (by omega) rfl
  have h5 := nx (j := 5) (u := .string y.tx) (z := { x with k := y.k, a := y.a, t := y.t, id := y.id, nm := y.nm, tx := y.tx }) h4 (by omega) rfl
  have h6 := nx (j := 6) (u := .int .i64 y.vk) (z := { x with k := y.k, a := y.a, t := y.t, id := y.id, nm := y.nm, tx := y.tx, vk := y.vk }) h5 (by omega) rfl
  have h7 := nx (j := 7) (u := .int .i64 y.vn) (z := { x with k := y.k, a := y.a, t := y.t, id := y.id, nm := y.nm, tx := y.tx, vk := y.vk, vn := y.vn }) h6 (by omega) rfl
  exact nx (j := 8) (u := .bool y.had) (z := y) h7 (by omega) rfl
/-- All cells of an element. -/
theorem Rd.atC {w : World} {v : Value} {L : List Chg} (h : Rd w v 9 L.length (rows Chg.cells L)) (hn : 0 < L.length) :
    ∃ g off c, v = .slice (some ⟨g, off, none⟩) L.length c ∧ ∀ i x, L[i]? = some x → AtC w g (off + i * 9) x := by
  obtain ⟨g, off, c, hv, hc⟩ := h.fld chg_len hn
  exact ⟨g, off, c, hv, fun i x hx => ⟨hc i x 0 _ hx rfl, hc i x 1 _ hx rfl, hc i x 2 _ hx rfl, hc i x 3 _ hx rfl, hc i x 4 _ hx rfl, hc i x 5 _ hx rfl, hc i x 6 _ hx rfl, hc i x 7 _ hx rfl, hc i x 8 _ hx rfl⟩⟩
theorem Sl.atC {w : World} {v : Value} {L : List Chg} (h : Sl w 51 9 v L.length (rows Chg.cells L)) (hn : 0 < L.length) :
    ∃ g off c, v = .slice (some ⟨g, off, none⟩) L.length c ∧ L.length ≤ c ∧ c ≤ maxLen ∧ g < w.heap.size ∧ (∀ j, w.frozen? ⟨g, j, none⟩ = false) ∧ ∀ i x, L[i]? = some x → AtC w g (off + i * 9) x := by
  obtain ⟨g, off, c, hv, h1, h2, h3, h4, hc⟩ := h.fld chg_len hn
  exact ⟨g, off, c, hv, h1, h2, h3, h4, fun i x hx => ⟨hc i x 0 _ hx rfl, hc i x 1 _ hx rfl, hc i x 2 _ hx rfl, hc i x 3 _ hx rfl, hc i x 4 _ hx rfl, hc i x 5 _ hx rfl, hc i x 6 _ hx rfl, hc i x 7 _ hx rfl, hc i x 8 _ hx rfl⟩⟩
end
end Go.Proofs.YtghcmakhfdnimaaDoor
