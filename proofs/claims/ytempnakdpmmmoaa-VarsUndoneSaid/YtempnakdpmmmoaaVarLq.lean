/- The variables with local values seen as a function and a list of scopes: what the methods that VarsLocal calls do to these. No condition but those written. -/
import Derived.Test.YtempnakdpmmmoaaVarLoc6
namespace Go.Proofs.Ytempnakdpmmmoaa
open Go.RowKit

abbrev Shp := List (Int × List (Int × Cel))
def shape (l : List Loc) : Shp := l.map fun x => (x.k, x.es.map fun e => (e.n, e.c))
def lclA (A : Shp) (k n : Int) : Option Cel := ((((A.find? fun x => k == x.1).map (·.2)).getD []).find? fun e => n == e.1).map (·.2)
theorem lcl_shape (s : Vst) (k n : Int) : (s.lcl k n).map (·.c) = lclA (shape s.locs) k n := by
  unfold Vst.lcl Vst.inner lclA shape fnd fndL
  rw [List.find?_map]
  cases h : s.locs.find? ((fun x : Int × List (Int × Cel) => k == x.1) ∘ fun x => (x.k, x.es.map fun e => (e.n, e.c))) with
  | none =>
    have h' : (s.locs.find? fun x => k == x.k) = none := h
    rw [h']
    rfl
  | some x =>
    have h' : (s.locs.find? fun x => k == x.k) = some x := h
    rw [h']
    simp [List.find?_map, Function.comp_def]
theorem now_shape (s : Vst) (n : Int) : s.now n = (lclA (shape s.locs) s.scope n).getD (s.dflt n) := by
  rw [← lcl_shape]
  unfold Vst.now
  cases s.lcl s.scope n <;> rfl
theorem placed_or (s : Vst) (n : Int) (g : Nat) : s.placed n g = s ∨ s.placed n g = s.glob n g := by
  unfold Vst.placed
  split
  · exact .inl rfl
  · exact .inr rfl
theorem fndL_shape {l : List Loc} {k : Int} (h : ((shape l).find? fun x => k == x.1) = none) : fndL l k = none := by
  unfold shape at h
  rw [List.find?_map] at h
  unfold fndL
  simpa [Function.comp_def] using h
theorem shape_cons {l : List Loc} {k : Int} {es : List (Int × Cel)} {A : Shp} (h : shape l = (k, es) :: A) : ∃ g es' l', l = ⟨k, g, es'⟩ :: l' ∧ (es'.map fun e => (e.n, e.c)) = es ∧ shape l' = A := by
  cases l with
  | nil => simp [shape] at h
  | cons x l =>
    simp only [shape, List.map_cons, List.cons.injEq, Prod.mk.injEq] at h
    obtain ⟨⟨rfl, h2⟩, h3⟩ := h
    exact ⟨x.g, x.es, l, rfl, h2, h3⟩
theorem shape_nil {l : List Loc} (h : shape l = []) : l = [] := by simpa [shape] using h
theorem ents_one {l : List Ent} {n : Int} {c : Cel} (h : (l.map fun e => (e.n, e.c)) = [(n, c)]) : ∃ g, l = [⟨n, g, c⟩] := by
  match l, h with
  | [e], h =>
    simp only [List.map_cons, List.map_nil, List.cons.injEq, Prod.mk.injEq, and_true] at h
    obtain ⟨rfl, rfl⟩ := h
    exact ⟨e.g, rfl⟩
  | [], h => simp at h
  | _ :: _ :: _, h => simp at h
/-- The variables at block vb: defaults f, scope k, local values A, only nil and t marked. -/
structure Lq (W : World) (vb : Nat) (f : Int → Cel) (k : Int) (A : Shp) (R : Heap) (w : World) : Prop where
  at_ : ∃ b s, b.vb = vb ∧ VarsAt W w b s R ∧ s.scope = k ∧ shape s.locs = A ∧ (∀ m, s.dflt m = f m) ∧ s.marks = [((0 : Int), true), (1, true)]
section
variable {W w w' : World} {vb : Nat} {f : Int → Cel} {k : Int} {A : Shp} {R : Heap}
theorem Sim.lq {l : List (Cel × Int)} (h : Sim W vb f l R w) : Lq W vb f 0 [] R w := by
  obtain ⟨b, s, h1, h2, h3, h4, h5, h6, h7, h8⟩ := h.at_
  exact ⟨b, s, h1, h2, h4, by rw [h3]; rfl, h6, h5⟩
theorem Lq.below (h : Lq W vb f k A R w) (hb : Below w.heap.size w w') : Lq W vb f k A R w' := by
  obtain ⟨b, s, h1, h2, h3⟩ := h.at_
  exact ⟨b, s, h1, h2.below hb, h3⟩
theorem Lq.bel (h : Lq W vb f k A R w) : Below W.heap.size W w := by
  obtain ⟨b, s, h1, h2, h3⟩ := h.at_
  exact h2.own.bel
theorem lq_default (h : Lq W vb f k A R w) (n : Int) (hn : 2 ≤ n ∧ n < 16384) (x y : Int) : Calls Try.prog 23 #[.pointer (some ⟨vb, 0, none⟩), .int .i64 n, .agg #[.int .i64 x, .int .i64 y]] w
    fun r w' => r = .returned (.int .i64 0) ∧ Lq W vb (put f n ⟨x, y, true⟩) k A R w' := by
  obtain ⟨b, s, rfl, h2, h3, h4, h5, h6⟩ := h.at_
  refine (setdefault_ok h2 n (by omega) (by rw [h6]; exact mark_none hn.1) x y).mono ?_
  rintro r w' ⟨rfl, g, hV, hc⟩
  refine ⟨rfl, b, _, rfl, hV, ?_, ?_, fun q => ?_, ?_⟩
  · show (s.glob n g).scope = k
    rw [glob_scope, h3]
  · rw [show ((s.glob n g).upd g ⟨x, y, true⟩).locs = _ from hV.updX_absent hc, glob_locs, h4]
  · have hnd := hV.defs_nodup
    rw [upd_blocks] at hnd
    rw [dflt_upd hnd hc, dflt_glob, h5]
    rfl
  · show (s.glob n g).marks = _
    rw [glob_marks, h6]
theorem lq_scope (h : Lq W vb f k A R w) (q : Int) (hq : 0 ≤ q ∧ q ≤ 65536) : Calls Try.prog 16 #[.pointer (some ⟨vb, 0, none⟩), .int .i64 q] w
    fun r w' => r = .returned (.int .i64 0) ∧ Lq W vb f q A R w' := by
  obtain ⟨b, s, rfl, h2, h3, h4, h5, h6⟩ := h.at_
  by_cases h0 : q = 0
  · subst h0
    refine (setscope_zero h2).mono ?_
    rintro r w' ⟨rfl, hV⟩
    exact ⟨rfl, b, _, rfl, hV, rfl, h4, h5, h6⟩
  · refine (setscope_ok h2 q (by omega)).mono ?_
    rintro r w' ⟨rfl, hV⟩
    exact ⟨rfl, b, _, rfl, hV, rfl, h4, h5, h6⟩
theorem lq_get (h : Lq W vb f k A R w) (n : Int) (hn : 0 ≤ n ∧ n < 16384) (c : Cel) (hc : (lclA A k n).getD (f n) = c) : Calls Try.prog 13 #[.pointer (some ⟨vb, 0, none⟩), .int .i64 n] w
    fun r w' => r = .returned (.tuple #[.agg #[.int .i64 c.k, .int .i64 c.n], .bool c.b]) ∧ Lq W vb f k A R w' := by
  obtain ⟨b, s, rfl, h2, h3, h4, h5, h6⟩ := h.at_
  refine (get_ok h2 n hn).mono ?_
  rw [now_shape, h3, h4, h5, hc]
  rintro r w' ⟨rfl, g, hV, ha⟩
  refine ⟨rfl, b, _, rfl, hV, ?_, ?_, fun q => ?_, ?_⟩
  · rcases placed_or s n g with e | e <;> rw [e]
    · exact h3
    · rw [glob_scope, h3]
  · rcases placed_or s n g with e | e <;> rw [e]
    · exact h4
    · rw [glob_locs, h4]
  · rcases placed_or s n g with e | e <;> rw [e]
    · exact h5 q
    · rw [dflt_glob, h5]
  · rcases placed_or s n g with e | e <;> rw [e]
    · exact h6
    · rw [glob_marks, h6]
theorem lq_setlocal (h : Lq W vb f k A R w) (n : Int) (hn : 2 ≤ n ∧ n < 16384) (q : Int) (hq : 1 ≤ q ∧ q ≤ 65536) (hA : (A.find? fun x => q == x.1) = none) (x y : Int) :
    Calls Try.prog 22 #[.pointer (some ⟨vb, 0, none⟩), .int .i64 n, .int .i64 q, .agg #[.int .i64 x, .int .i64 y]] w
    fun r w' => r = .returned (.int .i64 0) ∧ Lq W vb f k (A ++ [(q, [(n, ⟨x, y, true⟩)])]) R w' := by
  obtain ⟨b, s, rfl, h2, h3, h4, h5, h6⟩ := h.at_
  refine (setlocal_new h2 n (by omega) (by rw [h6]; exact mark_none hn.1) q hq (fndL_shape (by rw [h4]; exact hA)) x y).mono ?_
  rintro r w' ⟨rfl, gm, g, hV⟩
  refine ⟨rfl, b, _, rfl, hV, h3, ?_, h5, h6⟩
  rw [withLocs_locs, ← h4]
  simp [shape]
theorem lq_make (h : Lq W vb f k A R w) (n : Int) (hn : 2 ≤ n ∧ n < 16384) (hk : k ≠ 0) (hA : (A.find? fun x => k == x.1) = none) :
    Calls Try.prog 21 #[.pointer (some ⟨vb, 0, none⟩), .int .i64 n] w
    fun r w' => r = .returned (.int .i64 0) ∧ Lq W vb f k (A ++ [(k, [(n, f n)])]) R w' := by
  obtain ⟨b, s, rfl, h2, rfl, h4, h5, h6⟩ := h.at_
  refine (makelocal_new h2 n (by omega) (by rw [h6]; exact mark_none hn.1) (fndL_shape (by rw [h4]; exact hA)) hk).mono ?_
  rintro r w' ⟨rfl, g, gm, g2, hV⟩
  refine ⟨rfl, b, _, rfl, hV, glob_scope s n g, ?_, fun m => (dflt_glob s n g m).trans (h5 m), (glob_marks s n g).trans h6⟩
  rw [withLocs_locs, ← h4]
  simp [shape, h5]
end
end Go.Proofs.Ytempnakdpmmmoaa
