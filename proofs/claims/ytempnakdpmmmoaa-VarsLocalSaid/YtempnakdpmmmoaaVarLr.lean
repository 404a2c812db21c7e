/- The same, where one or two scopes have one local value each. No condition but those written. -/
import Derived.Test.YtempnakdpmmmoaaVarLq
namespace Go.Proofs.Ytempnakdpmmmoaa
open Go.RowKit

section
variable {W w w' : World} {vb : Nat} {f : Int → Cel} {k : Int} {A : Shp} {R : Heap}
theorem lq_local (h : Lq W vb f k A R w) (n q : Int) (c : Cel) (hc : lclA A q n = some c) : Calls Try.prog 25 #[.pointer (some ⟨vb, 0, none⟩), .int .i64 n, .int .i64 q] w
    fun r w' => r = .returned (.tuple #[.agg #[.int .i64 c.k, .int .i64 c.n], .bool c.b]) ∧ Lq W vb f k A R w' := by
  obtain ⟨b, s, rfl, h2, h3, h4, h5, h6⟩ := h.at_
  rw [← h4, ← lcl_shape] at hc
  cases he : s.lcl q n with
  | none => rw [he] at hc; cases hc
  | some e =>
    rw [he] at hc
    obtain rfl : e.c = c := Option.some.inj hc
    refine (local_some h2 n q e he).mono ?_
    rintro r w' ⟨rfl, hV⟩
    exact ⟨rfl, b, s, rfl, hV, h3, h4, h5, h6⟩
theorem lq_islocal (h : Lq W vb f k A R w) (n q : Int) (v : Bool) (hv : (lclA A q n).isSome = v) : Calls Try.prog 29 #[.pointer (some ⟨vb, 0, none⟩), .int .i64 n, .int .i64 q] w
    fun r w' => r = .returned (.bool v) ∧ w = w' := by
  obtain ⟨b, s, rfl, h2, h3, h4, h5, h6⟩ := h.at_
  have := islocal_any h2 n q
  rw [show (s.lcl q n).isSome = v by rw [← hv, ← h4, ← lcl_shape, Option.isSome_map]] at this
  exact this
theorem lq_now (h : Lq W vb f k A R w) : Calls Try.prog 28 #[.pointer (some ⟨vb, 0, none⟩)] w fun r w' => r = .returned (.int .i64 k) ∧ w = w' := by
  obtain ⟨b, s, rfl, h2, rfl, h4, h5, h6⟩ := h.at_
  exact scope_any h2
theorem lq_kill (n : Int) (c : Cel) (h : Lq W vb f k ((k, [(n, c)]) :: A) R w) (hn : 0 ≤ n ∧ n < 16384) (hk : k ≠ 0) : Calls Try.prog 26 #[.pointer (some ⟨vb, 0, none⟩), .int .i64 n] w
    fun r w' => r = .returned (.int .i64 0) ∧ Lq W vb f k ((k, []) :: A) R w' := by
  obtain ⟨b, s, rfl, h2, rfl, h4, h5, h6⟩ := h.at_
  obtain ⟨g, es, l, h7, h8, h9⟩ := shape_cons h4
  obtain ⟨g1, rfl⟩ := ents_one h8
  refine (kill_any (l1 := []) h2 h7 rfl (fun y hy => by cases hy) hk n hn).mono ?_
  rintro r w' ⟨rfl, hV⟩
  refine ⟨rfl, b, _, rfl, hV, rfl, ?_, h5, h6⟩
  rw [withLocs_locs]
  simp [shape, delE] at h9 ⊢
  exact h9
theorem lq_drop {es : List (Int × Cel)} (h : Lq W vb f k (A ++ [(k, es)]) R w) (hA : ∀ y ∈ A, y.1 ≠ k) (hk : 1 ≤ k ∧ k ≤ 65536) : Calls Try.prog 27 #[.pointer (some ⟨vb, 0, none⟩), .int .i64 k] w
    fun r w' => r = .returned (.int .i64 0) ∧ Lq W vb f 0 A R w' := by
  obtain ⟨b, s, rfl, h2, rfl, h4, h5, h6⟩ := h.at_
  obtain ⟨l1, l2, h7, h8, h9⟩ := List.map_eq_append_iff.1 h4
  obtain ⟨g, es', l3, rfl, h11, h12⟩ := shape_cons h9
  obtain rfl := shape_nil h12
  refine (drop_now h2 h7 rfl (fun y hy => ?_) hk).mono ?_
  · have : (y.k, y.es.map fun e => (e.n, e.c)) ∈ A := by
      rw [← h8]
      exact List.mem_map.2 ⟨y, hy, rfl⟩
    exact hA _ this
  · rintro r w' ⟨rfl, hV⟩
    refine ⟨rfl, b, _, rfl, hV, rfl, ?_, h5, h6⟩
    show shape (l1 ++ []) = A
    rw [List.append_nil]
    exact h8
theorem lq_locals (q : Int) (h : Lq W vb f k ((q, []) :: A) R w) : Calls Try.prog 24 #[.pointer (some ⟨vb, 0, none⟩), .int .i64 q] w
    fun r w' => r = .returned (.slice none 0 0) ∧ Lq W vb f k ((q, []) :: A) R w' := by
  have h0 := h
  obtain ⟨b, s, rfl, h2, rfl, h4, h5, h6⟩ := h.at_
  obtain ⟨g, es, l, h7, h8, h9⟩ := shape_cons h4
  obtain rfl : es = [] := by simpa using h8
  exact (locals_empty h2 q ⟨q, g, []⟩ (by rw [h7, fndL_cons, if_pos rfl]) rfl).mono fun _ _ hb => ⟨hb.1, h0.below hb.2⟩
/-- Set where two scopes have one local value each, the second one current. -/
theorem lq_set_two {a n : Int} {y d : Cel} (h : Lq W vb f k [(a, [(n, y)]), (k, [(n, d)])] R w) (ha : a ≠ k) (hn : 2 ≤ n ∧ n < 16384) (x z : Int) :
    Calls Try.prog 15 #[.pointer (some ⟨vb, 0, none⟩), .int .i64 n, .agg #[.int .i64 x, .int .i64 z]] w
    fun r w' => r = .returned (.int .i64 0) ∧ Lq W vb f k [(a, [(n, y)]), (k, [(n, ⟨x, z, true⟩)])] R w' := by
  obtain ⟨b, s, rfl, h2, rfl, h4, h5, h6⟩ := h.at_
  obtain ⟨ga, es, l, h7, h8, h9⟩ := shape_cons h4
  obtain ⟨g1, rfl⟩ := ents_one h8
  obtain ⟨gb, es2, l2, rfl, h10, h11⟩ := shape_cons h9
  obtain ⟨g2, rfl⟩ := ents_one h10
  obtain rfl := shape_nil h11
  have hl : s.lcl s.scope n = some ⟨n, g2, d⟩ := by
    rw [lcl_eq (x := ⟨s.scope, gb, [⟨n, g2, d⟩]⟩) (by rw [h7, fndL_cons, if_neg ha, fndL_cons, if_pos rfl])]
    simp [fnd]
  have hpl : ∀ g, s.placed n g = s := fun g => by
    unfold Vst.placed
    rw [hl]
    rfl
  refine (set_ok h2 n (by omega) (by rw [h6]; exact mark_none hn.1) x z).mono ?_
  rintro r w' ⟨rfl, g, hV, hat⟩
  rw [hpl] at hV hat
  obtain rfl : g2 = g := by
    unfold Vst.at_ at hat
    rw [hl] at hat
    exact hat
  have hnd := h2.own.left.right.nod
  have hd : ∀ e ∈ s.defs, e.g ≠ g2 := fun e he hg => by
    refine nodup_sep hnd (g := e.g) (List.mem_map.2 ⟨_, List.mem_map.2 ⟨e, he, rfl⟩, rfl⟩) ?_
    rw [hg, h7]
    simp [Heap.blocks, locHeap, entHeap]
  have h12 : g1 ≠ g2 := by
    have := h2.own.left.right.right.left.nod
    rw [h7] at this
    simp [Heap.blocks, locHeap, entHeap] at this
    exact fun e => this.2.1.2 e
  refine ⟨rfl, b, _, rfl, hV, rfl, ?_, fun m => ?_, h6⟩
  · show shape (updX s.locs g2 ⟨x, z, true⟩) = _
    rw [h7]
    simp [updX, updL, shape, h12]
  · show ((fnd (updL s.defs g2 ⟨x, z, true⟩) m).map (·.c)).getD Cel.zero = _
    rw [updL_absent hd]
    exact h5 m
end
end Go.Proofs.Ytempnakdpmmmoaa
