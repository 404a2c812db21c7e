/- Variables without local values, seen as a function and a list of bindings: what the methods do to these. No condition but those written. -/
import Derived.Test.YtempnakdpmmmoaaVarNew
namespace Go.Proofs.Ytempnakdpmmmoaa
open Go.RowKit
attribute [local go_sem] neq_cells

def put (f : Int → Cel) (n : Int) (c : Cel) : Int → Cel := fun m => if m = n then c else f m
/-- The variables at block vb: no local values, the defaults f, the bindings l. -/
structure Sim (W : World) (vb : Nat) (f : Int → Cel) (l : List (Cel × Int)) (R : Heap) (w : World) : Prop where
  at_ : ∃ b s, b.vb = vb ∧ VarsAt W w b s R ∧ s.locs = [] ∧ s.scope = 0 ∧ s.marks = [((0 : Int), true), (1, true)] ∧ (∀ m, s.dflt m = f m) ∧ s.notes.map (fun x => (x.c, x.n)) = l ∧ ∀ x ∈ s.notes, x.s = 0

theorem lcl_none {s : Vst} (h : s.locs = []) (k n : Int) : s.lcl k n = none := by
  unfold Vst.lcl Vst.inner
  rw [h]
  rfl
theorem mark_none {n : Int} (h : 2 ≤ n) : fndM [((0 : Int), true), (1, true)] n = none := by
  unfold fndM
  have h0 : (n == (0 : Int)) = false := by simp; omega
  have h1 : (n == (1 : Int)) = false := by simp; omega
  simp [List.find?_cons, h0, h1]
section
variable {W w w' : World} {vb : Nat} {f : Int → Cel} {l : List (Cel × Int)} {R : Heap}
theorem Sim.below (h : Sim W vb f l R w) (hb : Below w.heap.size w w') : Sim W vb f l R w' := by
  obtain ⟨b, s, h1, h2, h3⟩ := h.at_
  exact ⟨b, s, h1, h2.below hb, h3⟩
theorem Sim.box (h : Sim W vb f l R w) (t : TypeId) (cs : Array Value) : Sim W vb f l ((w.heap.size, .cells t cs) :: R) (w.alloc (.cells cs t)) := by
  obtain ⟨b, s, h1, h2, h3⟩ := h.at_
  exact ⟨b, s, h1, h2.box t cs, h3⟩
theorem Sim.blk (h : Sim W vb f l R w) {g : Nat} {t : TypeId} {cs : Array Value} (hg : (g, Ast.cells t cs) ∈ R) : Blk w g t cs := by
  obtain ⟨b, s, h1, h2, h3⟩ := h.at_
  exact h2.own.blk (List.mem_append_right _ hg)
theorem Sim.bel (h : Sim W vb f l R w) : Below W.heap.size W w := by
  obtain ⟨b, s, h1, h2, h3⟩ := h.at_
  exact h2.own.bel
def first2 (m : Int) : Cel := if m = 0 then ⟨1, 0, true⟩ else if m = 1 then ⟨1, 1, true⟩ else Cel.zero
theorem sim_new (W : World) : Calls Try.prog 9 #[] W fun r w' => ∃ vb, r = .returned (.pointer (some ⟨vb, 0, none⟩)) ∧ Sim W vb first2 [] [] w' := by
  refine (new_any W).mono ?_
  rintro r w' ⟨b, s, rfl, h, h1, h2, h3, h4, h5⟩
  refine ⟨b.vb, rfl, b, s, rfl, h, h1, h3, h4, fun m => ?_, by rw [h2]; rfl, by rw [h2]; simp⟩
  have e : (s.defs.map fun e => (e.n, e.c)).find? (fun x => m == x.1) = (fnd s.defs m).map fun e => (e.n, e.c) := by
    rw [List.find?_map]
    rfl
  rw [h5] at e
  unfold Vst.dflt first2
  have e2 : (fnd s.defs m).map (fun e => e.c) = ((fnd s.defs m).map fun e => (e.n, e.c)).map (·.2) := by
    cases fnd s.defs m <;> rfl
  rw [e2, ← e]
  by_cases h0 : m = 0
  · subst h0
    rfl
  · have hb0 : (m == (0 : Int)) = false := by simpa using h0
    by_cases h1 : m = 1
    · subst h1
      rfl
    · have hb1 : (m == (1 : Int)) = false := by simpa using h1
      simp [List.find?_cons, hb0, hb1, h0, h1]
theorem placed_none {s : Vst} (h : s.locs = []) (n : Int) (g : Nat) : s.placed n g = s.glob n g := by
  unfold Vst.placed
  rw [lcl_none h]
  rfl
theorem now_none {s : Vst} (h : s.locs = []) (n : Int) : s.now n = s.dflt n := by
  unfold Vst.now
  rw [lcl_none h]
theorem at_none {s : Vst} (h : s.locs = []) {n : Int} {g : Nat} (ha : (s.glob n g).at_ n g) : ∃ c, fnd (s.glob n g).defs n = some ⟨n, g, c⟩ := by
  unfold Vst.at_ at ha
  rw [lcl_none (by rw [glob_locs]; exact h)] at ha
  exact ha
theorem sim_set (h : Sim W vb f l R w) (n : Int) (hn : 2 ≤ n ∧ n < 16384) (k m : Int) : Calls Try.prog 15 #[.pointer (some ⟨vb, 0, none⟩), .int .i64 n, .agg #[.int .i64 k, .int .i64 m]] w
    fun r w' => r = .returned (.int .i64 0) ∧ Sim W vb (put f n ⟨k, m, true⟩) l R w' := by
  obtain ⟨b, s, rfl, h2, h3, h4, h5, h6, h7, h8⟩ := h.at_
  refine (set_ok h2 n (by omega) (by rw [h5]; exact mark_none hn.1) k m).mono ?_
  rintro r w' ⟨rfl, g, hV, ha⟩
  rw [placed_none h3] at hV ha
  obtain ⟨c, hc⟩ := at_none h3 ha
  refine ⟨rfl, b, _, rfl, hV, ?_, ?_, ?_, fun q => ?_, ?_, ?_⟩
  · rw [show ((s.glob n g).upd g ⟨k, m, true⟩).locs = _ from hV.updX_absent hc, glob_locs, h3]
  · show (s.glob n g).scope = 0
    rw [glob_scope, h4]
  · show (s.glob n g).marks = _
    rw [glob_marks, h5]
  · have hnd := hV.defs_nodup
    rw [upd_blocks] at hnd
    rw [dflt_upd hnd hc, dflt_glob, h6]
    rfl
  · show (s.glob n g).notes.map _ = l
    rw [glob_notes, h7]
  · show ∀ x ∈ (s.glob n g).notes, x.s = 0
    rw [glob_notes]
    exact h8
theorem sim_get (h : Sim W vb f l R w) (n : Int) (hn : 0 ≤ n ∧ n < 16384) : Calls Try.prog 13 #[.pointer (some ⟨vb, 0, none⟩), .int .i64 n] w
    fun r w' => r = .returned (.tuple #[.agg #[.int .i64 (f n).k, .int .i64 (f n).n], .bool (f n).b]) ∧ Sim W vb f l R w' := by
  obtain ⟨b, s, rfl, h2, h3, h4, h5, h6, h7, h8⟩ := h.at_
  refine (get_ok h2 n hn).mono ?_
  rw [now_none h3, h6]
  rintro r w' ⟨rfl, g, hV, ha⟩
  rw [placed_none h3] at hV ha
  refine ⟨rfl, b, _, rfl, hV, ?_, ?_, ?_, fun q => ?_, ?_, ?_⟩
  · rw [glob_locs, h3]
  · rw [glob_scope, h4]
  · rw [glob_marks, h5]
  · rw [dflt_glob, h6]
  · rw [glob_notes, h7]
  · rw [glob_notes]
    exact h8
theorem sim_bind (h : Sim W vb f l R w) (n : Int) (hn : 2 ≤ n ∧ n < 16384) (hl : l.length < 2000) (k m : Int) : Calls Try.prog 10 #[.pointer (some ⟨vb, 0, none⟩), .int .i64 n, .agg #[.int .i64 k, .int .i64 m]] w
    fun r w' => r = .returned (.int .i64 0) ∧ Sim W vb (put f n ⟨k, m, true⟩) (l ++ [(f n, n)]) R w' := by
  obtain ⟨b, s, rfl, h2, h3, h4, h5, h6, h7, h8⟩ := h.at_
  have hlen : s.notes.length = l.length := by rw [← h7]; simp
  refine (bind_global h2 n (by omega) (by rw [h5]; exact mark_none hn.1) (by omega) (lcl_none h3 _ _) k m).mono ?_
  rintro r w' ⟨rfl, g, g1, g2, v, hc, hV⟩
  have hc' : fnd ((s.glob n g).addNote ⟨s.dflt n, n, 0, g1, g2⟩).defs n = some ⟨n, g, s.dflt n⟩ := hc
  refine ⟨rfl, b.withNv v, _, rfl, hV, ?_, ?_, ?_, fun q => ?_, ?_, ?_⟩
  · rw [show (((s.glob n g).addNote ⟨s.dflt n, n, 0, g1, g2⟩).upd g ⟨k, m, true⟩).locs = _ from hV.updX_absent hc']
    show (s.glob n g).locs = []
    rw [glob_locs, h3]
  · show (s.glob n g).scope = 0
    rw [glob_scope, h4]
  · show (s.glob n g).marks = _
    rw [glob_marks, h5]
  · have hnd := hV.defs_nodup
    rw [upd_blocks] at hnd
    rw [dflt_upd hnd hc', show ((s.glob n g).addNote ⟨s.dflt n, n, 0, g1, g2⟩).dflt q = (s.glob n g).dflt q from rfl, dflt_glob, h6]
    rfl
  · show ((s.glob n g).notes ++ [_]).map _ = _
    rw [glob_notes, List.map_append, h7]
    simp [h6]
  · show ∀ x ∈ (s.glob n g).notes ++ [_], x.s = 0
    rw [glob_notes]
    intro x hx
    rcases List.mem_append.1 hx with hx | hx
    · exact h8 x hx
    · simp at hx
      rw [hx]
def rewind (f : Int → Cel) (l : List (Cel × Int)) (m : Int) : Cel := ((l.find? fun x => m == x.2).map (·.1)).getD (f m)
theorem sim_unbind (h : Sim W vb f l R w) (d : Nat) (hd : d ≤ l.length) (hl : l.length ≤ 2000) : Calls Try.prog 12 #[.pointer (some ⟨vb, 0, none⟩), .int .i64 (d : Int)] w
    fun r w' => r = .returned (.int .i64 0) ∧ Sim W vb (rewind f (l.drop d)) (l.take d) R w' := by
  obtain ⟨b, s, rfl, h2, h3, h4, h5, h6, h7, h8⟩ := h.at_
  have hlen : s.notes.length = l.length := by rw [← h7]; simp
  refine (unbind_ok h2 h8 d (by omega) (by omega)).mono ?_
  rintro r w' ⟨rfl, v, s', hV, hn, hf, h9, h10, h11⟩
  refine ⟨rfl, b.withNv v, s', rfl, hV, by rw [h9, h3], by rw [h11, h4], by rw [h10, h5], fun m => ?_, ?_, fun x hx => ?_⟩
  · rw [hf]
    unfold rewound rewind
    rw [← h7, ← List.map_drop, List.find?_map, h6]
    cases hx : (s.notes.drop d).find? ((fun x => m == x.2) ∘ fun x => (x.c, x.n)) with
    | none =>
      have : (s.notes.drop d).find? (fun x => m == x.n) = none := hx
      rw [this]
      rfl
    | some x =>
      have : (s.notes.drop d).find? (fun x => m == x.n) = some x := hx
      rw [this]
      rfl
  · rw [hn, List.map_take, h7]
  · rw [hn] at hx
    exact h8 x (List.mem_of_mem_take hx)
theorem sim_depth (h : Sim W vb f l R w) : Calls Try.prog 14 #[.pointer (some ⟨vb, 0, none⟩)] w fun e w' => e = .returned (.int .i64 (l.length : Int)) ∧ w = w' := by
  obtain ⟨b, s, rfl, h2, h3, h4, h5, h6, h7, h8⟩ := h.at_
  have hlen : s.notes.length = l.length := by rw [← h7]; simp
  rw [← hlen]
  exact depth_any h2
set_option maxRecDepth 100000 in
theorem sim_unbind_range (h : Sim W vb f l R w) (d : Nat) (hd : l.length < d) : Calls Try.prog 12 #[.pointer (some ⟨vb, 0, none⟩), .int .i64 (d : Int)] w
    fun r w' => r = .returned (.int .i64 3) ∧ w = w' := by
  obtain ⟨b, s, rfl, h2, h3, h4, h5, h6, h7, h8⟩ := h.at_
  have hlen : s.notes.length = l.length := by rw [← h7]; simp
  have HM := hide (made_any h2)
  obtain ⟨A, c, hv, hc, _⟩ := h2.sl.form
  have c3 : w.cell? ⟨b.vb, 3, none⟩ = some (.slice A s.notes.length c) := by rw [h2.vb.cell, ← hv]; rfl
  have hz1 : decide ((d : Int) < 0) = false := by simp
  have hz2 : decide (s.notes.length < d) = true := by simp; omega
  clear h h2 h3 h4 h5 h6 h7 h8 hv hlen hc hd
  go_enter Try.func12, Try.ntmps12
  go_wp2_with fail
  refine (Calls.mono HM.out) ?_
  rintro e w2 ⟨rfl, rfl⟩
  clear HM
  go_wp2
  go_ret
  exact ⟨rfl, rfl⟩
set_option maxRecDepth 100000 in
theorem sim_bind_full (h : Sim W vb f l R w) (n : Int) (hn : 2 ≤ n ∧ n < 16384) (hl : 2000 ≤ l.length) (k m : Int) : Calls Try.prog 10 #[.pointer (some ⟨vb, 0, none⟩), .int .i64 n, .agg #[.int .i64 k, .int .i64 m]] w
    fun r w' => r = .returned (.int .i64 12) ∧ Sim W vb f l R w' := by
  have hS := h.below (((Below.refl _ _).alloc (Nat.le_refl _) (.cells #[.int .i64 n] 3)).alloc (by simp) (.cells #[.int .i64 k, .int .i64 m] 29))
  obtain ⟨b, s, rfl, h2, h3, h4, h5, h6, h7, h8⟩ := h.at_
  have hlen : s.notes.length = l.length := by rw [← h7]; simp
  have h1 := (h2.skip (.cells #[.int .i64 n] 3)).skip (.cells #[.int .i64 k, .int .i64 m] 29)
  have HC := hide (change_ok h1 n (by omega) (by rw [h5]; exact mark_none hn.1))
  obtain ⟨A, c, hv, _⟩ := h2.sl.form
  have q3 : ((w.alloc (.cells #[.int .i64 n] 3)).alloc (.cells #[.int .i64 k, .int .i64 m] 29)).cell? ⟨b.vb, 3, none⟩ = some (.slice A s.notes.length c) := by rw [h1.vb.cell, ← hv]; rfl
  have hz : decide ((2000 : Int) ≤ (s.notes.length : Int)) = true := by simp; omega
  have HS := hide hS
  clear h h1 h2 h3 h4 h5 h6 h7 h8 hv hlen hl hS
  go_enter Try.func10, Try.ntmps10
  go_wp2_with fail
  refine (Calls.mono HC.out) ?_
  rintro e w2 ⟨rfl, rfl⟩
  clear HC
  go_wp2
  go_ret
  exact ⟨rfl, HS.out⟩
end
end Go.Proofs.Ytempnakdpmmmoaa
