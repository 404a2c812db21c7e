/- Variables: MakeLocal, KillLocal, SetLocal, Drop: what they make of the scopes' list, plainly; the walk of 'in'. No condition but those written. -/
import Derived.Test.YtempnakdpmmmoaaVge
namespace Go.Proofs.Ytempnakdpmmmoaa
open Go.RowKit
attribute [local go_sem] neq_cells eql_cells

/-! ### The scopes' list, plainly -/
theorem fndL_mid {l1 l2 : List Loc} {y : Loc} (h : ∀ z ∈ l1, z.k ≠ y.k) (j : Int) : fndL (l1 ++ y :: l2) j = if j = y.k then some y else fndL (l1 ++ l2) j := by
  by_cases hj : j = y.k
  · subst hj
    rw [if_pos rfl, fndL_skip h, fndL_cons, if_pos rfl]
  · rw [if_neg hj]
    unfold fndL
    rw [List.find?_append, List.find?_append, List.find?_cons]
    have : (j == y.k) = false := by simpa using hj
    rw [this]
theorem lcl_mid (s : Vst) {l1 l2 : List Loc} {y : Loc} (h : ∀ z ∈ l1, z.k ≠ y.k) (j q : Int) : (s.withLocs (l1 ++ y :: l2)).lcl j q = if j = y.k then fnd y.es q else (s.withLocs (l1 ++ l2)).lcl j q := by
  unfold Vst.lcl Vst.inner
  rw [withLocs_locs, withLocs_locs, fndL_mid h]
  by_cases hj : j = y.k
  · rw [if_pos hj, if_pos hj]; rfl
  · rw [if_neg hj, if_neg hj]
theorem fnd_snoc {l : List Ent} {n : Int} (h : fnd l n = none) (g : Nat) (c : Cel) (q : Int) : fnd (l ++ [⟨n, g, c⟩]) q = if q = n then some ⟨n, g, c⟩ else fnd l q := by
  by_cases hq : q = n
  · subst hq
    rw [if_pos rfl, fnd_append h _ rfl]
  · rw [if_neg hq]
    unfold fnd
    rw [List.find?_append]
    have hb : (q == n) = false := by simpa using hq
    simp [hb]
theorem fnd_del {l : List Ent} (h : (l.map (·.n)).Nodup) (n q : Int) : fnd (delE l n) q = if q = n then none else fnd l q := by
  induction l with
  | nil => simp [delE, fnd]
  | cons e l ih =>
    rw [List.map_cons, List.nodup_cons] at h
    have ih := ih h.2
    unfold delE fnd at *
    rw [List.eraseP_cons]
    by_cases he : n = e.n
    · subst he
      simp only [BEq.rfl, cond_true]
      by_cases hq : q = e.n
      · subst hq
        rw [if_pos rfl]
        refine List.find?_eq_none.2 fun x hx => ?_
        have : e.n ≠ x.n := fun e1 => h.1 (List.mem_map.2 ⟨x, hx, e1.symm⟩)
        simpa using this
      · rw [if_neg hq, List.find?_cons]
        have : (q == e.n) = false := by simpa using hq
        rw [this]
    · have hb : (n == e.n) = false := by simpa using he
      rw [hb]
      simp only [cond_false, List.find?_cons]
      split
      · next hq =>
        have hq : q = e.n := by simpa using hq
        subst hq
        rw [if_neg (fun e1 => he e1.symm)]
      · exact ih
/-- What Ok says of the scopes' list. -/
structure LOk (l : List Loc) : Prop where
  ln : (l.map (·.k)).Nodup
  lr : ∀ x ∈ l, 1 ≤ x.k ∧ x.k ≤ 65536
  en : ∀ x ∈ l, (x.es.map (·.n)).Nodup ∧ ∀ e ∈ x.es, 0 ≤ e.n ∧ e.n < 16384
theorem Vst.Ok.l {s : Vst} (h : s.Ok) : LOk s.locs := ⟨h.ln, h.lr, h.en⟩
theorem Vst.Ok.withL {s : Vst} (h : s.Ok) {l : List Loc} (hl : LOk l) : (s.withLocs l).Ok := ⟨h.dn, h.dr, hl.ln, hl.lr, hl.en, h.sc, h.ns, h.nl⟩
theorem LOk.mid {l1 l2 : List Loc} {x : Loc} (h : LOk (l1 ++ x :: l2)) {es : List Ent} (h1 : (es.map (·.n)).Nodup) (h2 : ∀ e ∈ es, 0 ≤ e.n ∧ e.n < 16384) : LOk (l1 ++ { x with es := es } :: l2) := by
  refine ⟨?_, fun y hy => ?_, fun y hy => ?_⟩
  · have := h.ln
    rw [List.map_append, List.map_cons] at this ⊢
    exact this
  · rcases List.mem_append.1 hy with hy | hy
    · exact h.lr y (List.mem_append_left _ hy)
    · rcases List.mem_cons.1 hy with rfl | hy
      · exact h.lr x (List.mem_append_right _ (List.mem_cons_self ..))
      · exact h.lr y (List.mem_append_right _ (List.mem_cons_of_mem _ hy))
  · rcases List.mem_append.1 hy with hy | hy
    · exact h.en y (List.mem_append_left _ hy)
    · rcases List.mem_cons.1 hy with rfl | hy
      · exact ⟨h1, h2⟩
      · exact h.en y (List.mem_append_right _ (List.mem_cons_of_mem _ hy))
theorem LOk.snoc {l : List Loc} (h : LOk l) {y : Loc} (h0 : fndL l y.k = none) (h1 : 1 ≤ y.k ∧ y.k ≤ 65536) (h2 : (y.es.map (·.n)).Nodup) (h3 : ∀ e ∈ y.es, 0 ≤ e.n ∧ e.n < 16384) : LOk (l ++ [y]) := by
  refine ⟨?_, fun x hx => ?_, fun x hx => ?_⟩
  · rw [List.map_append, List.nodup_append]
    refine ⟨h.ln, by simp, fun a ha b hb => ?_⟩
    obtain ⟨x, hx, rfl⟩ := List.mem_map.1 ha
    obtain rfl : b = y.k := by simpa using hb
    intro e
    have := List.find?_eq_none.1 h0 x hx
    simp [e] at this
  · rcases List.mem_append.1 hx with hx | hx
    · exact h.lr x hx
    · obtain rfl := List.mem_singleton.1 hx
      exact h1
  · rcases List.mem_append.1 hx with hx | hx
    · exact h.en x hx
    · obtain rfl := List.mem_singleton.1 hx
      exact ⟨h2, h3⟩
theorem LOk.sub {l l' : List Loc} (h : LOk l) (hs : l'.Sublist l) : LOk l' := ⟨(hs.map _).nodup h.ln, fun x hx => h.lr x (hs.subset hx), fun x hx => h.en x (hs.subset hx)⟩
theorem fndL_none {l : List Loc} {k : Int} (h : fndL l k = none) : ∀ y ∈ l, y.k ≠ k := fun y hy e => by
  have := List.find?_eq_none.1 h y hy
  simp [e] at this
section
variable {W w w' : World} {b : Vb} {s : Vst} {R : Heap}
theorem withLocs_self (s : Vst) : s.withLocs s.locs = s := rfl
/-- A new local cell, seen. -/
theorem in_view {k n : Int} (hk : k ≠ 0) {l1 l2 : List Loc} {x : Loc} (hx : x.k = k) (h1 : ∀ y ∈ l1, y.k ≠ k) (hs : ∀ j q, s.lcl j q = if j = k then fnd x.es q else (s.withLocs (l1 ++ l2)).lcl j q) (hn : fnd x.es n = none) (g : Nat) (c : Cel) :
    (s.withLocs (l1 ++ { x with es := x.es ++ [⟨n, g, c⟩] } :: l2)).view = s.view.put k n c := by
  subst hx
  rw [put_scope hk]
  refine Vw.ext rfl (funext fun j => funext fun q => ?_) rfl rfl rfl
  show ((s.withLocs (l1 ++ { x with es := x.es ++ [⟨n, g, c⟩] } :: l2)).lcl j q).map (·.c) = if j = x.k ∧ q = n then some c else (s.lcl j q).map (·.c)
  rw [lcl_mid s (y := { x with es := x.es ++ [⟨n, g, c⟩] }) h1, hs]
  by_cases hj : j = x.k
  · subst hj
    rw [if_pos rfl, if_pos rfl, fnd_snoc hn]
    by_cases hq : q = n
    · rw [if_pos hq, if_pos ⟨rfl, hq⟩]; rfl
    · rw [if_neg hq, if_neg (fun e => hq e.2)]
  · rw [if_neg hj, if_neg hj, if_neg (fun e => hj e.1)]
/-- What 'in' leaves, seen. -/
def InV (W : World) (b : Vb) (s : Vst) (R : Heap) (k n : Int) (c : Cel) (w' : World) : Prop := ∃ s', VarsAt W w' b s' R ∧ s'.Ok ∧ s'.view = s.view.put k n c
theorem in_any (h : VarsAt W w b s R) (ok : s.Ok) {k : Int} (hk : scpK k) {n : Int} (hn : varN n) (hl : s.lcl k n = none) (c : Cel) :
    Calls Try.prog 42 #[.pointer (some ⟨b.vb, 0, none⟩), .int .i64 n, .int .i64 k, .agg #[.int .i64 c.k, .int .i64 c.n, .bool c.b]] w
    fun r w' => ∃ g, r = .returned (.pointer (some ⟨g, 0, none⟩)) ∧ InV W b s R k n c w' := by
  have hk0 : k ≠ 0 := by unfold scpK at hk; omega
  cases hx : fndL s.locs k with
  | some x =>
    obtain ⟨l1, l2, hs, hxk, h1⟩ := fndL_split hx
    have hne : fnd x.es n = none := by rw [← lcl_eq hx]; exact hl
    refine (in_old h hs hxk h1 n hne c).mono ?_
    rintro r w' ⟨g, rfl, hV⟩
    have hok := ok.l
    rw [hs] at hok
    have hxe := hok.en x (List.mem_append_right _ (List.mem_cons_self ..))
    refine ⟨g, rfl, _, hV, ok.withL (hok.mid ?_ ?_), in_view hk0 hxk h1 (fun j q => ?_) hne g c⟩
    · rw [List.map_append, List.nodup_append]
      refine ⟨hxe.1, by simp, fun a ha b hb => ?_⟩
      obtain ⟨e, he, rfl⟩ := List.mem_map.1 ha
      obtain rfl : b = n := by simpa using hb
      exact fnd_none hne he
    · intro e he
      rcases List.mem_append.1 he with he | he
      · exact hxe.2 e he
      · obtain rfl := List.mem_singleton.1 he
        exact hn
    · subst hxk
      rw [← lcl_mid s h1, ← hs]
      rfl
  | none =>
    refine (in_new h hx n c).mono ?_
    rintro r w' ⟨gm, g, rfl, hV⟩
    refine ⟨g, rfl, _, hV, ok.withL (ok.l.snoc (y := ⟨k, gm, [⟨n, g, c⟩]⟩) hx hk (by simp) ?_), in_view (x := ⟨k, gm, []⟩) hk0 rfl (fndL_none hx) (fun j q => ?_) rfl g c⟩
    · intro e he
      obtain rfl := List.mem_singleton.1 he
      exact hn
    · rw [List.append_nil, withLocs_self]
      by_cases hj : j = k
      · subst hj
        rw [if_pos rfl]
        unfold Vst.lcl Vst.inner
        rw [hx]
        rfl
      · rw [if_neg hj]
end
end Go.Proofs.Ytempnakdpmmmoaa
