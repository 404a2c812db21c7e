/- The maps of the local values turn: a scope comes or goes, a scope's own map turns. No condition but those written. -/
import Derived.Test.YtempnakdpmmmoaaVarCon
namespace Go.Proofs.Ytempnakdpmmmoaa
open Go.RowKit
attribute [local go_sem] neq_cells

def Vst.withLocs (s : Vst) (l : List Loc) : Vst := { s with locs := l }
theorem locHeap_mid (l1 l2 : List Loc) (x : Loc) : locHeap (l1 ++ x :: l2) = locHeap l1 ++ ((x.g, .map (entPairs x.es)) :: (entHeap x.es ++ locHeap l2)) := by simp [locHeap]
theorem locPairs_mid (l1 l2 : List Loc) (x : Loc) : locPairs (l1 ++ x :: l2) = locPairs l1 ++ (.int .i64 x.k, .map (some x.g)) :: locPairs l2 := by simp [locPairs]
theorem entHeap_snoc (l : List Ent) (e : Ent) : entHeap (l ++ [e]) = entHeap l ++ [(e.g, celA e.c)] := by simp [entHeap]
theorem perm_turn (H D L N R L' R' : Heap) (p : (L ++ R).Perm (L' ++ R')) : ((H ++ (D ++ (L ++ N))) ++ R).Perm ((H ++ (D ++ (L' ++ N))) ++ R') := by
  classical
  rw [List.perm_iff_count] at p ⊢
  intro a
  have := p a
  simp only [List.count_append] at this ⊢
  omega
theorem perm_pick (H D A E B N R : Heap) (x : Nat × Ast) : ((H ++ (D ++ ((A ++ (x :: (E ++ B))) ++ N))) ++ R).Perm (x :: ((E ++ R) ++ (H ++ (D ++ (A ++ (B ++ N)))))) := by
  classical
  rw [List.perm_iff_count]
  intro a
  simp only [List.count_append, List.count_cons]
  omega
section
variable {W w w' : World} {b : Vb} {s : Vst} {R R' : Heap}
/-- The map of the scopes turns. -/
theorem VarsAt.relocs (h : VarsAt W w b s R) {L' : List Loc} (ho : Only (· = b.lb) w w') (hm : MapIs w' b.lb (locPairs L')) (p : (locHeap s.locs ++ R).Perm (locHeap L' ++ R')) : VarsAt W w' b (s.withLocs L') R' := by
  have h1 := h.own
  unfold Vst.heap Vb.head at h1
  have h2 := ((h1.perm (show List.Perm _ ((b.lb, .map (locPairs s.locs)) :: ([(b.vb, .cells 57 #[.map (some b.db), .map (some b.lb), .map (some b.mb), b.nv, .int .i64 s.scope]), (b.db, .map (entPairs s.defs))] ++ ((b.mb, .map (markPairs s.marks)) :: ((entHeap s.defs ++ (locHeap s.locs ++ (noteHeap s.notes ++ noteRow b s))) ++ R)))) from List.perm_middle (l₁ := [_, _]))).turn (b := .map (locPairs L')) ho hm).perm (List.perm_middle (l₁ := [_, _])).symm
  refine ⟨h2.perm ?_, h.sl.only ho fun g' hg' e => h.sl.ne_map h.lb (by rw [hg', e])⟩
  exact perm_turn ([(b.vb, .cells 57 #[.map (some b.db), .map (some b.lb), .map (some b.mb), b.nv, .int .i64 s.scope]), (b.db, .map (entPairs s.defs)), (b.lb, .map (locPairs L')), (b.mb, .map (markPairs s.marks))]) (entHeap s.defs) (locHeap s.locs) (noteHeap s.notes ++ noteRow b s) R (locHeap L') R' p
/-- The map of one scope turns. -/
theorem VarsAt.reinner (h : VarsAt W w b s R) {l1 l2 : List Loc} {x : Loc} (hx : s.locs = l1 ++ x :: l2) {es' : List Ent} (ho : Only (· = x.g) w w') (hm : MapIs w' x.g (entPairs es')) (p : (entHeap x.es ++ R).Perm (entHeap es' ++ R')) :
    VarsAt W w' b (s.withLocs (l1 ++ { x with es := es' } :: l2)) R' := by
  have hmap := h.loc (x := x) (by rw [hx]; simp)
  have h1 := h.own
  unfold Vst.heap at h1
  rw [hx, locHeap_mid] at h1
  have h2 := (h1.perm (perm_pick _ _ _ _ _ _ _ _)).turn (b := .map (entPairs es')) ho hm
  have h3 : Own W w' ((x.g, .map (entPairs es')) :: ((entHeap es' ++ R') ++ (b.head s ++ (entHeap s.defs ++ (locHeap l1 ++ (locHeap l2 ++ (noteHeap s.notes ++ noteRow b s))))))) := h2.perm (List.Perm.cons _ (p.append_right _))
  refine ⟨?_, h.sl.only ho fun g' hg' e => h.sl.ne_map hmap (by rw [hg', e])⟩
  have e : (s.withLocs (l1 ++ { x with es := es' } :: l2)).heap b ++ R' = (b.head s ++ (entHeap s.defs ++ ((locHeap l1 ++ ((x.g, .map (entPairs es')) :: (entHeap es' ++ locHeap l2))) ++ (noteHeap s.notes ++ noteRow b s)))) ++ R' := by
    unfold Vst.heap
    rw [show (s.withLocs (l1 ++ { x with es := es' } :: l2)).locs = l1 ++ { x with es := es' } :: l2 from rfl, locHeap_mid]
    rw [show b.head (s.withLocs (l1 ++ { x with es := es' } :: l2)) = b.head s from by
      unfold Vb.head
      rw [show (s.withLocs (l1 ++ { x with es := es' } :: l2)).locs = l1 ++ { x with es := es' } :: l2 from rfl, hx, locPairs_mid, locPairs_mid]
      rfl]
    rfl
  rw [e]
  exact h3.perm (perm_pick _ _ _ _ _ _ _ _).symm
end
/-! ### Which scope, which value -/
theorem fndL_split {l : List Loc} {k : Int} {x : Loc} (h : fndL l k = some x) : ∃ l1 l2, l = l1 ++ x :: l2 ∧ x.k = k ∧ ∀ y ∈ l1, y.k ≠ k := by
  obtain ⟨h1, l1, l2, h2, h3⟩ := List.find?_eq_some_iff_append.1 h
  refine ⟨l1, l2, h2, (fndL_mem h).2, fun y hy e => ?_⟩
  have := h3 y hy
  simp [e] at this
theorem fndL_skip {l1 l : List Loc} {k : Int} (h : ∀ y ∈ l1, y.k ≠ k) : fndL (l1 ++ l) k = fndL l k := by
  unfold fndL
  rw [List.find?_append, List.find?_eq_none.2 fun y hy => by simpa using fun e => h y hy e.symm]
  rfl
theorem fndL_cons (x : Loc) (l : List Loc) (k : Int) : fndL (x :: l) k = if x.k = k then some x else fndL l k := by
  unfold fndL
  rw [List.find?_cons]
  by_cases h : x.k = k
  · subst h
    simp
  · have hb : (k == x.k) = false := by simpa using fun e => h e.symm
    simp [hb, h]
theorem loc_put {k : Int} (g : Nat) : ∀ l : List Loc, fndL l k = none → mput (locPairs l) (.int .i64 k) (.map (some g)) = locPairs (l ++ [⟨k, g, []⟩])
  | [], _ => rfl
  | e :: l, h => by
    simp only [fndL, List.find?_cons] at h
    split at h
    · cases h
    · next hne =>
      have ih := loc_put g l h
      simp only [locPairs] at ih
      simp only [locPairs, List.map_cons, mput, keyEq_int, hne, List.cons_append]
      rw [ih]
      simp
theorem lcl_eq {s : Vst} {k : Int} {x : Loc} (h : fndL s.locs k = some x) (n : Int) : s.lcl k n = fnd x.es n := by
  unfold Vst.lcl Vst.inner
  rw [h]
  rfl
end Go.Proofs.Ytempnakdpmmmoaa
