/- A range over a map that reads as a list of pairs. No condition but those written. -/
import Derived.Test.YtempnakdpmmmoaaBase
import Derived.Maps.RangeWalk
namespace Go.Proofs.Ytempnakdpmmmoaa
open Go.RowKit Go.Maps Go.ChangeMaps Go.MapKept

/-- A range over the map of block b is under way; the pairs of rest are still to come. -/
structure MapRg (w : World) (b r : Nat) (m rest : List (Value × Value)) : Prop where
  holds : ∃ es clock since seen c0, w.heap[b]? = some (.map es clock) ∧ es.toList.map (fun e => (e.key, e.val)) = m ∧ (es.toList.map (·.born)).Pairwise (· < ·) ∧ (∀ e ∈ es.toList, e.born < clock) ∧
    w.heap[r]? = some (.mapIter (some b) since seen c0) ∧ (∀ x ∈ es.toList, x.born < since) ∧ since ≤ c0 ∧ since ≤ clock ∧ (leftOf es seen).toList.map (fun e => (e.key, e.val)) = rest
section
variable {w w' : World} {b r : Nat} {m rest : List (Value × Value)} {P : Program}
theorem MapRg.is (h : MapRg w b r m rest) : MapIs w b m := by
  obtain ⟨es, clock, since, seen, c0, h1, h2, h3, h4, _⟩ := h.holds
  exact ⟨es, clock, h1, h2, h3, h4⟩
theorem MapRg.lt (h : MapRg w b r m rest) : r < w.heap.size := by
  obtain ⟨es, clock, since, seen, c0, h1, h2, h3, h4, h5, _⟩ := h.holds
  exact lt_of_heap h5
theorem MapRg.ne (h : MapRg w b r m rest) : b ≠ r := by
  obtain ⟨es, clock, since, seen, c0, h1, h2, h3, h4, h5, _⟩ := h.holds
  rintro rfl
  rw [h1] at h5
  cases h5
theorem MapRg.same (h : MapRg w b r m rest) (hb : w'.heap[b]? = w.heap[b]?) (hr : w'.heap[r]? = w.heap[r]?) : MapRg w' b r m rest := by
  obtain ⟨es, clock, since, seen, c0, h1, h2, h3, h4, h5, h6⟩ := h.holds
  exact ⟨es, clock, since, seen, c0, hb.trans h1, h2, h3, h4, hr.trans h5, h6⟩
theorem MapRg.below (h : MapRg w b r m rest) (hb : Below w.heap.size w w') : MapRg w' b r m rest := h.same (hb.block _ h.is.lt) (hb.block _ h.lt)
theorem MapIs.range {t k e : TypeId} (h : MapIs w b m) (ht : P.underlying t = some (.map k e)) : ∃ w', (Instr.range t (.map (some b))).run P w = .ok (.pointer (some ⟨w.heap.size, 0, none⟩)) w' ∧ MapRg w' b w.heap.size m m ∧ Below w.heap.size w w' := by
  have hlt := h.lt
  obtain ⟨es, clock, hb, hm, hp, hc⟩ := h.holds
  refine ⟨_, run_range_map w t k e b es clock ht hb, ⟨es, clock, clock, #[], clock, ((MapKept.heap_alloc w _).2 b hlt).trans hb, hm, hp, hc, (MapKept.heap_alloc w _).1, hc, Nat.le_refl _, Nat.le_refl _, ?_⟩, ?_⟩
  · rw [← hm]
    unfold leftOf
    rw [Array.toList_filter, List.filter_eq_self.2 (fun x _ => by simp)]
  · exact (Below.refl _ w).alloc (Nat.le_refl _) _
theorem filter_one {l : List MapEntry} (hp : (l.map (·.born)).Pairwise (· < ·)) {e : MapEntry} (he : e ∈ l) : ∃ A B, l = A ++ e :: B ∧ l.filter (fun x => !(x.born == e.born)) = A ++ B := by
  obtain ⟨A, B, rfl⟩ := List.append_of_mem he
  refine ⟨A, B, rfl, ?_⟩
  rw [List.map_append, List.map_cons, List.pairwise_append, List.pairwise_cons] at hp
  obtain ⟨_, ⟨h1, _⟩, h2⟩ := hp
  have hA : A.filter (fun x => !(x.born == e.born)) = A := List.filter_eq_self.2 fun x hx => by
    have := h2 x.born (List.mem_map.2 ⟨x, hx, rfl⟩) e.born (by simp)
    simp
    omega
  have hB : B.filter (fun x => !(x.born == e.born)) = B := List.filter_eq_self.2 fun x hx => by
    have := h1 x.born (List.mem_map.2 ⟨x, hx, rfl⟩)
    simp
    omega
  rw [List.filter_append, List.filter_cons, hA, hB]
  simp
/-- The step: the end, or a pair that was still to come. -/
theorem MapRg.next (h : MapRg w b r m rest) (ty : TypeId) :
    (rest = [] ∧ (Instr.next (.pointer (some ⟨r, 0, none⟩)) false ty).run P w = .ok (.tuple #[.bool false]) w) ∨
    ∃ k v A B w', rest = A ++ (k, v) :: B ∧ (Instr.next (.pointer (some ⟨r, 0, none⟩)) false ty).run P w = .ok (.tuple #[.bool true, k, v]) w' ∧ MapRg w' b r m (A ++ B) ∧ Only (· = r) w w' ∧
      (Instr.entry (.pointer (some ⟨r, 0, none⟩))).run P w' = .ok (.tuple #[k, v]) w' := by
  have hne := h.ne
  obtain ⟨es, clock, since, seen, c0, hb, hm, hp, hc, hr, hold, hsc, hsk, hrest⟩ := h.holds
  have hpL : ((leftOf es seen).toList.map (·.born)).Pairwise (· < ·) := by
    unfold leftOf
    rw [Array.toList_filter]
    exact hp.sublist ((List.filter_sublist ..).map _)
  rcases run_next_at (P := P) w ty r b since c0 seen es clock hr hb hold hsc with ⟨h0, hrun⟩ | ⟨e, he, w1, hal, hrun⟩
  · refine .inl ⟨?_, hrun⟩
    rw [← hrest]
    have : (leftOf es seen).toList = [] := List.eq_nil_of_length_eq_zero (by simpa using h0)
    rw [this]
    rfl
  · obtain ⟨hem, hes⟩ := mem_left he
    have hr1 : w1.heap[r]? = some (.mapIter (some b) since seen c0) := by rcases hal with rfl | rfl <;> exact hr
    have hb1 : w1.heap[b]? = some (.map es clock) := by rcases hal with rfl | rfl <;> exact hb
    have hset := MapKept.heap_set (o' := .mapIter (some b) since (seen.push e.born) clock) hr1
    have hb' : (setBlock w1 r (.mapIter (some b) since (seen.push e.born) clock)).heap[b]? = some (.map es clock) := (hset.2 b hne).trans hb1
    have he2 : e ∈ (leftOf es seen).toList := by simpa using he
    obtain ⟨A, B, e1, e2⟩ := filter_one hpL he2
    refine .inr ⟨e.key, e.val, A.map (fun e => (e.key, e.val)), B.map (fun e => (e.key, e.val)), _, by rw [← hrest, e1]; simp, hrun,
      ⟨es, clock, since, seen.push e.born, clock, hb', hm, hp, hc, hset.1, hold, hsk, hsk, ?_⟩, ?_, run_entry_at _ r b since seen es clock e hset.1 hb' hem (hp.imp fun h => Nat.ne_of_lt h)⟩
    · rw [← List.map_append, ← e2]
      unfold leftOf
      rw [Array.toList_filter, Array.toList_filter, List.filter_filter]
      congr 1
      refine List.filter_congr fun x _ => ?_
      rw [contains_push]
      cases seen.contains x.born <;> cases (x.born == e.born) <;> rfl
    · rcases hal with rfl | rfl <;> exact ⟨rfl, rfl, rfl, by simp [setBlock], fun i _ hi => hset.2 i hi⟩
/-- How many pairs are still to come, read off the world. -/
theorem MapRg.left (h : MapRg w b r m rest) : w.rangeLeft b r = rest.length := by
  obtain ⟨es, clock, since, seen, c0, hb, hm, hp, hc, hr, hold, hsc, hsk, hrest⟩ := h.holds
  unfold World.rangeLeft
  rw [hb, hr, ← hrest]
  simp
variable {ops : Array Oper} {rs : List Oper} {o : Oper} {a : Act} {Q : Exit → Act → World → Prop}
theorem wpList_range_is {t k e : TypeId} (hg : o.guard = none) (x : Operand) (hop : o.op = Op.range t x) (ht : P.underlying t = some (.map k e)) (hx : a.eval x = .map (some b)) (h : MapIs w b m)
    (hK : ∀ w', MapRg w' b w.heap.size m m → Below w.heap.size w w' → wpList P ops Q rs (a.put o.dst (.pointer (some ⟨w.heap.size, 0, none⟩))) w') : wpList P ops Q (o :: rs) a w := by
  refine wpList_plain hg fun K' hK' => ?_
  obtain ⟨w', hrun, r1, r2⟩ := h.range ht
  unfold Oper.wp
  simp [execOp, hop, hx, hrun, Result.andThen]
  exact hK' _ _ (hK w' r1 r2)
theorem wpList_next_is {α : Type} (f : α → Value × Value) (L : List α) (hg : o.guard = none) (it : Operand) (hop : o.op = Op.next it false) (hit : a.eval it = .pointer (some ⟨r, 0, none⟩)) (h : MapRg w b r m (L.map f))
    (hDone : L = [] → wpList P ops Q rs (a.put o.dst (.tuple #[.bool false])) w)
    (hMore : ∀ x A B w', L = A ++ x :: B → MapRg w' b r m ((A ++ B).map f) → Only (· = r) w w' → (Instr.entry (.pointer (some ⟨r, 0, none⟩))).run P w' = .ok (.tuple #[(f x).1, (f x).2]) w' → wpList P ops Q rs (a.put o.dst (.tuple #[.bool true, (f x).1, (f x).2])) w') : wpList P ops Q (o :: rs) a w := by
  refine wpList_plain hg fun K' hK' => ?_
  unfold Oper.wp
  rcases h.next (P := P) o.type with ⟨h0, hrun⟩ | ⟨k, v, A, B, w', h0, hrun, hrg, ho, hen⟩
  · simp [execOp, hop, hit, hrun, Result.andThen]
    exact hK' _ _ (hDone (List.map_eq_nil_iff.1 h0))
  · obtain ⟨A', C, rfl, rfl, hC⟩ := List.map_eq_append_iff.1 h0
    obtain ⟨x, B', rfl, hx, rfl⟩ := List.map_eq_cons_iff.1 hC
    obtain ⟨rfl, rfl⟩ : (f x).1 = k ∧ (f x).2 = v := by rw [hx]; exact ⟨rfl, rfl⟩
    simp [execOp, hop, hit, hrun, Result.andThen]
    exact hK' _ _ (hMore x A' B' w' rfl (by rw [List.map_append]; exact hrg) ho hen)
end
end Go.Proofs.Ytempnakdpmmmoaa
