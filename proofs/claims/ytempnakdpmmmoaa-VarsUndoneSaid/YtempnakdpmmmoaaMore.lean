/- Plain lemmas, more of them: slices whose elements take several cells. No condition. -/
import Derived.Test.YtempnakdpmmmoaaBase
namespace Go.Proofs.Ytempnakdpmmmoaa
open Go.RowKit

/-- The cells of a list of elements. -/
def rows {α : Type} (enc : α → List Value) (L : List α) : List Value := L.flatMap enc
section
variable {α : Type} {enc : α → List Value} {k : Nat}
theorem rows_nil : rows enc [] = [] := rfl
theorem rows_len (hk : ∀ x, (enc x).length = k) (L : List α) : (rows enc L).length = L.length * k := by
  induction L with
  | nil => simp [rows]
  | cons s L ih => simp only [rows, List.flatMap_cons, List.length_append, hk, List.length_cons] at ih ⊢; rw [ih, Nat.add_mul, Nat.one_mul, Nat.add_comm]
theorem rows_append (L M : List α) : rows enc (L ++ M) = rows enc L ++ rows enc M := by simp [rows]
theorem rows_one (x : α) : rows enc [x] = enc x := by simp [rows]
theorem rows_cons (x : α) (L : List α) : rows enc (x :: L) = enc x ++ rows enc L := by simp [rows]
theorem rows_cells {L : List α} (h : ∀ x ∈ L, ∀ u ∈ enc x, u.oneCell' = true) : ∀ u ∈ rows enc L, u.oneCell' = true := by
  intro u hu
  obtain ⟨x, hx, hu⟩ := List.mem_flatMap.1 hu
  exact h x hx u hu
theorem rows_at (hk : ∀ x, (enc x).length = k) : ∀ (L : List α) (i j : Nat) (x : α), L[i]? = some x → j < k → (rows enc L)[i * k + j]? = (enc x)[j]?
  | [], i, j, x, h, _ => by simp at h
  | y :: L, 0, j, x, h, hj => by
    simp at h
    subst h
    rw [rows_cons, Nat.zero_mul, Nat.zero_add, List.getElem?_append_left (by rw [hk]; exact hj)]
  | y :: L, i + 1, j, x, h, hj => by
    have ih := rows_at hk L i j x (by simpa using h) hj
    have e : (i + 1) * k + j = (enc y).length + (i * k + j) := by rw [hk, Nat.add_mul, Nat.one_mul]; omega
    rw [rows_cons, e, List.getElem?_append_right (by omega), Nat.add_sub_cancel_left]
    exact ih
theorem rows_set (hk : ∀ x, (enc x).length = k) (y : α) (j : Nat) (u : Value) : ∀ (L : List α) (i : Nat) (x : α), L[i]? = some x → j < k → (enc x).set j u = enc y → (rows enc L).set (i * k + j) u = rows enc (L.set i y)
  | [], i, x, h, _, _ => by simp at h
  | z :: L, 0, x, h, hj, he => by
    simp at h
    subst h
    rw [rows_cons, Nat.zero_mul, Nat.zero_add, List.set_append_left _ _ (by rw [hk]; exact hj), he, List.set_cons_zero, rows_cons]
  | z :: L, i + 1, x, h, hj, he => by
    have ih := rows_set hk y j u L i x (by simpa using h) hj he
    have e : (i + 1) * k + j = (enc z).length + (i * k + j) := by rw [hk, Nat.add_mul, Nat.one_mul]; omega
    rw [rows_cons, e, List.set_append_right _ _ (by omega), Nat.add_sub_cancel_left, ih, List.set_cons_succ, rows_cons]
theorem rows_take (hk : ∀ x, (enc x).length = k) : ∀ (m : Nat) (L : List α), (rows enc L).take (m * k) = rows enc (L.take m)
  | 0, L => by simp [rows]
  | m + 1, [] => by simp [rows]
  | m + 1, x :: L => by
    have ih := rows_take hk m L
    rw [rows_cons, List.take_succ_cons, rows_cons, ← ih, List.take_append, hk, List.take_of_length_le (by rw [hk, Nat.add_mul, Nat.one_mul]; omega)]
    congr 2
    rw [Nat.add_mul, Nat.one_mul]
    omega
theorem rows_drop (hk : ∀ x, (enc x).length = k) : ∀ (m : Nat) (L : List α), (rows enc L).drop (m * k) = rows enc (L.drop m)
  | 0, L => by simp [rows]
  | m + 1, [] => by simp [rows]
  | m + 1, x :: L => by
    have ih := rows_drop hk m L
    rw [rows_cons, List.drop_succ_cons, ← ih, List.drop_append, hk, List.drop_eq_nil_of_le (by rw [hk, Nat.add_mul, Nat.one_mul]; omega), List.nil_append]
    congr 1
    rw [Nat.add_mul, Nat.one_mul]
    omega

/-- Cell j of element i of a slice. -/
theorem Sl.fld {w : World} {T : TypeId} {v : Value} {L : List α} (hk : ∀ x, (enc x).length = k) (h : Sl w T k v L.length (rows enc L)) (hn : 0 < L.length) :
    ∃ g off c, v = .slice (some ⟨g, off, none⟩) L.length c ∧ L.length ≤ c ∧ c ≤ maxLen ∧ g < w.heap.size ∧ (∀ j, w.frozen? ⟨g, j, none⟩ = false) ∧
      (∀ i x j u, L[i]? = some x → (enc x)[j]? = some u → w.cell? ⟨g, off + i * k + j, none⟩ = some u) := by
  obtain ⟨g, off, c, hv, h1, h2, h3, h4, h5⟩ := h.at_ hn
  refine ⟨g, off, c, hv, h1, h2, h5, h4, fun i x j u hi hj => ?_⟩
  have hjk : j < k := by rw [← hk x]; exact (List.getElem?_eq_some_iff.1 hj).1
  rw [Nat.add_assoc]
  exact h3 _ _ ((rows_at hk L i j x hi hjk).trans hj)
theorem Rd.fld {w : World} {v : Value} {L : List α} (hk : ∀ x, (enc x).length = k) (h : Rd w v k L.length (rows enc L)) (hn : 0 < L.length) :
    ∃ g off c, v = .slice (some ⟨g, off, none⟩) L.length c ∧
      (∀ i x j u, L[i]? = some x → (enc x)[j]? = some u → w.cell? ⟨g, off + i * k + j, none⟩ = some u) := by
  obtain ⟨A, c, rfl, hl, hc⟩ := h
  obtain ⟨g, off, rfl, h3⟩ := hc hn
  refine ⟨g, off, c, rfl, fun i x j u hi hj => ?_⟩
  have hjk : j < k := by rw [← hk x]; exact (List.getElem?_eq_some_iff.1 hj).1
  rw [Nat.add_assoc]
  exact h3 _ _ ((rows_at hk L i j x hi hjk).trans hj)
end

theorem rd_elem (w : World) (e : TypeId) (k : Nat) (cs : List Value) (hk : cs.length = k) : Rd (w.alloc (.cells cs.toArray e)) (.slice (some ⟨w.heap.size, 0, none⟩) 1 1) k 1 cs := by
  have h := Sl.new w e k cs.toArray 1 1 (Nat.le_refl _) (by simp [maxLen]) (by simp; omega)
  have := h.rd
  rw [Nat.one_mul] at this
  simpa [List.take_of_length_le (Nat.le_of_eq hk)] using this

theorem Rd.cells {w : World} {A : Option Addr} {n m c k : Nat} {xs : List Value} (h : Rd w (.slice A m c) k n xs) (hn : 0 < n) :
    ∃ b off, A = some ⟨b, off, none⟩ ∧ ∀ j u, xs[j]? = some u → w.cell? ⟨b, off + j, none⟩ = some u := by
  obtain ⟨A', c', he, _, hc⟩ := h
  obtain ⟨b, off, hA, hx⟩ := hc hn
  injection he with ha _ _
  exact ⟨b, off, ha.trans hA, hx⟩

theorem rd_row (w : World) (e : TypeId) (k : Nat) (cs : Array Value) (n : Nat) (xs : List Value) (h : cs.toList = xs) (hn : xs.length = n * k) (hm : n ≤ maxLen) : Rd (w.alloc (.cells cs e)) (.slice (some ⟨w.heap.size, 0, none⟩) n n) k n xs := by
  subst h
  have h := Sl.new w e k cs n n (Nat.le_refl _) hm (by simp at hn; omega)
  have := h.rd
  rwa [List.take_of_length_le (by rw [hn]; exact Nat.le_refl _)] at this

end Go.Proofs.Ytempnakdpmmmoaa
