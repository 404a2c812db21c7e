/- A set of buffers: what its acts leave. Plain. -/
import Derived.Test.YtnbhejbpofjamaaGreatDoorBfb
namespace Go.Proofs.YtnbhejbpofjamaaGreatDoor
open Go.RowKit

def hasN (l : List Nb) (n : ByteArray) : Bool := l.any fun x => decide (x.name = n)
theorem hasN_true {l : List Nb} {n : ByteArray} : hasN l n = true ↔ ∃ x ∈ l, x.name = n := by simp [hasN]
theorem hasN_false {l : List Nb} {n : ByteArray} : hasN l n = false ↔ ∀ x ∈ l, x.name ≠ n := by simp [hasN]
def addS (s : Bst) (n : ByteArray) (g bp : Nat) : Bst := { s with all := s.all ++ [⟨s.next, g, bp, n⟩], order := s.order ++ [s.next], next := s.next + 1 }
def creE (s : Bst) (n : ByteArray) : Int := if chkE n ≠ 0 then chkE n else if hasN s.all n = true then 17 else if 200 ≤ s.all.length then 7 else 0
def leaveS (s : Bst) (k : Nat) : Bst := { s with order := s.order.erase k }
def kilE (s : Bst) (k : Int) : Int := if knownE s.all k ≠ 0 then knownE s.all k else if s.all.length = 1 then 9 else 0
def kilS (s : Bst) (k : Nat) : Bst := { s with all := delB s.all (k : Int), order := s.order.erase k, cur := if s.cur = k then (s.order.erase k).headD 0 else s.cur }
def swiS (s : Bst) (k : Nat) : Bst := { s with order := k :: s.order.erase k, cur := k }
def burS (s : Bst) (k : Nat) : Bst := { s with order := s.order.erase k ++ [k] }
structure Bst.Ok (s : Bst) : Prop where
  nod : (s.all.map Nb.id).Nodup
  mem : ∀ k, k ∈ s.order ↔ k ∈ s.all.map Nb.id
  onod : s.order.Nodup
  lt : ∀ k ∈ s.order, k < s.next
theorem Bst.Ok.len {s : Bst} (h : s.Ok) : s.order.length = s.all.length := by
  have h1 := nodup_len (s.all.map Nb.id) s.order h.onod fun k hk => (h.mem k).1 hk
  have h2 := nodup_len s.order (s.all.map Nb.id) h.nod fun k hk => (h.mem k).2 hk
  rw [List.length_map] at h1 h2
  omega
theorem fndB_of {l : List Nb} {k : Nat} (h : k ∈ l.map Nb.id) : ∃ x, fndB l (k : Int) = some x ∧ x ∈ l ∧ x.id = k := by
  obtain ⟨y, hy, e⟩ := List.mem_map.1 h
  cases hf : fndB l (k : Int) with
  | none => exact absurd (by rw [← e]) (fndB_none hf y hy)
  | some x =>
    obtain ⟨h1, h2⟩ := fndB_mem hf
    exact ⟨x, rfl, h1, by omega⟩
theorem known_nat {s : Bst} (h : s.Ok) {k : Int} (hk : knownE s.all k = 0) : ∃ j : Nat, k = (j : Int) ∧ j ∈ s.order ∧ ∃ x, fndB s.all k = some x ∧ x ∈ s.all ∧ x.id = j := by
  unfold knownE at hk
  cases hf : fndB s.all k with
  | none => rw [hf] at hk; simp at hk
  | some x =>
    obtain ⟨h1, h2⟩ := fndB_mem hf
    exact ⟨x.id, h2.symm, (h.mem _).2 (List.mem_map.2 ⟨x, h1, rfl⟩), x, rfl, h1, rfl⟩
theorem known_of {s : Bst} (h : s.Ok) {k : Nat} (hk : k ∈ s.order) : knownE s.all (k : Int) = 0 := by
  obtain ⟨x, hx, _⟩ := fndB_of ((h.mem k).1 hk)
  unfold knownE
  rw [hx]
  rfl
theorem unknown_of {s : Bst} (h : s.Ok) {k : Int} (hk : ∀ j ∈ s.order, (j : Int) ≠ k) : knownE s.all k = 8 := by
  unfold knownE
  cases hf : fndB s.all k with
  | none => rfl
  | some x =>
    obtain ⟨h1, h2⟩ := fndB_mem hf
    exact absurd h2 (hk _ ((h.mem _).2 (List.mem_map.2 ⟨x, h1, rfl⟩)))
theorem Bst.Ok.fresh {s : Bst} (h : s.Ok) : fndB s.all (s.next : Int) = none := by
  cases hf : fndB s.all (s.next : Int) with
  | none => rfl
  | some x =>
    obtain ⟨h1, h2⟩ := fndB_mem hf
    have := h.lt x.id ((h.mem _).2 (List.mem_map.2 ⟨x, h1, rfl⟩))
    omega
theorem Bst.Ok.addS {s : Bst} (h : s.Ok) (n : ByteArray) (g bp : Nat) : (addS s n g bp).Ok := by
  have hn : s.next ∉ s.order := fun hk => Nat.lt_irrefl _ (h.lt _ hk)
  refine ⟨?_, fun k => ?_, ?_, fun k hk => ?_⟩
  · show ((s.all ++ [(⟨s.next, g, bp, n⟩ : Nb)]).map Nb.id).Nodup
    rw [List.map_append, List.nodup_append]
    refine ⟨h.nod, by simp, fun a ha b hb => ?_⟩
    simp at hb
    rintro rfl
    exact hn (by rw [← hb]; exact (h.mem _).2 ha)
  · show k ∈ s.order ++ [s.next] ↔ k ∈ (s.all ++ [(⟨s.next, g, bp, n⟩ : Nb)]).map Nb.id
    rw [List.map_append, List.mem_append, List.mem_append, h.mem k]
    simp
  · show (s.order ++ [s.next]).Nodup
    rw [List.nodup_append]
    refine ⟨h.onod, by simp, fun a ha b hb => ?_⟩
    simp at hb
    rintro rfl
    exact hn (by rw [← hb]; exact ha)
  · show k < s.next + 1
    rcases List.mem_append.1 (show k ∈ s.order ++ [s.next] from hk) with h1 | h1
    · have := h.lt _ h1; omega
    · simp at h1; omega
theorem delB_ids (l : List Nb) (k : Nat) : (delB l (k : Int)).map Nb.id = (l.map Nb.id).erase k := by
  induction l with
  | nil => rfl
  | cons x l ih =>
    simp only [delB, List.eraseP_cons, List.map_cons, List.erase_cons] at ih ⊢
    by_cases e : x.id = k
    · subst e
      simp
    · have h1 : ((k : Int) == (x.id : Int)) = false := by simp; omega
      have h2 : (x.id == k) = false := by simpa using e
      rw [h1, h2]
      simp [ih]
theorem Bst.Ok.kilS {s : Bst} (h : s.Ok) (k : Nat) : (kilS s k).Ok := by
  refine ⟨?_, fun j => ?_, h.onod.erase k, fun j hj => h.lt j (List.mem_of_mem_erase hj)⟩
  · show ((delB s.all (k : Int)).map Nb.id).Nodup
    rw [delB_ids]
    exact h.nod.erase k
  · show j ∈ s.order.erase k ↔ j ∈ (delB s.all (k : Int)).map Nb.id
    rw [delB_ids, h.onod.mem_erase_iff, h.nod.mem_erase_iff, h.mem j]
theorem Bst.Ok.ofOrder {s t : Bst} (h : s.Ok) (h1 : t.all.map Nb.id = s.all.map Nb.id) (h2 : ∀ k, k ∈ t.order ↔ k ∈ s.order) (h3 : t.order.Nodup) (h4 : t.next = s.next) : t.Ok :=
  ⟨by rw [h1]; exact h.nod, fun k => by rw [h2, h1, h.mem], h3, fun k hk => by rw [h4]; exact h.lt k ((h2 k).1 hk)⟩
theorem Bst.Ok.swiS {s : Bst} (h : s.Ok) {k : Nat} (hk : k ∈ s.order) : (swiS s k).Ok := by
  refine h.ofOrder rfl (fun j => ?_) ?_ rfl
  · show j ∈ k :: s.order.erase k ↔ _
    rw [List.mem_cons, h.onod.mem_erase_iff]
    constructor
    · rintro (rfl | h1)
      · exact hk
      · exact h1.2
    · intro h1
      by_cases e : j = k
      · exact .inl e
      · exact .inr ⟨e, h1⟩
  · show (k :: s.order.erase k).Nodup
    rw [List.nodup_cons]
    exact ⟨fun h1 => ((h.onod.mem_erase_iff).1 h1).1 rfl, h.onod.erase k⟩
theorem Bst.Ok.burS {s : Bst} (h : s.Ok) {k : Nat} (hk : k ∈ s.order) : (burS s k).Ok := by
  refine h.ofOrder rfl (fun j => ?_) ?_ rfl
  · show j ∈ s.order.erase k ++ [k] ↔ _
    rw [List.mem_append, h.onod.mem_erase_iff, List.mem_singleton]
    constructor
    · rintro (h1 | rfl)
      · exact h1.2
      · exact hk
    · intro h1
      by_cases e : j = k
      · exact .inr e
      · exact .inl ⟨e, h1⟩
  · show (s.order.erase k ++ [k]).Nodup
    rw [List.nodup_append]
    refine ⟨h.onod.erase k, by simp, fun a ha b hb => ?_⟩
    simp at hb
    rintro rfl
    exact ((h.onod.mem_erase_iff).1 ha).1 hb
/-- An element's place, and the list without it. -/
theorem erase_at {L : List Nat} {k i : Nat} (h : L[i]? = some k) (h1 : ∀ j, j < i → L[j]? ≠ some k) : L.erase k = L.take i ++ L.drop (i + 1) := by
  induction L generalizing i with
  | nil => simp at h
  | cons x L ih =>
    cases i with
    | zero =>
      simp at h
      subst h
      simp
    | succ i =>
      have hx : (x == k) = false := by
        have := h1 0 (by omega)
        simpa using this
      rw [List.erase_cons, hx]
      simp only [Bool.false_eq_true, if_false, List.take_succ_cons, List.drop_succ_cons, List.cons_append, List.cons.injEq, true_and]
      exact ih (by simpa using h) fun j hj => by
        have := h1 (j + 1) (by omega)
        simpa using this
end Go.Proofs.YtnbhejbpofjamaaGreatDoor
