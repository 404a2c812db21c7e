/- Slices without a block of their own, and rows among a call's own blocks. No condition but those written. -/
import Derived.Test.YtempnakdpmmmoaaOwn
namespace Go.Proofs.Ytempnakdpmmmoaa
open Go.RowKit

/-- A slice without a block of its own is nil. -/
def RowOk (v : Value) (n : Nat) : Prop := v.ownBlock = none → v = .slice none 0 0 ∧ n = 0
theorem RowOk.nil : RowOk (.slice none 0 0) 0 := fun _ => ⟨rfl, rfl⟩
theorem RowOk.some {v : Value} {n g : Nat} (h : v.ownBlock = some g) : RowOk v n := fun e => by rw [h] at e; cases e
theorem Sl.rowOk {w : World} {T : TypeId} {k n : Nat} {v : Value} {xs : List Value} (h : Sl w T k v n xs) : RowOk v n := fun e => by
  rcases h.2 with h0 | ⟨g, off, cap, cs, rfl, _⟩
  · exact h0
  · simp [Value.ownBlock] at e
theorem Own.slOf {W w : World} {L : Heap} {T : TypeId} {k n : Nat} {v : Value} {xs : List Value} (h : Own W w L) (hs : ∀ x, x ∈ rowOf T k v n xs → x ∈ L) (hl : xs.length = n * k) (ok : RowOk v n) : Sl w T k v n xs := by
  cases hb : v.ownBlock with
  | none =>
    obtain ⟨rfl, rfl⟩ := ok hb
    exact ⟨hl, .inl ⟨rfl, rfl⟩⟩
  | some g => exact (h.row (g := g) (hs _ (by simp [rowOf_some hb]))).2
/-- A fresh slice joins. -/
theorem Own.joinRow {W w w' : World} {L : Heap} {T : TypeId} {k n : Nat} {v : Value} {xs : List Value} (h : Own W w L) (hb : Below w.heap.size w w') (hs : Sl w' T k v n xs) (hf : ∀ g, v.ownBlock = some g → w.heap.size ≤ g) : Own W w' (rowOf T k v n xs ++ L) := by
  have h2 := h.below hb
  cases e : v.ownBlock with
  | none => rw [rowOf_none e]; exact h2
  | some g =>
    rw [rowOf_some e]
    refine h2.join (fun hm => ?_) (Nat.le_trans h.bel.size (hf g e)) ⟨e, hs⟩
    obtain ⟨x, hx, rfl⟩ := List.mem_map.1 hm
    have := h.lt (g := x.1) (a := x.2) hx
    have := hf _ e
    omega
/-- A block is let go. -/
theorem Own.lose {W w w' : World} {L : Heap} {g : Nat} {a : Ast} (h : Own W w ((g, a) :: L)) (ho : Only (· = g) w w') : Own W w' L := by
  have hg := h.ge (List.mem_cons_self ..)
  have hn := h.nod
  rw [Heap.blocks_cons] at hn
  refine ⟨h.bel.trans (ho.below h.bel.size fun i hi => by rw [hi]; exact hg), (List.nodup_cons.1 hn).2, fun x hx => ?_⟩
  have hx' := h.all x (List.mem_cons_of_mem _ hx)
  refine ⟨hx'.1.same (ho.block _ hx'.1.lt fun e => ?_), hx'.2⟩
  exact (List.nodup_cons.1 hn).1 (by rw [← e]; exact List.mem_map.2 ⟨x, hx, rfl⟩)
theorem Own.loseRow {W w w' : World} {L : Heap} {T : TypeId} {k n : Nat} {v : Value} {xs : List Value} (h : Own W w (rowOf T k v n xs ++ L)) (ho : Only (fun b => v.ownBlock = some b) w w') : Own W w' L := by
  cases e : v.ownBlock with
  | none =>
    rw [rowOf_none e] at h
    exact h.below (ho.mono (G := fun _ => False) fun i _ hi => by rw [e] at hi; cases hi).below_none
  | some g =>
    rw [rowOf_some e] at h
    exact Own.lose h (ho.mono fun i _ hi => by rw [e] at hi; cases hi; rfl)
/-- A row of the call's own turns. -/
theorem Own.turnRow {W w w' : World} {L : Heap} {T : TypeId} {k n : Nat} {v : Value} {xs xs' : List Value} (h : Own W w (rowOf T k v n xs ++ L)) (ho : Only (fun b => v.ownBlock = some b) w w') (hs : Sl w' T k v n xs') : Own W w' (rowOf T k v n xs' ++ L) := by
  cases e : v.ownBlock with
  | none =>
    rw [rowOf_none e] at h ⊢
    exact h.below (ho.mono (G := fun _ => False) fun i _ hi => by rw [e] at hi; cases hi).below_none
  | some g =>
    rw [rowOf_some e] at h ⊢
    exact Own.turn h (ho.mono fun i _ hi => by rw [e] at hi; cases hi; rfl) ⟨e, hs⟩
theorem Own.newObj {W w : World} {L : Heap} (h : Own W w L) (o : Obj) : Own W (w.alloc o) ((w.heap.size, .obj o) :: L) := h.new _ (heap_alloc_new w _)
theorem Own.obj {W w : World} {L : Heap} {g : Nat} {o : Obj} (h : Own W w L) (hx : (g, Ast.obj o) ∈ L) : w.heap[g]? = some o := (h.all _ hx).1
end Go.Proofs.Ytempnakdpmmmoaa
