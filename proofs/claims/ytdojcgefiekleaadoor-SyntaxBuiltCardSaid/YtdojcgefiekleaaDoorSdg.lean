/- Texts of characters below 128; rows that a call has made; gap and piece. No condition but those written. -/
import Derived.Test.YtdojcgefiekleaaDoorSdd
import Derived.Test.YtdojcgefiekleaaDoorScn
import Derived.Test.YtdojcgefiekleaaDoorEnc
import Derived.Test.YtdojcgefiekleaaDoorSybc
namespace Go.Proofs.YtdojcgefiekleaaDoor
open Go.RowKit

/-- Characters below 128. -/
def Asc (s : List Nat) : Prop := ∀ c ∈ s, c < 128
theorem Asc.nil : Asc [] := fun _ h => by cases h
theorem Asc.app {s q : List Nat} (h : Asc s) (k : Asc q) : Asc (s ++ q) := fun c hc => by
  rcases List.mem_append.1 hc with hc | hc
  · exact h c hc
  · exact k c hc
theorem asc_gaps : ∀ q ∈ gapsL, Asc q := by
  unfold gapsL Asc
  decide
theorem asc_pieces : ∀ q ∈ piecesL, Asc q := by
  unfold piecesL Asc
  decide
theorem len_gaps : ∀ q ∈ gapsL, q.length ≤ 8 := by
  unfold gapsL
  decide
theorem len_pieces : ∀ q ∈ piecesL, q.length ≤ 8 := by
  unfold piecesL
  decide
theorem encL_asc : ∀ {s : List Nat}, Asc s → encL s = s.map byt
  | [], _ => rfl
  | c :: s, h => by
      have h1 : c < 128 := h c (List.mem_cons_self ..)
      have h2 := encL_asc (s := s) fun d hd => h d (List.mem_cons_of_mem _ hd)
      unfold encL at h2 ⊢
      rw [List.flatMap_cons, h2]
      unfold encU
      rw [if_pos h1]
      rfl
theorem strOf_nil : strOf [] = ⟨#[]⟩ := rfl
theorem strOf_app (s q : List Nat) : strOf s ++ strOf q = strOf (s ++ q) := by
  apply ByteArray.ext
  simp [strOf, encL, ByteArray.data_append]
theorem strA_size {s : List Nat} (h : Asc s) : (strOf s).size = s.length := by
  show (encL s).toArray.size = _
  rw [encL_asc h]
  simp
theorem strOf_chars {s : List Nat} (h : Asc s) : charsL (strOf s).data.toList = some s :=
  chars_str fun c hc => ⟨by have := h c hc; omega, .inl (by have := h c hc; omega)⟩
theorem strOf_at {s : List Nat} (h : Asc s) {k : Nat} (hk : k < s.length) : (strOf s).data[k]? = some (byt (s.getD k 0)) := by
  show (encL s).toArray[k]? = _
  rw [encL_asc h]
  simp [List.getD, List.getElem?_eq_getElem hk]
/-- Rows of integers that a call has made (since W0), no two in one block. -/
structure Rs (W0 w : World) (R : List (Value × List Int)) : Prop where
  bel : Below W0.heap.size W0 w
  sl : ∀ x ∈ R, Sl w 3 1 x.1 x.2.length (zints x.2) ∧ ∀ k, x.1.ownBlock = some k → W0.heap.size ≤ k
  dis : R.Pairwise fun x y => ∀ k, x.1.ownBlock = some k → y.1.ownBlock ≠ some k
section
variable {W0 w w' : World} {R A B : List (Value × List Int)}
theorem Rs.below (h : Rs W0 w R) (hb : Below w.heap.size w w') : Rs W0 w' R :=
  ⟨h.bel.trans (hb.mono h.bel.size), fun x hx => ⟨(h.sl x hx).1.only (Only.of_below (F := fun _ => False) hb) fun _ _ f => f, (h.sl x hx).2⟩, h.dis⟩
theorem Rs.turn {v v' : Value} {xs xs' : List Int} (h : Rs W0 w (A ++ (v, xs) :: B)) (hs : Sl w' 3 1 v' xs'.length (zints xs')) (ho : Only (fun b => v.ownBlock = some b) w w') (hv : v'.ownBlock = v.ownBlock ∨ ∃ g, v'.ownBlock = some g ∧ w.heap.size ≤ g) : Rs W0 w' (A ++ (v', xs') :: B) := by
  obtain ⟨h1, h2, h3⟩ := h
  have hm : (v, xs) ∈ A ++ (v, xs) :: B := by simp
  have hg : ∀ k, v'.ownBlock = some k → W0.heap.size ≤ k := fun k hk => by
    rcases hv with e | ⟨g, e, hg⟩
    · exact (h2 _ hm).2 k (e ▸ hk)
    · rw [e] at hk
      cases hk
      exact Nat.le_trans h1.size hg
  rw [List.pairwise_append, List.pairwise_cons] at h3
  obtain ⟨d1, ⟨d2, d3⟩, d4⟩ := h3
  have hne : ∀ x, (x ∈ A ∨ x ∈ B) → ∀ k, x.1.ownBlock = some k → v.ownBlock ≠ some k ∧ v'.ownBlock ≠ some k := fun x hx k hk => by
    have hx2 : x ∈ A ++ (v, xs) :: B := by rcases hx with hx | hx <;> simp [hx]
    have hvk : v.ownBlock ≠ some k := fun e => by
      rcases hx with hx | hx
      · exact d4 x hx (v, xs) (List.mem_cons_self ..) k hk e
      · exact d2 x hx k e hk
    refine ⟨hvk, fun e => ?_⟩
    rcases hv with e2 | ⟨g, e2, hg⟩
    · exact hvk (e2 ▸ e)
    · have := (h2 x hx2).1.lt k hk
      rw [e2] at e
      cases e
      omega
  refine ⟨h1.trans (ho.below h1.size fun i hi => (h2 _ hm).2 i hi), fun x hx => ?_, ?_⟩
  · rcases List.mem_append.1 hx with hx | hx
    · exact ⟨(h2 x (by simp [hx])).1.only ho fun k hk => (hne x (.inl hx) k hk).1, (h2 x (by simp [hx])).2⟩
    · rcases List.mem_cons.1 hx with rfl | hx
      · exact ⟨hs, hg⟩
      · exact ⟨(h2 x (by simp [hx])).1.only ho fun k hk => (hne x (.inr hx) k hk).1, (h2 x (by simp [hx])).2⟩
  · rw [List.pairwise_append, List.pairwise_cons]
    refine ⟨d1, ⟨fun x hx k hk e => (hne x (.inr hx) k e).2 hk, d3⟩, fun x hx y hy k hk e => ?_⟩
    rcases List.mem_cons.1 hy with rfl | hy
    · exact (hne x (.inl hx) k hk).2 e
    · exact d4 x hx y (List.mem_cons_of_mem _ hy) k hk e
end
theorem below_box' (w : World) (o : Obj) : Below w.heap.size w (w.alloc o) := (Below.refl _ w).alloc (Nat.le_refl _) _
set_option maxRecDepth 100000 in
set_option maxHeartbeats 2000000 in
theorem gapT_any (n : Int) (w : World) : Calls Tryd.prog 23 #[.int .i64 n] w fun e w' => ∃ q, q ∈ gapsL ∧ e = .returned (.string (strOf q)) ∧ Below w.heap.size w w' := by
  have h0 := pickZ_ge (n := n) (k := 5) (by omega)
  have h1 := pickZ_lt (n := n) (k := 5) (by omega)
  have HP := hide (fun W => pick_any n 5 W (by omega) (by omega))
  obtain ⟨k, hk⟩ : ∃ k, pickZ n 5 = k := ⟨_, rfl⟩
  rw [hk] at HP h0 h1
  clear hk
  have hB := hide (fun o => below_box' w o)
  rcases (show k = 0 ∨ k = 1 ∨ k = 2 ∨ k = 3 ∨ k = 4 by omega) with rfl | rfl | rfl | rfl | rfl
  all_goals
    clear h0 h1
    go_enter Tryd.func23, Tryd.ntmps23
    go_wp2_with (go_at_call 15; (with_reducible refine Calls.mono (HP.out _) ?_); rintro r w' ⟨rfl, rfl⟩)
    go_ret
  · exact ⟨[32], by decide, rfl, hB.out _⟩
  · exact ⟨[10], by decide, rfl, hB.out _⟩
  · exact ⟨[32, 59, 40, 93, 34, 10], by decide, rfl, hB.out _⟩
  · exact ⟨[32, 32], by decide, rfl, hB.out _⟩
  · exact ⟨[32, 59, 10, 59, 41, 10, 32], by decide, rfl, hB.out _⟩
set_option maxRecDepth 100000 in
set_option maxHeartbeats 2000000 in
theorem pieceT_any (n : Int) (w : World) : Calls Tryd.prog 24 #[.int .i64 n] w fun e w' => ∃ q, q ∈ piecesL ∧ e = .returned (.string (strOf q)) ∧ Below w.heap.size w w' := by
  have h0 := pickZ_ge (n := n) (k := 7) (by omega)
  have h1 := pickZ_lt (n := n) (k := 7) (by omega)
  have HP := hide (fun W => pick_any n 7 W (by omega) (by omega))
  obtain ⟨k, hk⟩ : ∃ k, pickZ n 7 = k := ⟨_, rfl⟩
  rw [hk] at HP h0 h1
  clear hk
  have hB := hide (fun o => below_box' w o)
  rcases (show k = 0 ∨ k = 1 ∨ k = 2 ∨ k = 3 ∨ k = 4 ∨ k = 5 ∨ k = 6 by omega) with rfl | rfl | rfl | rfl | rfl | rfl | rfl
  all_goals
    clear h0 h1
    go_enter Tryd.func24, Tryd.ntmps24
    go_wp2_with (go_at_call 15; (with_reducible refine Calls.mono (HP.out _) ?_); rintro r w' ⟨rfl, rfl⟩)
    go_ret
  · exact ⟨[97], by decide, rfl, hB.out _⟩
  · exact ⟨[102, 111, 111, 45, 49], by decide, rfl, hB.out _⟩
  · exact ⟨[34, 120, 41, 32, 92, 34, 40, 34], by decide, rfl, hB.out _⟩
  · exact ⟨[92, 40, 92, 41], by decide, rfl, hB.out _⟩
  · exact ⟨[34, 34], by decide, rfl, hB.out _⟩
  · exact ⟨[49, 50], by decide, rfl, hB.out _⟩
  · exact ⟨[98, 39, 99], by decide, rfl, hB.out _⟩
end Go.Proofs.YtdojcgefiekleaaDoor
