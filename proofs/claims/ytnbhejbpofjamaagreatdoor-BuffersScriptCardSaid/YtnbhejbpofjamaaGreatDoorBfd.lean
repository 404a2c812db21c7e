/- A set of buffers: the order. No condition but those written. -/
import Derived.Test.YtnbhejbpofjamaaGreatDoorBfc
import Derived.Test.YtnbhejbpofjamaaGreatDoorBsl
import Derived.Shelf.Slices.Turned
namespace Go.Proofs.YtnbhejbpofjamaaGreatDoor
open Go.RowKit

theorem eql_intsl (w : World) (a : Option Addr) (n c : Nat) : (binOp .eql 32 (.slice a n c) (.slice none 0 0)).run Tryz.prog w = .ok (.bool a.isNone) w := Lib.run_eql_slice_nil w _ _ a n c 0 0 Tryz.underlying32
attribute [local go_sem] eql_intsl
def FreshI (w : World) (T n : Nat) (xs : List Value) (e : Ending) (w' : World) : Prop := ∃ v, e = .returned v ∧ Sl w' T 1 v n xs ∧ (∀ g, v.ownBlock = some g → w.heap.size ≤ g) ∧ Below w.heap.size w w'
set_option maxRecDepth 100000 in
set_option maxHeartbeats 2000000 in
theorem clone_ints_some (a : Addr) (n c : Nat) (xs : List Value) (w : World) (h : Rd w (.slice (some a) n c) 1 n xs) (hx : ∀ u ∈ xs, u.oneCell' = true) (hN : n ≤ 1000000) :
    Calls Tryz.prog 45 #[.slice (some a) n c] w (FreshI w 3 n xs) := by
  obtain ⟨i0, hi, hz0, hz1, hz2⟩ := info_parts info_int
  have he := Sl.new w 3 1 #[] 0 0 (Nat.le_refl _) (by simp [maxLen]) (by simp)
  have he2 : Sl (w.alloc (.cells #[] 3)) 3 1 (.slice (some ⟨w.heap.size, 0, none⟩) 0 0) 0 [] := by simpa using he
  have hB : Below w.heap.size w (w.alloc (.cells #[] 3)) := (Below.refl _ _).alloc (Nat.le_refl _) _
  have hr : Rd (w.alloc (.cells #[] 3)) (.slice (some a) n c) 1 n xs := h.only (Only.of_below hB) fun _ _ f => f
  go_enter Tryz.func45, Tryz.ntmps45
  go_wp2_with (at_builtin; go_loud (refine wpList_append_sl rfl (.tmp 5) (.tmp 6) 32 rfl 3 i0 _ 1 8 Tryz.underlying32 hi hz0 hz1 hz2 rfl _ 0 [] rfl he2 _ rfl n xs hr hx ?b1 ?b2 ?_))
  case b1 => unfold maxLen; omega
  case b2 => omega
  intro v' w' hsl honly hv'
  have HB := hide (hB.trans (honly.below (B := w.heap.size) (by simp) fun i hi => by simp [Value.ownBlock] at hi; omega))
  have HS := hide (show Sl w' 3 1 v' n xs by simpa using hsl)
  have HG := hide (show ∀ g, v'.ownBlock = some g → w.heap.size ≤ g from fun g hg => by
    rcases hv' with e | e <;> rw [e] at hg <;> simp [Value.ownBlock] at hg <;> omega)
  clear hsl honly hv' hB he h
  go_wp2
  go_ret
  exact ⟨_, rfl, HS.out, HG.out, HB.out⟩
set_option maxRecDepth 100000 in
set_option maxHeartbeats 4000000 in
theorem clone_ints_none (c : Nat) (w : World) : Calls Tryz.prog 45 #[.slice none 0 c] w (FreshI w 3 0 []) := by
  have HF := hide (show FreshI w 3 0 [] (.returned (.slice none 0 0)) w from ⟨_, rfl, Sl.nil _ _ _, fun g hg => by simp [Value.ownBlock] at hg, Below.refl _ _⟩)
  go_enter Tryz.func45, Tryz.ntmps45
  go_wp2
  go_ret
  exact HF.out
theorem clone_ints (v : Value) (n : Nat) (xs : List Value) (w : World) (h : Rd w v 1 n xs) (hx : ∀ u ∈ xs, u.oneCell' = true) (hN : n ≤ 1000000) :
    Calls Tryz.prog 45 #[v] w (FreshI w 3 n xs) := by
  obtain ⟨A, c, rfl, hl, hr⟩ := id h
  cases A with
  | some a => exact clone_ints_some a n c xs w h hx hN
  | none =>
    have h0 : n = 0 := by
      rcases Nat.eq_zero_or_pos n with h0 | h0
      · exact h0
      · obtain ⟨b, off, hA, _⟩ := hr h0
        cases hA
    subst h0
    have := List.eq_nil_of_length_eq_zero (by simpa using hl)
    subst this
    exact clone_ints_none c w
theorem Rd.belowN {w w1 : World} {v : Value} {k n : Nat} {xs : List Value} (h : Rd w v k n xs) (hb : Below w.heap.size w w1) : Rd w1 v k n xs := h.only (Only.of_below hb) fun _ _ f => f
theorem rd_cells {w : World} {A : Option Addr} {n c : Nat} {xs : List Value} (h : Rd w (.slice A n c) 1 n xs) (hn : 0 < n) : ∃ b off, A = some ⟨b, off, none⟩ ∧ ∀ W, Below w.heap.size w W → ∀ j u, xs[j]? = some u → W.cell? ⟨b, off + j, none⟩ = some u := by
  obtain ⟨A', c', e1, _, e2⟩ := id h
  injection e1 with e3 _ e4
  obtain ⟨b, off, e5, _⟩ := e2 hn
  refine ⟨b, off, e3.trans e5, fun W hW j u hu => ?_⟩
  obtain ⟨A2, c2, f1, _, f2⟩ := h.belowN hW
  obtain ⟨b2, off2, f3, f4⟩ := f2 hn
  injection f1 with f5 _ _
  have := (e3.trans e5).symm.trans (f5.trans f3)
  injection this with this
  injection this with g1 g2 _
  subst g1 g2
  exact f4 j u hu
theorem ints_at {l : List Nat} {k x : Nat} (h : l[k]? = some x) : (ints l)[k]? = some (.int .i64 (x : Int)) := by simp [ints, h]
set_option maxRecDepth 100000 in
set_option maxHeartbeats 2000000 in
theorem same_ints (W : World) (l : List Nat) (n1 n2 : Nat) (A B : Option Addr) (c d : Nat) (e1 : n1 = l.length) (e2 : n2 = l.length) (ha : Rd W (.slice A n1 c) 1 n1 (ints l)) (hb : Rd W (.slice B n2 d) 1 n2 (ints l)) (hl : l.length ≤ 1000000) :
    Calls Tryz.prog 19 #[.slice A n1 c, .slice B n2 d] W fun e w' => e = .returned (.bool true) ∧ Below W.heap.size W w' := by
  obtain rfl : n1 = n2 := e1.trans e2.symm
  have HA := hide ha
  have HB := hide hb
  have HN := hide e1
  have hl2 : (n1 : Int) ≤ 1000000 := by omega
  clear ha hb e1 e2 hl
  go_enter Tryz.func19, Tryz.ntmps19
  go_wp2
  go_loopw [5] (fun i wr => ∃ k q : Nat, k ≤ n1 ∧ i = .int .i64 (k : Int) ∧ wr = W.drewN q) (fun i _ => n1 - (intOf i).toNat)
  case atStart => exact ⟨0, 0, Nat.zero_le _, rfl, rfl⟩
  case round =>
    obtain ⟨k, q, hk, rfl, rfl⟩ := hrel
    by_cases hlt : k < n1
    · have hz2 : decide ((k : Int) < (n1 : Int)) = true := by simp; omega
      have hz3 : (k : Int) < (n1 : Int) := by omega
      obtain ⟨x, hx⟩ : ∃ x, l[k]? = some x := ⟨_, List.getElem?_eq_getElem (by rw [← HN.out]; exact hlt)⟩
      obtain ⟨g1, o1, rfl, h3⟩ := rd_cells HA.out (by omega)
      obtain ⟨g2, o2, rfl, h4⟩ := rd_cells HB.out (by omega)
      have p0 := h3 W (Below.refl _ _) k _ (ints_at hx)
      have q0 := h4 W (Below.refl _ _) k _ (ints_at hx)
      have HLT := hide hlt
      clear hx h3 h4 hk hlt
      go_wp2
      go_region
      go_wp2
      go_roundw
      case rel => exact ⟨k + 1, q + 1, HLT.out, by go_num, rfl⟩
      case measure => have := HLT.out; simp [intOf]; omega
    · have hz2 : decide ((k : Int) < (n1 : Int)) = false := by simp; omega
      obtain rfl : k = n1 := by omega
      clear hk hlt
      go_wp2
      go_ret
      exact ⟨rfl, below_drewN (Below.refl _ _) q⟩
section
variable {W w w' : World} {b : Bb} {s : Bst} {R : Heap}
/-- A fresh list that reads as the order. -/
theorem list_any (h : BAt W w b s R) (hl : s.order.length ≤ 1000000) : Calls Tryz.prog 12 #[.pointer (some ⟨b.sb, 0, none⟩)] w fun e w' => ∃ A c, e = .returned (.slice A s.order.length c) ∧ Rd w' (.slice A s.order.length c) 1 s.order.length (ints s.order) ∧ Below w.heap.size w w' := by
  have c1 := h.c1
  have HN := hide (bnone_any h)
  have HC := hide (clone_ints b.ov s.order.length (ints s.order) w h.sl.rd (ints_one _) hl)
  clear h hl
  go_enter Tryz.func12, Tryz.ntmps12
  go_wp2_with (first | (go_at_call 44; refine (Calls.mono HN.out) ?_; rintro e w' ⟨rfl, rfl⟩) | (go_at_call 45; refine (Calls.mono HC.out) ?_; rintro e w' ⟨v, rfl, hs, hf, hb⟩))
  have HS := hide hs
  have HB := hide hb
  obtain ⟨A, c, rfl, _, _⟩ := hs.form
  clear hs hf hb
  go_ret
  exact ⟨A, c, rfl, HS.out.rd, HB.out⟩
end
end Go.Proofs.YtnbhejbpofjamaaGreatDoor
