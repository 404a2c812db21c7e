/- slices.Clone at pieces and at properties. No condition but those written. -/
import Derived.Test.YtgiogmbopiblmaaPpf
import Derived.Test.YtgiogmbopiblmaaPpd
namespace Go.Proofs.Ytgiogmbopiblmaa
open Go.RowKit

theorem eql_prsl (w : World) (a : Option Addr) (n c : Nat) : (binOp .eql 32 (.slice a n c) (.slice none 0 0)).run Try.prog w = .ok (.bool a.isNone) w := Lib.run_eql_slice_nil w _ _ a n c 0 0 Try.underlying32
theorem eql_pcsl (w : World) (a : Option Addr) (n c : Nat) : (binOp .eql 67 (.slice a n c) (.slice none 0 0)).run Try.prog w = .ok (.bool a.isNone) w := Lib.run_eql_slice_nil w _ _ a n c 0 0 Try.underlying67
attribute [local go_sem] eql_prsl eql_pcsl
/-- A slice of the call's own, of cells of three words, is handed back. -/
def FreshK (w : World) (T n : Nat) (xs : List Value) (e : Ending) (w' : World) : Prop := ∃ v, e = .returned v ∧ Sl w' T 3 v n xs ∧ (∀ g, v.ownBlock = some g → w.heap.size ≤ g) ∧ Below w.heap.size w w'
set_option maxRecDepth 100000 in
set_option maxHeartbeats 2000000 in
theorem clone_props_some (a : Addr) (n c : Nat) (xs : List Value) (w : World) (h : Rd w (.slice (some a) n c) 3 n xs) (hx : ∀ u ∈ xs, u.oneCell' = true) (hN : n ≤ 1000000) :
    Calls Try.prog 50 #[.slice (some a) n c] w (FreshK w 36 n xs) := by
  obtain ⟨i0, hi, hz0, hz1, hz2⟩ := info_parts info_pr
  have he := Sl.new w 36 3 #[] 0 0 (Nat.le_refl _) (by simp [maxLen]) (by simp)
  have he2 : Sl (w.alloc (.cells #[] 36)) 36 3 (.slice (some ⟨w.heap.size, 0, none⟩) 0 0) 0 [] := by simpa using he
  have hB : Below w.heap.size w (w.alloc (.cells #[] 36)) := (Below.refl _ _).alloc (Nat.le_refl _) _
  have hr : Rd (w.alloc (.cells #[] 36)) (.slice (some a) n c) 3 n xs := h.only (Only.of_below hB) fun _ _ f => f
  go_enter Try.func50, Try.ntmps50
  go_wp2_with (at_builtin; go_loud (refine wpList_append_sl rfl (.tmp 5) (.tmp 6) 32 rfl 36 i0 (.agg #[.int .i64 0, .int .i64 0, .int .i64 0]) 3 24 Try.underlying32 hi hz0 hz1 hz2 rfl _ 0 [] rfl he2 _ rfl n xs hr hx ?b1 ?b2 ?_))
  case b1 => unfold maxLen; omega
  case b2 => omega
  intro v' w' hsl honly hv'
  have HB := hide (hB.trans (honly.below (B := w.heap.size) (by simp) fun i hi => by simp [Value.ownBlock] at hi; omega))
  have HS := hide (show Sl w' 36 3 v' n xs by simpa using hsl)
  have HG := hide (show ∀ g, v'.ownBlock = some g → w.heap.size ≤ g from fun g hg => by
    rcases hv' with e | e <;> rw [e] at hg <;> simp [Value.ownBlock] at hg <;> omega)
  clear hsl honly hv' hB he h
  go_wp2
  go_ret
  exact ⟨_, rfl, HS.out, HG.out, HB.out⟩
set_option maxRecDepth 100000 in
set_option maxHeartbeats 2000000 in
theorem clone_props_none (c : Nat) (w : World) : Calls Try.prog 50 #[.slice none 0 c] w (FreshK w 36 0 []) := by
  have HF := hide (show FreshK w 36 0 [] (.returned (.slice none 0 0)) w from ⟨_, rfl, Sl.nil _ _ _, fun g hg => by simp [Value.ownBlock] at hg, Below.refl _ _⟩)
  go_enter Try.func50, Try.ntmps50
  go_wp2
  go_ret
  exact HF.out
theorem clone_props (v : Value) (n : Nat) (xs : List Value) (w : World) (h : Rd w v 3 n xs) (hx : ∀ u ∈ xs, u.oneCell' = true) (hN : n ≤ 1000000) :
    Calls Try.prog 50 #[v] w (FreshK w 36 n xs) := by
  obtain ⟨A, c, rfl, hl, hr⟩ := id h
  cases A with
  | some a => exact clone_props_some a n c xs w h hx hN
  | none =>
    have h0 : n = 0 := by
      rcases Nat.eq_zero_or_pos n with h0 | h0
      · exact h0
      · obtain ⟨b, off, hA, _⟩ := hr h0
        cases hA
    subst h0
    have := List.eq_nil_of_length_eq_zero (by simpa using hl)
    subst this
    exact clone_props_none c w
set_option maxRecDepth 100000 in
set_option maxHeartbeats 2000000 in
theorem clone_pcs_some (a : Addr) (n c : Nat) (xs : List Value) (w : World) (h : Rd w (.slice (some a) n c) 3 n xs) (hx : ∀ u ∈ xs, u.oneCell' = true) (hN : n ≤ 1000000) :
    Calls Try.prog 45 #[.slice (some a) n c] w (FreshK w 73 n xs) := by
  obtain ⟨i0, hi, hz0, hz1, hz2⟩ := info_parts info_pc
  have he := Sl.new w 73 3 #[] 0 0 (Nat.le_refl _) (by simp [maxLen]) (by simp)
  have he2 : Sl (w.alloc (.cells #[] 73)) 73 3 (.slice (some ⟨w.heap.size, 0, none⟩) 0 0) 0 [] := by simpa using he
  have hB : Below w.heap.size w (w.alloc (.cells #[] 73)) := (Below.refl _ _).alloc (Nat.le_refl _) _
  have hr : Rd (w.alloc (.cells #[] 73)) (.slice (some a) n c) 3 n xs := h.only (Only.of_below hB) fun _ _ f => f
  go_enter Try.func45, Try.ntmps45
  go_wp2_with (at_builtin; go_loud (refine wpList_append_sl rfl (.tmp 5) (.tmp 6) 67 rfl 73 i0 (.agg #[.int .i64 0, .int .i64 0, .slice none 0 0]) 3 40 Try.underlying67 hi hz0 hz1 hz2 rfl _ 0 [] rfl he2 _ rfl n xs hr hx ?b1 ?b2 ?_))
  case b1 => unfold maxLen; omega
  case b2 => omega
  intro v' w' hsl honly hv'
  have HB := hide (hB.trans (honly.below (B := w.heap.size) (by simp) fun i hi => by simp [Value.ownBlock] at hi; omega))
  have HS := hide (show Sl w' 73 3 v' n xs by simpa using hsl)
  have HG := hide (show ∀ g, v'.ownBlock = some g → w.heap.size ≤ g from fun g hg => by
    rcases hv' with e | e <;> rw [e] at hg <;> simp [Value.ownBlock] at hg <;> omega)
  clear hsl honly hv' hB he h
  go_wp2
  go_ret
  exact ⟨_, rfl, HS.out, HG.out, HB.out⟩
set_option maxRecDepth 100000 in
set_option maxHeartbeats 2000000 in
theorem clone_pcs_none (c : Nat) (w : World) : Calls Try.prog 45 #[.slice none 0 c] w (FreshK w 73 0 []) := by
  have HF := hide (show FreshK w 73 0 [] (.returned (.slice none 0 0)) w from ⟨_, rfl, Sl.nil _ _ _, fun g hg => by simp [Value.ownBlock] at hg, Below.refl _ _⟩)
  go_enter Try.func45, Try.ntmps45
  go_wp2
  go_ret
  exact HF.out
theorem clone_pcs (v : Value) (n : Nat) (xs : List Value) (w : World) (h : Rd w v 3 n xs) (hx : ∀ u ∈ xs, u.oneCell' = true) (hN : n ≤ 1000000) :
    Calls Try.prog 45 #[v] w (FreshK w 73 n xs) := by
  obtain ⟨A, c, rfl, hl, hr⟩ := id h
  cases A with
  | some a => exact clone_pcs_some a n c xs w h hx hN
  | none =>
    have h0 : n = 0 := by
      rcases Nat.eq_zero_or_pos n with h0 | h0
      · exact h0
      · obtain ⟨b, off, hA, _⟩ := hr h0
        cases hA
    subst h0
    have := List.eq_nil_of_length_eq_zero (by simpa using hl)
    subst this
    exact clone_pcs_none c w
end Go.Proofs.Ytgiogmbopiblmaa
