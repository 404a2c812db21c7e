/- slices.Clone at a table's symbols; maps.Clone at no map. No condition but those written. -/
import Derived.Test.YtkhjdhoaephdkaaDoorNamCopy
import Derived.Test.YtkhjdhoaephdkaaDoorNamTwin
namespace Go.Proofs.YtkhjdhoaephdkaaDoor
open Go.RowKit
attribute [local go_sem] eql_props

theorem eql_syms (w : World) (a : Option Addr) (n c : Nat) : (binOp .eql 74 (.slice a n c) (.slice none 0 0)).run Tryd.prog w = .ok (.bool a.isNone) w := Lib.run_eql_slice_nil w _ _ a n c 0 0 Tryd.underlying74
attribute [local go_sem] eql_syms
set_option maxRecDepth 100000 in
theorem clone_none (w : World) : Calls Tryd.prog 46 #[.map none] w fun e w' => e = .returned (.map none) ∧ w = w' := by
  go_enter Tryd.func46, Tryd.ntmps46
  go_wp2
  go_ret
  exact ⟨rfl, rfl⟩

set_option maxRecDepth 100000 in
set_option maxHeartbeats 2000000 in
theorem clone_syms (a : Addr) (N c : Nat) (xs : List Value) (w : World) (h : Sl w 84 6 (.slice (some a) N c) N xs) (h1 : ∀ u ∈ xs, u.oneCell' = true) (hN : N ≤ 100000) :
    Calls Tryd.prog 44 #[.slice (some a) N c] w
      fun e w' => ∃ v', e = .returned v' ∧ Sl w' 84 6 v' N xs ∧ (∀ g, v'.ownBlock = some g → w.heap.size ≤ g) ∧ Below w.heap.size w w' := by
  obtain ⟨i0, hi, hz0, hz1, hz2⟩ := info_parts info_sym
  have he := Sl.new w 84 6 #[] 0 0 (Nat.le_refl _) (by simp [maxLen]) (by simp)
  have he2 : Sl (w.alloc (.cells #[] 84)) 84 6 (.slice (some ⟨w.heap.size, 0, none⟩) 0 0) 0 [] := by simpa using he
  have hB : Below w.heap.size w (w.alloc (.cells #[] 84)) := (Below.refl _ _).alloc (Nat.le_refl _) _
  go_enter Tryd.func44, Tryd.ntmps44
  go_wp2_with (at_builtin; go_loud (refine wpList_append_sl rfl (.tmp 5) (.tmp 6) 74 rfl 84 i0 _ 6 56 Tryd.underlying74 hi hz0 hz1 hz2 rfl _ 0 [] rfl he2 _ rfl N xs ((h.alloc _).rd) h1 ?b1 ?b2 ?_))
  case b1 => unfold maxLen; omega
  case b2 => omega
  intro v' w' hsl honly hv'
  have HB := hide (hB.trans (honly.below (B := w.heap.size) (by simp) fun i hi => by simp [Value.ownBlock] at hi; omega))
  have HS := hide (show Sl w' 84 6 v' N xs by simpa using hsl)
  have HG := hide (show ∀ g, v'.ownBlock = some g → w.heap.size ≤ g from fun g hg => by
    rcases hv' with e | e <;> rw [e] at hg <;> simp [Value.ownBlock] at hg <;> omega)
  clear hsl honly hv' hB he h
  go_wp2
  go_ret
  exact ⟨_, rfl, HS.out, HG.out, HB.out⟩
end Go.Proofs.YtkhjdhoaephdkaaDoor
