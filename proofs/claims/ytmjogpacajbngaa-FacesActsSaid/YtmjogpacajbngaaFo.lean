/- Attrs. No condition but those written. -/
import Derived.Test.YtmjogpacajbngaaFj
namespace Go.Proofs.Ytmjogpacajbngaa
open Go.RowKit
attribute [local go_sem] neq_faces

set_option maxRecDepth 100000 in
set_option maxHeartbeats 8000000 in
theorem attrs_any {w : World} {fb mb : Nat} {D : Fm} (h : FaIn w fb mb D) (name : ByteArray) : Calls Try.prog 27 #[.pointer (some ⟨fb, 0, none⟩), .string name] w fun e w' => e = .returned (.tuple #[(lookZ D name).val, .bool (look D name).isSome]) ∧ Below w.heap.size w w' := by
  have h1 := h.below ((Below.refl _ w).alloc (Nat.le_refl _) (.cells attZ 23))
  have HM := hide (made_yes h1)
  have c0 : (w.alloc (.cells attZ 23)).cell? ⟨fb, 0, none⟩ = some (.map (some mb)) := by rw [h1.m.cell]; rfl
  have c00 : w.cell? ⟨fb, 0, none⟩ = some (.map (some mb)) := by rw [h.m.cell]; rfl
  have hlk := face_lookup2 h1.d name
  obtain ⟨x, hx⟩ : ∃ x, x = (look D name).isSome := ⟨_, rfl⟩
  rw [← hx] at hlk ⊢
  have HBL := hide (show Below w.heap.size w ((w.alloc (.cells (lookZ D name).cells.toArray 23)).alloc (.cells (lookZ D name).cells.toArray 23)) from ((Below.refl _ w).alloc (Nat.le_refl _) _).alloc (by simp) _)
  have HR := hide (show Blk ((w.alloc (.cells (lookZ D name).cells.toArray 23)).alloc (.cells (lookZ D name).cells.toArray 23)) w.heap.size 23 (lookZ D name).cells.toArray from (Blk.new w _ _).alloc _)
  have HLD := hide (run_loadVar_row (P := Try.prog) _ w.heap.size 23 23 (lookZ D name).cells.toArray (0, 0) _ HR.out Try.underlying23 rfl (by kernel_rfl))
  clear h h1 hx
  go_enter Try.func27, Try.ntmps27
  go_wp2_with fail
  refine (Calls.mono (HM.out)) ?_
  rintro r w2 ⟨rfl, rfl⟩
  go_wp2
  refine bodyPost_ret (results_row2 rfl rfl HLD.out rfl) rfl ?_
  exact ⟨rfl, HBL.out⟩
end Go.Proofs.Ytmjogpacajbngaa
