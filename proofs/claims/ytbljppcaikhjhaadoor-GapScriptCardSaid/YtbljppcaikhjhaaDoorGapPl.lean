/- GapPlain: plain laws. No condition but those written. -/
import Derived.Test.YtbljppcaikhjhaaDoorGapLj
namespace Go.Proofs.YtbljppcaikhjhaaDoor
open Go.RowKit

section
variable {L : List Nat} {x : Int}
theorem slice_ahead (h1 : 1 ≤ x) (h2 : x ≤ (L.length : Int) + 1) : sliceR L 1 x = .tuple #[.string (strOf (L.take (x - 1).toNat)), .int .i64 0] := by
  unfold sliceR
  rw [show spanB L 1 x = true by unfold spanB; simp; omega, if_pos rfl]
  rfl
theorem slice_behind (h1 : 1 ≤ x) (h2 : x ≤ (L.length : Int) + 1) : sliceR L x ((L.length : Int) + 1) = .tuple #[.string (strOf (L.drop (x - 1).toNat)), .int .i64 0] := by
  unfold sliceR
  rw [show spanB L x ((L.length : Int) + 1) = true by unfold spanB; simp; omega, if_pos rfl, List.take_of_length_le (by rw [List.length_drop]; omega)]
theorem slice_ahead_no (h : x < 1 ∨ (L.length : Int) + 1 < x) : sliceR L 1 x = .tuple #[.string ⟨#[]⟩, .int .i64 3] := by
  unfold sliceR
  rw [show spanB L 1 x = false by unfold spanB; simp; omega]
  rfl
theorem slice_behind_no (h : x < 1 ∨ (L.length : Int) + 1 < x) : sliceR L x ((L.length : Int) + 1) = .tuple #[.string ⟨#[]⟩, .int .i64 3] := by
  unfold sliceR
  rw [show spanB L x ((L.length : Int) + 1) = false by unfold spanB; simp; omega]
  rfl
theorem Ac.out {a : Ac} (h : a.p < 1 ∨ (L.length : Int) + 1 < a.p) : a.err L = 3 ∧ a.act L = L := by
  unfold Ac.err Ac.act
  split
  · have e : insErr L a.p a.tx = 3 := by unfold insErr; rw [if_pos h]
    exact ⟨e, insL_bad (by rw [e]; decide)⟩
  · have e : spanB L a.p a.q = false := by unfold spanB; simp; omega
    unfold delErr delL
    rw [e]
    exact ⟨rfl, rfl⟩
theorem Ac.same_ {a : Ac} (h : a.err L ≠ 0) : a.act L = L := by
  unfold Ac.err at h
  unfold Ac.act
  split
  · next hi => rw [if_pos hi] at h; exact insL_bad h
  · next hi =>
    rw [if_neg hi] at h
    unfold delErr at h
    unfold delL
    cases hs : spanB L a.p a.q with
    | true => rw [hs] at h; exact absurd rfl h
    | false => rfl
theorem Ac.ins_ok {a : Ac} (h : a.err L = 0) (hi : pickZ a.kd 3 < 2) : strOf (a.act L) = strOf (L.take (a.p - 1).toNat) ++ a.tx ++ strOf (L.drop (a.p - 1).toNat) := by
  unfold Ac.err at h
  rw [if_pos hi] at h
  obtain ⟨_, _, hv, e⟩ := insL_ok h
  unfold Ac.act
  rw [if_pos hi, e, strOf_append, strOf_append, str_of_chars hv]
/-- A deletion: what goes, and what stands behind it. -/
theorem Ac.del_ok {a : Ac} (h : a.err L = 0) (hi : ¬ pickZ a.kd 3 < 2) : ∃ M Z : List Nat, L.drop (a.p - 1).toNat = M ++ Z ∧ a.act L = L.take (a.p - 1).toNat ++ Z ∧ (M.length : Int) = a.q - a.p ∧ sliceR (a.act L) a.p (((a.act L).length : Int) + 1) = .tuple #[.string (strOf Z), .int .i64 0] := by
  unfold Ac.err delErr at h
  rw [if_neg hi] at h
  have hs : spanB L a.p a.q = true := by
    cases hs : spanB L a.p a.q with
    | true => rfl
    | false => rw [hs] at h; cases h
  have hb : 1 ≤ a.p ∧ a.p ≤ a.q ∧ a.q ≤ (L.length : Int) + 1 := by simpa [spanB] using hs
  have ea : a.act L = L.take (a.p - 1).toNat ++ L.drop (a.q - 1).toNat := by
    unfold Ac.act delL
    rw [if_neg hi, hs, if_pos rfl]
  have hl : (L.take (a.p - 1).toNat).length = (a.p - 1).toNat := by rw [List.length_take]; omega
  refine ⟨(L.drop (a.p - 1).toNat).take (a.q - a.p).toNat, L.drop (a.q - 1).toNat, ?_, ea, ?_, ?_⟩
  · rw [show (a.q - 1).toNat = (a.p - 1).toNat + (a.q - a.p).toNat by omega, ← List.drop_drop, List.take_append_drop]
  · rw [List.length_take, List.length_drop]; omega
  · rw [slice_behind hb.1 (by rw [ea, List.length_append, hl]; omega), ea, List.drop_left' hl]
theorem take_drop_str (L : List Nat) (k : Nat) : strOf L = strOf (L.take k) ++ strOf (L.drop k) := by rw [← strOf_append, List.take_append_drop]
theorem cut_tail (A B : ByteArray) : (A ++ B).extract A.size (A ++ B).size = B := by
  apply ByteArray.ext
  rw [ByteArray.data_extract, ByteArray.data_append]
  apply Array.toList_inj.1
  rw [Array.toList_extract, Array.toList_append]
  have h1 : A.size = A.data.toList.length := by rw [Array.length_toList]; rfl
  have h2 : (A ++ B).size = A.data.toList.length + B.data.toList.length := by rw [ByteArray.size_append, Array.length_toList, Array.length_toList]; rfl
  rw [h1, h2, List.extract, List.drop_left, Nat.add_sub_cancel_left, List.take_length]
theorem cut_at {P : Program} (t : TypeId) (ht : P.underlying t = some .string) (A B : ByteArray) (w : World) : (Instr.slice t (.string (A ++ B)) (some (.int .i64 (A.size : Int))) none none).run P w = .ok (.string B) w := by
  rw [run_slice_string_from_if w t _ .i64 _ ht, if_pos ⟨by omega, by rw [ByteArray.size_append]; omega⟩, Int.toNat_natCast, cut_tail]
end
theorem Txt.box {W w : World} {tb : Nat} {L : List Nat} {R : Heap} (h : Txt W w tb L R) (t : TypeId) (cs : Array Value) : Txt W (w.alloc (.cells cs t)) tb L ((w.heap.size, .cells t cs) :: R) := by
  obtain ⟨b, e, h⟩ := h
  refine ⟨b, e, ⟨(h.gap.own.newCells t cs).perm ?_, h.gap.okf, h.gap.le1, h.gap.le2, h.gap.lim⟩, h.ok⟩
  exact List.perm_middle.symm
theorem Txt.blk {W w : World} {tb : Nat} {L : List Nat} {R : Heap} (h : Txt W w tb L R) {g : Nat} {t : TypeId} {cs : Array Value} (hg : (g, Ast.cells t cs) ∈ R) : Blk w g t cs := by
  obtain ⟨b, e, h⟩ := h
  exact h.gap.own.blk (List.mem_append_right _ hg)
theorem Txt.sub {W w : World} {tb : Nat} {L : List Nat} {R R' : Heap} (h : Txt W w tb L R) (hs : R'.Sublist R) : Txt W w tb L R' := by
  obtain ⟨b, e, h⟩ := h
  exact ⟨b, e, h.gap.sub hs, h.ok⟩
end Go.Proofs.YtbljppcaikhjhaaDoor
