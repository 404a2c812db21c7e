/- slices.Sorted(maps.Keys(m)) at a scope without local values. No condition but those written. -/
import Derived.Test.YtempnakdpmmmoaaKeys
import Derived.Test.YtempnakdpmmmoaaShelfk
import Derived.Test.YtempnakdpmmmoaaVarCon
import Derived.Shelf.AbstractIn
namespace Go.Proofs.Ytempnakdpmmmoaa
open Go.RowKit Go.Shelf Go.Maps
attribute [local go_sem] neq_cells

/-- slices.Sort's two contracts at this dump, at the fence that asks nothing. -/
theorem sorts_in (m : Nat) : AnyZI.SortsIn Try.prog Try.sortedA_ren Fence.wide m :=
  ⟨fun blk off cap ss W hH hblk hsz => callsIn_wide.2 (AnyM.slices_Sort_int Try.sortA blk off cap ss W hH hblk hsz), fun p cap W => callsIn_wide.2 (AnyM.slices_Sort_int_none Try.sortA p cap W)⟩
theorem keys_fn (mb : Option Nat) (W : World) : Calls Try.prog 44 #[.map mb] W fun e w' =>
    e = .returned (.func (.func 53) #[] #[.pointer (some ⟨W.heap.size, 0, none⟩)]) ∧ w' = W.alloc (.cells #[.map mb] 52) :=
  callsIn_wide.1 (AnyZI.keys_in Try.keysA Fence.wide 5 trivial rfl mb W)
theorem sorted_nil (W : World) : Calls Try.prog 43 #[.func (.func 53) #[] #[.pointer (some ⟨W.heap.size, 0, none⟩)]] (W.alloc (.cells #[.map none] 52)) fun e w' =>
      e = .returned (.slice none 0 0) ∧ Below W.heap.size W w' := by
  have hseq : SeqGives Fence.wide 2 Try.prog 53 #[.pointer (some ⟨W.heap.size, 0, none⟩)] encZ (fun ss : List Int => ss = []) 0 (W.alloc (.cells #[.map none] 52)) :=
    AnyZI.keys_gives_nil (ρ := Try.keysA_ren) { Try.keysA with } Fence.wide _ trivial rfl W.heap.size _ (by simp) (by simp)
  have cS := AnyZI.sorted_in Try.sortedA Fence.wide 5 trivial trivial trivial trivial rfl (by omega) (sorts_in _) (enters_of Try.func52 (by kernel_rfl) rfl) 53 #[.pointer (some ⟨W.heap.size, 0, none⟩)] trivial (enters_of Try.func53 (by kernel_rfl) rfl) _ 0 (Nat.zero_le _) (by omega) _ hseq
  change CallsIn _ _ Try.prog 43 _ _ _ at cS
  refine (callsIn_wide.1 cS).mono ?_
  rintro e w' ⟨v, ss, rfl, rfl, hrow, hnil, hb⟩
  obtain rfl : v = .slice none 0 0 := hnil.2 rfl
  exact ⟨rfl, ((Below.refl _ W).alloc (Nat.le_refl _) _).trans (hb.mono (by simp))⟩
section
variable {W w w' : World} {b : Vb} {s : Vst} {R : Heap}
set_option maxRecDepth 100000 in
theorem locals_none (h : VarsAt W w b s R) (k : Int) (hk : fndL s.locs k = none) : Calls Try.prog 24 #[.pointer (some ⟨b.vb, 0, none⟩), .int .i64 k] w
    fun r w' => r = .returned (.slice none 0 0) ∧ Below w.heap.size w w' := by
  have HM := hide (made_any h)
  have c1 : w.cell? ⟨b.vb, 1, none⟩ = some (.map (some b.lb)) := by rw [h.vb.cell]; rfl
  have hl := (h.lb).lookup (P := Try.prog) (loc_keys s.locs) Try.underlying53 Try.underlying3 (.int _ k) (zero_map w) false
  rw [loc_get, hk] at hl
  simp only [Option.map_none, Option.getD_none, Bool.false_eq_true, if_false] at hl
  clear h hk
  go_enter Try.func24, Try.ntmps24
  go_wp2_with fail
  refine (Calls.mono HM.out) ?_
  rintro e w2 ⟨rfl, rfl⟩
  go_wp2_with fail
  refine (Calls.mono (keys_fn none w)) ?_
  rintro e w2 ⟨rfl, rfl⟩
  go_wp2_with fail
  refine (Calls.mono (sorted_nil w)) ?_
  rintro e w2 ⟨rfl, hb⟩
  have HB := hide hb
  clear hb
  go_wp2
  go_ret
  exact ⟨rfl, HB.out⟩
end
end Go.Proofs.Ytempnakdpmmmoaa
