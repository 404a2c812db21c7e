/- slices.Sorted(maps.Keys(m)) at the properties of a symbol: by the shelf's contracts. No condition but those written. -/
import Derived.Test.YtkhjdhoaephdkaaDoorKeys
import Derived.Test.YtkhjdhoaephdkaaDoorShelfk
import Derived.Test.YtkhjdhoaephdkaaDoorNamProp3
import Derived.Shelf.AbstractIn
namespace Go.Proofs.YtkhjdhoaephdkaaDoor
open Go.RowKit Go.Shelf Go.Maps

/-- slices.Sort's two contracts at this dump, at the fence that asks nothing. -/
theorem sorts_in (m : Nat) : AnyZI.SortsIn Tryd.prog Tryd.sortedA_ren Fence.wide m :=
  ⟨fun blk off cap ss W hH hblk hsz => callsIn_wide.2 (AnyM.slices_Sort_int Tryd.sortA blk off cap ss W hH hblk hsz), fun p cap W => callsIn_wide.2 (AnyM.slices_Sort_int_none Tryd.sortA p cap W)⟩
theorem keys_fn (mb : Option Nat) (W : World) : Calls Tryd.prog 48 #[.map mb] W fun e w' =>
    e = .returned (.func (.func 66) #[] #[.pointer (some ⟨W.heap.size, 0, none⟩)]) ∧ w' = W.alloc (.cells #[.map mb] 82) :=
  callsIn_wide.1 (AnyZI.keys_in Tryd.keysA Fence.wide 5 trivial rfl mb W)
theorem sorted_fn (b : Nat) (l : List (Int × Value)) (W : World) (h : MapIs W b (l.map fun x => (.int .i64 x.1, x.2))) (hnd : (l.map (·.1)).Nodup) (hwf : ∀ x ∈ l, (Lit.int .i64 x.1).wf = true) (hlen : l.length ≤ 1000000) :
    Calls Tryd.prog 47 #[.func (.func 66) #[] #[.pointer (some ⟨W.heap.size, 0, none⟩)]] (W.alloc (.cells #[.map (some b)] 82)) fun e w' =>
      ∃ v, e = .returned v ∧ Sl w' 3 1 v l.length (((l.map (·.1)).mergeSort leI).map (Value.int .i64)) ∧ Below W.heap.size W w' := by
  obtain ⟨D0, hown, hperm, hsize⟩ := h.owns Tryd.underlying3 hnd hwf (by unfold maxLen; omega)
  have hbl := h.lt
  have hseq : SeqGives Fence.wide 2 Tryd.prog 66 #[.pointer (some ⟨W.heap.size, 0, none⟩)] encZ (fun ss => ss.Perm (intKeys D0)) (Maps.size D0) (W.alloc (.cells #[.map (some b)] 82)) :=
    AnyZI.keys_gives (ρ := Tryd.keysA_ren) { Tryd.keysA with } Fence.wide _ trivial rfl (by omega) W.heap.size b l.length D0 _ (by simp) (by simp) (by
      obtain ⟨es, clock, hb, Ft, hs, hD⟩ := hown
      exact ⟨es, clock, (Below.heap_alloc _ _ b hbl).trans hb, Ft, hs, hD⟩)
  have cS := AnyZI.sorted_in Tryd.sortedA Fence.wide 5 trivial trivial trivial trivial rfl (by omega) (sorts_in _) (enters_of Tryd.func65 (by kernel_rfl) rfl) 66 #[.pointer (some ⟨W.heap.size, 0, none⟩)] trivial (enters_of Tryd.func66 (by kernel_rfl) rfl) _ _ (by rw [hsize]; unfold maxLen; omega) (by rw [hsize]; omega) _ hseq
  change CallsIn _ _ Tryd.prog 47 _ _ _ at cS
  refine (callsIn_wide.1 cS).mono ?_
  rintro e w' ⟨v, ss, rfl, hS, hrow, hnil, hb⟩
  have hp := hS.trans hperm
  rw [mergeSort_of_perm_i hp, hp.length_eq, List.length_map] at hrow
  exact ⟨v, rfl, (sl_of_owns hrow).1, ((Below.refl _ W).alloc (Nat.le_refl _) _).trans (hb.mono (by simp))⟩
theorem sorted_nil (W : World) : Calls Tryd.prog 47 #[.func (.func 66) #[] #[.pointer (some ⟨W.heap.size, 0, none⟩)]] (W.alloc (.cells #[.map none] 82)) fun e w' =>
      e = .returned (.slice none 0 0) ∧ Below W.heap.size W w' := by
  have hseq : SeqGives Fence.wide 2 Tryd.prog 66 #[.pointer (some ⟨W.heap.size, 0, none⟩)] encZ (fun ss : List Int => ss = []) 0 (W.alloc (.cells #[.map none] 82)) :=
    AnyZI.keys_gives_nil (ρ := Tryd.keysA_ren) { Tryd.keysA with } Fence.wide _ trivial rfl W.heap.size _ (by simp) (by simp)
  have cS := AnyZI.sorted_in Tryd.sortedA Fence.wide 5 trivial trivial trivial trivial rfl (by omega) (sorts_in _) (enters_of Tryd.func65 (by kernel_rfl) rfl) 66 #[.pointer (some ⟨W.heap.size, 0, none⟩)] trivial (enters_of Tryd.func66 (by kernel_rfl) rfl) _ 0 (Nat.zero_le _) (by omega) _ hseq
  change CallsIn _ _ Tryd.prog 47 _ _ _ at cS
  refine (callsIn_wide.1 cS).mono ?_
  rintro e w' ⟨v, ss, rfl, rfl, hrow, hnil, hb⟩
  obtain rfl : v = .slice none 0 0 := hnil.2 rfl
  exact ⟨rfl, ((Below.refl _ W).alloc (Nat.le_refl _) _).trans (hb.mono (by simp))⟩
end Go.Proofs.YtkhjdhoaephdkaaDoor
