/- Names: slices.Sorted(maps.Keys(m)) by the shelf's contracts. No condition but those written. -/
import Derived.Test.YtmjogpacajbngaaStr
import Derived.Test.YtmjogpacajbngaaShelfk
import Derived.Test.YtmjogpacajbngaaFw
import Derived.Shelf.AbstractIn
namespace Go.Proofs.Ytmjogpacajbngaa
open Go.RowKit Go.Shelf Go.Maps

/-- slices.Sort's two contracts at this dump, at the fence that asks nothing. -/
theorem sorts_in (m : Nat) : AnyZ.SortsIn Try.prog Try.sortedA_ren Fence.wide m :=
  ⟨fun blk off cap ss W hH hblk hsz => callsIn_wide.2 (AnyM.slices_Sort_string Try.sortA blk off cap ss W hH hblk hsz), fun p cap W => callsIn_wide.2 (AnyM.slices_Sort_string_none Try.sortA p cap W)⟩
theorem keys_fn (mb : Option Nat) (W : World) : Calls Try.prog 48 #[.map mb] W fun e w' =>
    e = .returned (.func (.func 55) #[] #[.pointer (some ⟨W.heap.size, 0, none⟩)]) ∧ w' = W.alloc (.cells #[.map mb] 58) :=
  callsIn_wide.1 (AnyZ.keys_in Try.keysA Fence.wide 5 trivial rfl mb W)
/-- The names in ascending order. -/
def namesF (D : Fm) : List ByteArray := ((D.map (·.1.data.toList)).mergeSort leB).map fun l => ⟨l.toArray⟩
theorem namesF_len (D : Fm) : (namesF D).length = D.length := by simp [namesF]
theorem sorted_fn (b : Nat) (D : Fm) (W : World) (h : MapIs W b (facePairs D)) (hnd : (D.map (·.1)).Nodup) (hwf : ∀ x ∈ D, x.1.size ≤ maxLen) (hlen : D.length ≤ 1000000) :
    Calls Try.prog 47 #[.func (.func 55) #[] #[.pointer (some ⟨W.heap.size, 0, none⟩)]] (W.alloc (.cells #[.map (some b)] 58)) fun e w' =>
      ∃ v, e = .returned v ∧ Sl w' 9 1 v (namesF D).length (strs (namesF D)) ∧ (∀ g, v.ownBlock = some g → W.heap.size < g) ∧ Below W.heap.size W w' := by
  have h' : MapIs W b ((D.map fun x => (x.1, x.2.val)).map fun x => (.string x.1, x.2)) := by
    rw [List.map_map]
    exact h
  obtain ⟨D0, hown, hperm, hsize⟩ := h'.owns_str (P := Try.prog) (K := 9) Try.underlying9 (by rw [List.map_map]; exact hnd) (by
    intro x hx
    obtain ⟨y, hy, rfl⟩ := List.mem_map.1 hx
    exact hwf y hy) (by rw [List.length_map]; unfold maxLen; omega)
  rw [List.map_map] at hperm
  rw [List.length_map] at hsize hown
  have hbl := h.lt
  have hseq : SeqGives Fence.wide 2 Try.prog 55 #[.pointer (some ⟨W.heap.size, 0, none⟩)] encStr (fun ss => ss.Perm (strKeys D0)) (Maps.size D0) (W.alloc (.cells #[.map (some b)] 58)) :=
    AnyZ.keys_gives (ρ := Try.keysA_ren) { Try.keysA with } Fence.wide _ trivial rfl (by omega) W.heap.size b D.length D0 _ (by simp) (by simp) (by
      obtain ⟨es, clock, hb, Ft, hs, hD⟩ := hown
      exact ⟨es, clock, (Below.heap_alloc _ _ b hbl).trans hb, Ft, hs, hD⟩)
  have cS := AnyZ.sorted_in Try.sortedA Fence.wide 5 trivial trivial trivial trivial rfl (by omega) (sorts_in _) (enters_of Try.func54 (by kernel_rfl) rfl) 55 #[.pointer (some ⟨W.heap.size, 0, none⟩)] trivial (enters_of Try.func55 (by kernel_rfl) rfl) _ _ (by rw [hsize]; unfold maxLen; omega) (by rw [hsize]; omega) _ hseq
  change CallsIn _ _ Try.prog 47 _ _ _ at cS
  refine (callsIn_wide.1 cS).mono ?_
  rintro e w' ⟨v, ss, rfl, hS, hrow, hnil, hb⟩
  have hp := hS.trans hperm
  rw [mergeSort_of_perm hp, hp.length_eq, List.length_map] at hrow
  have hz := sl_of_owns hrow
  refine ⟨v, rfl, ?_, fun g hg => ?_, ((Below.refl _ W).alloc (Nat.le_refl _) _).trans (hb.mono (by simp))⟩
  · rw [namesF_len]
    have e : strs (namesF D) = ((D.map (·.1.data.toList)).mergeSort leB).map encStr := by
      unfold strs namesF
      rw [List.map_map]
      rfl
    rw [e]
    exact hz.1
  · have := hz.2 g hg
    rw [World.size_alloc] at this
    omega
set_option maxRecDepth 100000 in
set_option maxRecDepth 100000 in
set_option maxHeartbeats 4000000 in
theorem names_any {W w : World} {fb mb : Nat} {D : Fm} {R : Heap} (h : FaAt W w fb mb D R) (hG : GoodF D) : Calls Try.prog 24 #[.pointer (some ⟨fb, 0, none⟩)] w fun e w' =>
    ∃ v, e = .returned v ∧ Sl w' 9 1 v (namesF D).length (strs (namesF D)) ∧ (∀ g, v.ownBlock = some g → w.heap.size ≤ g) ∧ Below w.heap.size w w' := by
  have HM := hide (made_yes h.fin)
  have c0 : w.cell? ⟨fb, 0, none⟩ = some (.map (some mb)) := by rw [h.fin.m.cell]; rfl
  have HS := hide (sorted_fn mb D w h.fin.d hG.nd (fun x hx => by have := (validF_size (hG.ok x hx)).2; unfold maxLen; omega) (by have := hG.le; omega))
  clear h hG
  go_enter Try.func24, Try.ntmps24
  go_wp2_with fail
  refine (Calls.mono (HM.out)) ?_
  rintro r w2 ⟨rfl, rfl⟩
  go_wp2_with fail
  refine (Calls.mono ((keys_fn _ _))) ?_
  rintro r w3 ⟨rfl, rfl⟩
  go_wp2_with fail
  refine (Calls.mono (HS.out)) ?_
  rintro r w4 ⟨v, rfl, hs, hg, hb⟩
  have HV := hide hs
  have HG := hide hg
  have HB := hide hb
  clear hs hg hb
  go_wp2
  go_ret
  exact ⟨v, rfl, HV.out, fun g hg => Nat.le_of_lt (HG.out g hg), HB.out⟩
end Go.Proofs.Ytmjogpacajbngaa
