/- What the methods do at local values: Drop, Locals of an empty map. No condition but those written. -/
import Derived.Test.YtempnakdpmmmoaaVarLoc5
namespace Go.Proofs.Ytempnakdpmmmoaa
open Go.RowKit Go.Shelf Go.Maps
attribute [local go_sem] neq_cells eql_cells

section
variable {W w w' : World} {b : Vb} {s : Vst} {R : Heap}
set_option maxRecDepth 100000 in
theorem drop_now (h : VarsAt W w b s R) {l1 l2 : List Loc} {x : Loc} (hx : s.locs = l1 ++ x :: l2) (hk : x.k = s.scope) (h1 : ∀ y ∈ l1, y.k ≠ s.scope) (h0 : 1 ≤ s.scope ∧ s.scope ≤ 65536) :
    Calls Try.prog 27 #[.pointer (some ⟨b.vb, 0, none⟩), .int .i64 s.scope] w
    fun r w' => r = .returned (.int .i64 0) ∧ VarsAt W w' b ((s.withLocs (l1 ++ l2)).withScope 0) R := by
  have HM := hide (made_any h)
  have HS := hide (scoped_ok s.scope h0)
  have c1 : w.cell? ⟨b.vb, 1, none⟩ = some (.map (some b.lb)) := by rw [h.vb.cell]; rfl
  obtain ⟨w4, hr, hm4, ho4⟩ := (h.lb).delete (P := Try.prog) (loc_keys s.locs) Try.underlying53 Try.underlying3 (.int _ s.scope) 3 0
  rw [hx, loc_del h1 hk] at hm4
  have h4 := h.relocs (R' := ((x.g, .map (entPairs x.es)) :: entHeap x.es) ++ R) ho4 hm4 (by
    rw [hx, locHeap_mid, show locHeap (l1 ++ l2) = locHeap l1 ++ locHeap l2 by simp [locHeap]]
    classical
    rw [List.perm_iff_count]
    intro a
    simp only [List.count_append, List.count_cons]
    omega)
  have h5 := h4.part
  have c4 : w4.cell? ⟨b.vb, 4, none⟩ = some (.int .i64 s.scope) := by rw [h5.vb.cell]; rfl
  have f4 := h5.vb.frozen 4
  have HV := hide (h5.rescope 0)
  clear h hx hk h1 h0 hm4 ho4 h4 h5
  generalize s.scope = k at *
  go_enter Try.func27, Try.ntmps27
  go_wp2_with fail
  refine (Calls.mono HM.out) ?_
  rintro e w2 ⟨rfl, rfl⟩
  go_wp2_with fail
  refine (Calls.mono (HS.out _)) ?_
  rintro e w2 ⟨rfl, rfl⟩
  go_wp2
  go_ret
  exact ⟨rfl, HV.out⟩
/-- Keys of an empty map. -/
theorem sorted_empty (b : Nat) (W : World) (h : MapIs W b []) :
    Calls Try.prog 43 #[.func (.func 53) #[] #[.pointer (some ⟨W.heap.size, 0, none⟩)]] (W.alloc (.cells #[.map (some b)] 52)) fun e w' =>
      e = .returned (.slice none 0 0) ∧ Below W.heap.size W w' := by
  have h' : MapIs W b (([] : List (Int × Value)).map fun x => (.int .i64 x.1, x.2)) := h
  obtain ⟨D0, hown, hperm, hsize⟩ := h'.owns Try.underlying3 (by simp) (by simp) (by unfold maxLen; simp)
  have hbl := h.lt
  have hseq : SeqGives Fence.wide 2 Try.prog 53 #[.pointer (some ⟨W.heap.size, 0, none⟩)] encZ (fun ss => ss.Perm (intKeys D0)) (Maps.size D0) (W.alloc (.cells #[.map (some b)] 52)) :=
    AnyZI.keys_gives (ρ := Try.keysA_ren) { Try.keysA with } Fence.wide _ trivial rfl (by omega) W.heap.size b 0 D0 _ (by simp) (by simp) (by
      obtain ⟨es, clock, hb, Ft, hs, hD⟩ := hown
      exact ⟨es, clock, (Below.heap_alloc _ _ b hbl).trans hb, Ft, hs, hD⟩)
  have cS := AnyZI.sorted_in Try.sortedA Fence.wide 5 trivial trivial trivial trivial rfl (by omega) (sorts_in _) (enters_of Try.func52 (by kernel_rfl) rfl) 53 #[.pointer (some ⟨W.heap.size, 0, none⟩)] trivial (enters_of Try.func53 (by kernel_rfl) rfl) _ _ (by rw [hsize]; unfold maxLen; simp) (by rw [hsize]; simp) _ hseq
  change CallsIn _ _ Try.prog 43 _ _ _ at cS
  refine (callsIn_wide.1 cS).mono ?_
  rintro e w' ⟨v, ss, rfl, hS, hrow, hnil, hb⟩
  have hp := hS.trans hperm
  have hss : ss = [] := List.perm_nil.1 hp
  obtain rfl : v = .slice none 0 0 := hnil.2 hss
  exact ⟨rfl, ((Below.refl _ W).alloc (Nat.le_refl _) _).trans (hb.mono (by simp))⟩
set_option maxRecDepth 100000 in
theorem locals_empty (h : VarsAt W w b s R) (k : Int) (x : Loc) (hx : fndL s.locs k = some x) (he : x.es = []) : Calls Try.prog 24 #[.pointer (some ⟨b.vb, 0, none⟩), .int .i64 k] w
    fun r w' => r = .returned (.slice none 0 0) ∧ Below w.heap.size w w' := by
  have HM := hide (made_any h)
  have c1 : w.cell? ⟨b.vb, 1, none⟩ = some (.map (some b.lb)) := by rw [h.vb.cell]; rfl
  have hl := (h.lb).lookup (P := Try.prog) (loc_keys s.locs) Try.underlying53 Try.underlying3 (.int _ k) (zero_map w) false
  rw [loc_get, hx] at hl
  simp only [Option.map_some, Option.getD_some, Bool.false_eq_true, if_false] at hl
  have hmi := h.loc (fndL_mem hx).1
  rw [he] at hmi
  have HK := hide (sorted_empty x.g w hmi)
  clear h hx he hmi
  go_enter Try.func24, Try.ntmps24
  go_wp2_with fail
  refine (Calls.mono HM.out) ?_
  rintro e w2 ⟨rfl, rfl⟩
  go_wp2_with fail
  refine (Calls.mono (keys_fn (some x.g) w)) ?_
  rintro e w2 ⟨rfl, rfl⟩
  go_wp2_with fail
  refine (Calls.mono HK.out) ?_
  rintro e w2 ⟨rfl, hb⟩
  have HB := hide hb
  clear hb
  go_wp2
  go_ret
  exact ⟨rfl, HB.out⟩
end
end Go.Proofs.Ytempnakdpmmmoaa
