/- Variables: the keys in ascending order; the closure of Values. No condition but those written. -/
import Derived.Test.YtempnakdpmmmoaaVgm
import Derived.Test.YtempnakdpmmmoaaVarKeys
import Derived.Test.YtempnakdpmmmoaaRow
namespace Go.Proofs.Ytempnakdpmmmoaa
open Go.RowKit Go.Shelf Go.Maps
attribute [local go_sem] neq_cells eql_cells

theorem keysB_fn (mb : Option Nat) (W : World) : Calls Try.prog 49 #[.map mb] W fun e w' =>
    e = .returned (.func (.func 55) #[] #[.pointer (some ⟨W.heap.size, 0, none⟩)]) ∧ w' = W.alloc (.cells #[.map mb] 53) :=
  callsIn_wide.1 (AnyZI.keys_in Try.keysB Fence.wide 5 trivial rfl mb W)
theorem sortedA_fn (b : Nat) (l : List (Int × Value)) (W : World) (h : MapIs W b (l.map fun x => (.int .i64 x.1, x.2))) (hnd : (l.map (·.1)).Nodup) (hwf : ∀ x ∈ l, (Lit.int .i64 x.1).wf = true) (hlen : l.length ≤ 1000000) :
    Calls Try.prog 43 #[.func (.func 53) #[] #[.pointer (some ⟨W.heap.size, 0, none⟩)]] (W.alloc (.cells #[.map (some b)] 52)) fun e w' =>
      ∃ v, e = .returned v ∧ Sl w' 3 1 v l.length (((l.map (·.1)).mergeSort leI).map (Value.int .i64)) ∧ (∀ g, v.ownBlock = some g → W.heap.size ≤ g) ∧ Below W.heap.size W w' := by
  obtain ⟨D0, hown, hperm, hsize⟩ := h.owns Try.underlying3 hnd hwf (by unfold maxLen; omega)
  have hbl := h.lt
  have hseq : SeqGives Fence.wide 2 Try.prog 53 #[.pointer (some ⟨W.heap.size, 0, none⟩)] encZ (fun ss => ss.Perm (intKeys D0)) (Maps.size D0) (W.alloc (.cells #[.map (some b)] 52)) :=
    AnyZI.keys_gives (ρ := Try.keysA_ren) { Try.keysA with } Fence.wide _ trivial rfl (by omega) W.heap.size b l.length D0 _ (by simp) (by simp) (by
      obtain ⟨es, clock, hb, Ft, hs, hD⟩ := hown
      exact ⟨es, clock, (Below.heap_alloc _ _ b hbl).trans hb, Ft, hs, hD⟩)
  have cS := AnyZI.sorted_in Try.sortedA Fence.wide 5 trivial trivial trivial trivial rfl (by omega) (sorts_in _) (enters_of Try.func52 (by kernel_rfl) rfl) 53 #[.pointer (some ⟨W.heap.size, 0, none⟩)] trivial (enters_of Try.func53 (by kernel_rfl) rfl) _ _ (by rw [hsize]; unfold maxLen; omega) (by rw [hsize]; omega) _ hseq
  change CallsIn _ _ Try.prog 43 _ _ _ at cS
  refine (callsIn_wide.1 cS).mono ?_
  rintro e w' ⟨v, ss, rfl, hS, hrow, hnil, hb⟩
  have hp := hS.trans hperm
  rw [mergeSort_of_perm_i hp, hp.length_eq, List.length_map] at hrow
  refine ⟨v, rfl, (sl_of_owns hrow).1, fun g hg => ?_, ((Below.refl _ W).alloc (Nat.le_refl _) _).trans (hb.mono (by simp))⟩
  exact Nat.le_trans (by simp) ((sl_of_owns hrow).2 g hg)
theorem sortedB_fn (b : Nat) (l : List (Int × Value)) (W : World) (h : MapIs W b (l.map fun x => (.int .i64 x.1, x.2))) (hnd : (l.map (·.1)).Nodup) (hwf : ∀ x ∈ l, (Lit.int .i64 x.1).wf = true) (hlen : l.length ≤ 1000000) :
    Calls Try.prog 43 #[.func (.func 55) #[] #[.pointer (some ⟨W.heap.size, 0, none⟩)]] (W.alloc (.cells #[.map (some b)] 53)) fun e w' =>
      ∃ v, e = .returned v ∧ Sl w' 3 1 v l.length (((l.map (·.1)).mergeSort leI).map (Value.int .i64)) ∧ (∀ g, v.ownBlock = some g → W.heap.size ≤ g) ∧ Below W.heap.size W w' := by
  obtain ⟨D0, hown, hperm, hsize⟩ := h.owns Try.underlying3 hnd hwf (by unfold maxLen; omega)
  have hbl := h.lt
  have hseq : SeqGives Fence.wide 2 Try.prog 55 #[.pointer (some ⟨W.heap.size, 0, none⟩)] encZ (fun ss => ss.Perm (intKeys D0)) (Maps.size D0) (W.alloc (.cells #[.map (some b)] 53)) :=
    AnyZI.keys_gives (ρ := Try.keysB_ren) { Try.keysB with } Fence.wide _ trivial rfl (by omega) W.heap.size b l.length D0 _ (by simp) (by simp) (by
      obtain ⟨es, clock, hb, Ft, hs, hD⟩ := hown
      exact ⟨es, clock, (Below.heap_alloc _ _ b hbl).trans hb, Ft, hs, hD⟩)
  have cS := AnyZI.sorted_in Try.sortedA Fence.wide 5 trivial trivial trivial trivial rfl (by omega) (sorts_in _) (enters_of Try.func52 (by kernel_rfl) rfl) 55 #[.pointer (some ⟨W.heap.size, 0, none⟩)] trivial (enters_of Try.func55 (by kernel_rfl) rfl) _ _ (by rw [hsize]; unfold maxLen; omega) (by rw [hsize]; omega) _ hseq
  change CallsIn _ _ Try.prog 43 _ _ _ at cS
  refine (callsIn_wide.1 cS).mono ?_
  rintro e w' ⟨v, ss, rfl, hS, hrow, hnil, hb⟩
  have hp := hS.trans hperm
  rw [mergeSort_of_perm_i hp, hp.length_eq, List.length_map] at hrow
  refine ⟨v, rfl, (sl_of_owns hrow).1, fun g hg => ?_, ((Below.refl _ W).alloc (Nat.le_refl _) _).trans (hb.mono (by simp))⟩
  exact Nat.le_trans (by simp) ((sl_of_owns hrow).2 g hg)

theorem int_wf {k : Int} (h : 0 ≤ k ∧ k ≤ 100000) : (Lit.int .i64 k).wf = true := by
  simp [Lit.wf, IntKind.min, IntKind.max, IntKind.signed, IntKind.bits]
  omega
/-- The words of a list of pairs. -/
def wcel (x : Int × Int) : List Value := [.int .i64 x.1, .int .i64 x.2]
theorem wcel_len (x : Int × Int) : (wcel x).length = 2 := rfl
theorem wcel_one (x : Int × Int) : ∀ u ∈ wcel x, u.oneCell' = true := by
  intro u hu
  simp [wcel] at hu
  rcases hu with rfl | rfl <;> rfl
theorem info_wrd : (Try.prog.info? 29).map (fun i => (i.zero, i.size, i.bytes)) = some (some (.agg #[.int .i64 0, .int .i64 0]), 2, 16) := by kernel_rfl
/-- What is gathered: block ob holds the list's slice; beside it R. -/
structure Out (w0 w : World) (ob : Nat) (l : List (Int × Int)) (R : Heap) : Prop where
  at_ : ∃ v, Own w0 w ((ob, .cells 49 #[v]) :: (rowOf 29 2 v l.length (rows wcel l) ++ R)) ∧ RowOk v l.length
section
variable {W w w0 w' : World} {ob : Nat} {l : List (Int × Int)} {R : Heap}
theorem Out.open_ (h : Out w0 w ob l R) : ∃ v, Own w0 w ((ob, .cells 49 #[v]) :: (rowOf 29 2 v l.length (rows wcel l) ++ R)) ∧ Sl w 29 2 v l.length (rows wcel l) := by
  obtain ⟨v, h1, h2⟩ := h.at_
  exact ⟨v, h1, h1.slOf (fun x hx => List.mem_cons_of_mem _ (List.mem_append_left _ hx)) (rows_len wcel_len _) h2⟩
theorem Out.below (h : Out w0 w ob l R) (hb : Below w.heap.size w w') : Out w0 w' ob l R := by
  obtain ⟨v, h1, h2⟩ := h.at_
  exact ⟨v, h1.below hb, h2⟩
theorem Out.bel (h : Out w0 w ob l R) : Below w0.heap.size w0 w := by
  obtain ⟨v, h1, h2⟩ := h.at_
  exact h1.bel
theorem Out.row {t : TypeId} {k n : Nat} {u : Value} {xs : List Value} (h : Out w0 w ob l R) (hs : ∀ x, x ∈ rowOf t k u n xs → x ∈ R) (hl : xs.length = n * k) (ok : RowOk u n) : Sl w t k u n xs := by
  obtain ⟨v, h1, h2⟩ := h.at_
  exact h1.slOf (fun x hx => List.mem_cons_of_mem _ (List.mem_append_right _ (hs x hx))) hl ok
theorem Out.join {t : TypeId} {k n : Nat} {u : Value} {xs : List Value} (h : Out w0 w ob l R) (hb : Below w.heap.size w w') (hs : Sl w' t k u n xs) (hf : ∀ g, u.ownBlock = some g → w.heap.size ≤ g) : Out w0 w' ob l (rowOf t k u n xs ++ R) := by
  obtain ⟨v, h1, h2⟩ := h.at_
  refine ⟨v, (h1.joinRow hb hs hf).perm ?_, h2⟩
  classical
  rw [List.perm_iff_count]
  intro x
  simp only [List.count_append, List.count_cons]
  omega
theorem Out.sub {R' : Heap} (h : Out w0 w ob l R) (hs : R'.Sublist R) : Out w0 w ob l R' := by
  obtain ⟨v, h1, h2⟩ := h.at_
  exact ⟨v, h1.sub (List.Sublist.cons_cons _ (List.Sublist.append (List.Sublist.refl _) hs)), h2⟩
/-- The list with a cell's word, if it has a value. -/
def wOf (c : Cel) : Option (Int × Int) := if c.b then some (c.k, c.n) else none
def addW (l : List (Int × Int)) (c : Cel) : List (Int × Int) := l ++ (wOf c).toList
set_option maxRecDepth 100000 in
set_option maxHeartbeats 4000000 in
theorem add_any (h : Out w0 w ob l R) (c : Cel) (hl : l.length ≤ 2000000000) : Calls Try.prog 48 #[.agg #[.int .i64 c.k, .int .i64 c.n, .bool c.b], .pointer (some ⟨ob, 0, none⟩)] w fun r w' => r = .returned (.tuple #[]) ∧ Out w0 w' ob (addW l c) R := by
  obtain ⟨i0, hi, hz0, hz1, hz2⟩ := info_parts info_wrd
  have kc := Blk.new w 60 #[.int .i64 c.k, .int .i64 c.n, .bool c.b]
  have k0 := kc.cell 0
  have k1 := kc.cell 1
  have k2 := kc.cell 2
  have h1 := h.below ((Below.refl _ w).alloc (Nat.le_refl _) (.cells #[.int .i64 c.k, .int .i64 c.n, .bool c.b] 60))
  rcases hb : c.b with _ | _
  · have HV : Out w0 (w.alloc (.cells #[.int .i64 c.k, .int .i64 c.n, .bool c.b] 60)) ob (addW l c) R := by
      unfold addW wOf
      rw [hb]
      rw [hb] at h1
      simpa using h1
    rw [hb] at HV k0 k1 k2
    have HV := hide HV
    clear h h1 kc hi hz0 hz1 hz2 hb
    go_enter Try.func48, Try.ntmps48
    go_wp2
    go_end0
    exact ⟨rfl, HV.out⟩
  · obtain ⟨v, ho, hsl⟩ := h1.open_
    rw [hb] at k0 k1 k2 ho hsl
    have e0 := (ho.blk (List.mem_cons_self ..)).cell 0
    have f0 := (ho.blk (List.mem_cons_self ..)).frozen 0
    obtain ⟨A, cp, rfl, _⟩ := hsl.form
    have HO := hide ho
    have HSL := hide hsl
    have HI := hide hi
    have HZ := hide hz0
    have HZ1 := hide hz1
    have HZ2 := hide hz2
    have HE := hide (show addW l c = l ++ [(c.k, c.n)] by unfold addW wOf; rw [hb]; rfl)
    have HL := hide hl
    have hrd := rd_elem (w.alloc (.cells #[.int .i64 c.k, .int .i64 c.n, .bool true] 60)) 29 2 (wcel (c.k, c.n)) rfl
    rw [World.size_alloc] at hrd
    have HRD := hide hrd
    clear hrd
    have hob : ob < w.heap.size := by
      obtain ⟨v, h2, _⟩ := h.at_
      exact h2.lt (List.mem_cons_self ..)
    clear h h1 kc hi hz0 hz1 hz2 ho hsl hb hl
    go_enter Try.func48, Try.ntmps48
    go_wp2_with (at_builtin; go_loud (refine wpList_append_sl rfl (.tmp 5) (.tmp 8) 49 rfl 29 i0 _ 2 16 Try.underlying49 HI.out HZ.out HZ1.out HZ2.out rfl _ l.length (rows wcel l) rfl (HSL.out.alloc _) _ rfl 1 _ HRD.out (wcel_one _) ?b1 ?b2 ?_))
    case b1 => unfold maxLen; have := HL.out; omega
    case b2 => have := HL.out; omega
    intro v' w' hs' ho' hv'
    have hk := HO.out.blk (List.mem_cons_self ..)
    have hk' := (hk.alloc (.cells #[.int .i64 c.k, .int .i64 c.n] 29)).only ho' fun e => HSL.out.ne_blk hk (by decide) e
    have e1 := hk'.cell 0
    have f1 := hk'.frozen 0
    have HN := hide (show Out w0 (w'.setCell ⟨ob, 0, none⟩ v') ob (addW l c) R by
      have h1 := ((HO.out.skip (.cells #[.int .i64 c.k, .int .i64 c.n] 29)).perm (show List.Perm _ (rowOf 29 2 (.slice A l.length cp) l.length (rows wcel l) ++ ((ob, .cells 49 #[.slice A l.length cp]) :: R)) from List.perm_middle.symm)).appended (n' := (addW l c).length) (xs' := rows wcel (addW l c)) (by rw [HE.out, rows_append, rows_one]; simpa using hs') ho' (by rw [World.size_alloc, World.size_alloc]; exact hv')
      have h2 := (h1.perm List.perm_middle).setCell 0 v'
      exact ⟨v', h2, by
        have h3 := hs'.rowOk
        rw [HE.out]
        simpa using h3⟩)
    obtain ⟨A', c', rfl, _⟩ := hs'.form
    clear hs' ho' hv' hk hk' e0 f0 k0 k1 k2
    go_wp2
    go_end0
    exact ⟨rfl, HN.out⟩
end
end Go.Proofs.Ytempnakdpmmmoaa
