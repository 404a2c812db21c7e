/- Prop at a symbol that has properties. No condition but those written. -/
import Derived.Test.YtkhjdhoaephdkaaDoorNamProp2
namespace Go.Proofs.YtkhjdhoaephdkaaDoor
open Go.RowKit

def pget (l : List (Int × Int × Int)) (key : Int) : Option (Int × Int) := (l.find? fun x => key == x.1).map (·.2)
theorem prop_keys (l : List (Int × Int × Int)) : KeysOf (.int .i64) (propPairs l) := by
  intro x hx
  obtain ⟨y, _, rfl⟩ := List.mem_map.1 hx
  exact .int _ _
theorem prop_get (l : List (Int × Int × Int)) (key : Int) : mget (propPairs l) (.int .i64 key) = (pget l key).map fun v => Value.agg #[.int .i64 v.1, .int .i64 v.2] := by
  unfold mget pget propPairs
  rw [List.find?_map]
  simp [Function.comp_def, keyEq_int]
theorem zero_word (w : World) : (zeroValue 44).run Tryd.prog w = .ok (.agg #[.int .i64 0, .int .i64 0]) w := by kernel_rfl

section
variable {tb : Nat} {L : List Sym} {F : Nat → Prop} {w : World}
set_option maxRecDepth 100000 in
set_option maxHeartbeats 2000000 in
theorem prop_some (h : TableIs w tb L F) (n : Nat) (x : Sym) (hn : L[n]? = some x) (b : Nat) (hpm : x.pm = some b) (key p q : Int) (hget : pget x.props key = some (p, q)) : Calls Tryd.prog 28 #[.pointer (some ⟨tb, 0, none⟩), .int .i64 (n : Int), .int .i64 key] w
    fun e w' => e = .returned (.tuple #[.agg #[.int .i64 p, .int .i64 q], .bool true]) ∧ Below w.heap.size w w' := by
  have hB : Below w.heap.size w (w.alloc (.cells #[.int .i64 0, .int .i64 0] 44)) := (Below.refl _ _).alloc (Nat.le_refl _) _
  have hbk : Blk (w.alloc (.cells #[.int .i64 0, .int .i64 0] 44)) w.heap.size 44 #[.int .i64 0, .int .i64 0] := heap_alloc_new w _
  have hlt : n < L.length := (List.getElem?_eq_some_iff.1 hn).1
  have hA := h.below hB
  go_enter Tryd.func28, Tryd.ntmps28
  go_wp2_with fail
  generalize w.alloc (.cells #[.int .i64 0, .int .i64 0] 44) = w1 at *
  have HH := hide (has_any hA n)
  rw [show decide (0 ≤ (n : Int) ∧ (n : Int) < (L.length : Int)) = true by simp; omega] at HH
  obtain ⟨vs, ib, a1, a2, a3, a4, a5, a6⟩ := hA.holds
  obtain ⟨g, off, c, rfl, _, _, hg, hfz, hcell⟩ := a2.fld sym_len (by omega)
  have c0 : w1.cell? ⟨tb, 0, none⟩ = some (.slice (some ⟨g, off, none⟩) L.length c) := by rw [a1.cell]; rfl
  have q5 : w1.cell? ⟨g, off + n * 6 + 5, none⟩ = some (.map (some b)) := by
    have q := hcell n x 5 _ hn rfl
    rw [hpm] at q
    exact q
  have hm : MapIs w1 b (propPairs x.props) := by
    rcases hA.props x (List.mem_of_getElem? hn) with hp | ⟨b', hb', _, hm⟩
    · rw [hpm] at hp
      cases hp.1
    · rw [hpm] at hb'
      cases hb'
      exact hm
  have hg2 : mget (propPairs x.props) (.int .i64 key) = some (.agg #[.int .i64 p, .int .i64 q]) := by rw [prop_get, hget]; rfl
  have HG := hide hg2
  have HKeys := hide (prop_keys x.props)
  have hbk2 : Blk (w1.alloc (.cells #[.int .i64 p, .int .i64 q] 44)) w.heap.size 44 #[.int .i64 0, .int .i64 0] := hbk.alloc _
  have k0 : (w1.alloc (.cells #[.int .i64 p, .int .i64 q] 44)).cell? ⟨w.heap.size, 0, none⟩ = some (.int .i64 0) := by rw [hbk2.cell]; rfl
  have k1 : (w1.alloc (.cells #[.int .i64 p, .int .i64 q] 44)).cell? ⟨w.heap.size, 1, none⟩ = some (.int .i64 0) := by rw [hbk2.cell]; rfl
  have f0 : (w1.alloc (.cells #[.int .i64 p, .int .i64 q] 44)).frozen? ⟨w.heap.size, 0, none⟩ = false := hbk2.frozen 0
  have f1 : (w1.alloc (.cells #[.int .i64 p, .int .i64 q] 44)).frozen? ⟨w.heap.size, 1, none⟩ = false := hbk2.frozen 1
  have HK := hide ((hbk2.set_ 0 (.int .i64 p)).set_ 1 (.int .i64 q))
  have HB := hide (((hB.alloc hB.size (.cells #[.int .i64 p, .int .i64 q] 44)).setCell (p := ⟨w.heap.size, 0, none⟩) (Nat.le_refl _) (.int .i64 p)).setCell (p := ⟨w.heap.size, 1, none⟩) (Nat.le_refl _) (.int .i64 q))
  clear hcell hfz hg2 hget hbk hbk2 hB a1 a2 a3 hA h
  refine (Calls.mono HH.out) ?_
  rintro e w2 ⟨rfl, rfl⟩
  go_wp2_with (at_lookup; go_loud (refine wpList_lookup_is rfl _ _ true rfl Tryd.underlying82 Tryd.underlying3 _ (zero_word _) rfl hm HKeys.out (.int .i64 key) rfl (.int _ _) _ HG.out ?_))
  refine bodyPost_ret (v := .tuple #[.agg #[.int .i64 p, .int .i64 q], .bool true]) ?_ rfl ?_
  · rw [results_cell_tmp rfl]
    show ((loadVar 44 ⟨w.heap.size, 0, none⟩).run Tryd.prog _).andThen _ = _
    rw [run_loadVar_row _ w.heap.size 44 44 #[.int .i64 p, .int .i64 q] (0, 0) _ HK.out Tryd.underlying44 rfl (by kernel_rfl)]
    rfl
  · exact ⟨rfl, HB.out⟩
end

/-- The properties behind a store. -/
def pput : List (Int × Int × Int) → Int → Int → Int → List (Int × Int × Int)
  | [], key, k, m => [(key, k, m)]
  | x :: l, key, k, m => if key == x.1 then (key, k, m) :: l else x :: pput l key k m
theorem prop_put (key k m : Int) : ∀ l : List (Int × Int × Int), mput (propPairs l) (.int .i64 key) (.agg #[.int .i64 k, .int .i64 m]) = propPairs (pput l key k m)
  | [] => rfl
  | x :: l => by
    have ih := prop_put key k m l
    unfold pput
    simp only [propPairs, List.map_cons, mput, keyEq_int] at ih ⊢
    by_cases h : (key == x.1) = true
    · simp only [h, if_true, List.map_cons]
    · simp only [h, Bool.false_eq_true, if_false, List.map_cons, ih]
/-- Another symbol has another block. -/
theorem pm_other {b : Nat} {x y : Sym} (hx : x.pm = some b) : ∀ (L : List Sym) (n : Nat), L[n]? = some x → (propBlocks L).Nodup → ∀ s ∈ L.set n y, s = y ∨ (s ∈ L ∧ s.pm ≠ some b)
  | [], n, h, _, _, _ => by simp at h
  | z :: L, 0, h, hn, s, hs => by
    simp at h
    subst h
    have e : propBlocks (z :: L) = b :: propBlocks L := by simp [propBlocks, List.filterMap_cons, hx]
    rw [e] at hn
    have hn1 := List.nodup_cons.1 hn
    simp only [List.set_cons_zero, List.mem_cons] at hs
    rcases hs with hs | hs
    · exact .inl hs
    · exact .inr ⟨List.mem_cons_of_mem _ hs, fun e => hn1.1 (List.mem_filterMap.2 ⟨s, hs, e⟩)⟩
  | z :: L, n + 1, h, hn, s, hs => by
    have h' : L[n]? = some x := by simpa using h
    simp only [List.set_cons_succ, List.mem_cons] at hs
    have hb : b ∈ propBlocks L := List.mem_filterMap.2 ⟨x, List.mem_of_getElem? h', hx⟩
    have hn2 : (propBlocks L).Nodup := by
      cases hz : z.pm with
      | none =>
        have e : propBlocks (z :: L) = propBlocks L := by simp [propBlocks, List.filterMap_cons, hz]
        rwa [e] at hn
      | some q =>
        have e : propBlocks (z :: L) = q :: propBlocks L := by simp [propBlocks, List.filterMap_cons, hz]
        rw [e] at hn
        exact (List.nodup_cons.1 hn).2
    rcases hs with rfl | hs
    · refine .inr ⟨List.mem_cons_self, fun hz => ?_⟩
      have e : propBlocks (s :: L) = b :: propBlocks L := by simp [propBlocks, List.filterMap_cons, hz]
      rw [e] at hn
      exact (List.nodup_cons.1 hn).1 hb
    · rcases pm_other hx L n h' hn2 s hs with h1 | ⟨h1, h2⟩
      · exact .inl h1
      · exact .inr ⟨List.mem_cons_of_mem _ h1, h2⟩

end Go.Proofs.YtkhjdhoaephdkaaDoor
