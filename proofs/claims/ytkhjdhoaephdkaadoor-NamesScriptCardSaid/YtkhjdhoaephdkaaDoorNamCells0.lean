/- ClearFunc; a property that is not there. No condition but those written. -/
import Derived.Test.YtkhjdhoaephdkaaDoorNamProp4
namespace Go.Proofs.YtkhjdhoaephdkaaDoor
open Go.RowKit
section
variable {tb : Nat} {L : List Sym} {F : Nat → Prop} {w : World}
theorem clearfunc_ok (h : TableIs w tb L F) (n : Nat) (x : Sym) (hn : L[n]? = some x) (h2n : 2 ≤ n) : Calls Tryd.prog 29 #[.pointer (some ⟨tb, 0, none⟩), .int .i64 (n : Int)] w
    fun e w' => e = .returned (.int .i64 0) ∧ Left w tb (L.set n (withFn x 0 0 false)) F w' := by
  have HS := hide (set_ok h n x hn h2n 0 0 false)
  clear h hn
  go_enter Tryd.func29, Tryd.ntmps29
  go_wp2_with fail
  refine (Calls.mono HS.out) ?_
  rintro e w' ⟨rfl, hl⟩
  go_wp2
  go_ret
  exact ⟨rfl, hl⟩
set_option maxRecDepth 100000 in
set_option maxHeartbeats 2000000 in
theorem prop_absent (h : TableIs w tb L F) (n : Nat) (x : Sym) (hn : L[n]? = some x) (b : Nat) (hpm : x.pm = some b) (key : Int) (hget : pget x.props key = none) : Calls Tryd.prog 28 #[.pointer (some ⟨tb, 0, none⟩), .int .i64 (n : Int), .int .i64 key] w
    fun e w' => e = .returned (.tuple #[.agg #[.int .i64 0, .int .i64 0], .bool false]) ∧ Below w.heap.size w w' := by
  have hB : Below w.heap.size w (w.alloc (.cells #[.int .i64 0, .int .i64 0] 44)) := (Below.refl _ _).alloc (Nat.le_refl _) _
  have hbk : Blk (w.alloc (.cells #[.int .i64 0, .int .i64 0] 44)) w.heap.size 44 #[.int .i64 0, .int .i64 0] := heap_alloc_new w _
  have hlt : n < L.length := (List.getElem?_eq_some_iff.1 hn).1
  have hA := h.below hB
  go_enter Tryd.func28, Tryd.ntmps28
  go_wp2_with fail
  generalize w.alloc (.cells #[.int .i64 0, .int .i64 0] 44) = w1 at *
  have HH := hide (has_any hA n)
  rw [show decide (0 ≤ (n : Int) ∧ (n : Int) < (L.length : Int)) = true by simp; omega] at HH
  obtain ⟨vs, ib, a1, a2, a3, a4, a5, a6⟩ := hA.holds
  obtain ⟨g, off, c, rfl, _, _, hg, hfz, hcell⟩ := a2.fld sym_len (by omega)
  have c0 : w1.cell? ⟨tb, 0, none⟩ = some (.slice (some ⟨g, off, none⟩) L.length c) := by rw [a1.cell]; rfl
  have q5 : w1.cell? ⟨g, off + n * 6 + 5, none⟩ = some (.map (some b)) := by
    have q := hcell n x 5 _ hn rfl
    rw [hpm] at q
    exact q
  have hm : MapIs w1 b (propPairs x.props) := by
    rcases hA.props x (List.mem_of_getElem? hn) with hp | ⟨b', hb', _, hm⟩
    · rw [hpm] at hp
      cases hp.1
    · rw [hpm] at hb'
      cases hb'
      exact hm
  have hg2 : mget (propPairs x.props) (.int .i64 key) = none := by rw [prop_get, hget]; rfl
  have HG := hide hg2
  have HKeys := hide (prop_keys x.props)
  have hbk2 : Blk (w1.alloc (.cells #[.int .i64 0, .int .i64 0] 44)) w.heap.size 44 #[.int .i64 0, .int .i64 0] := hbk.alloc _
  have k0 : (w1.alloc (.cells #[.int .i64 0, .int .i64 0] 44)).cell? ⟨w.heap.size, 0, none⟩ = some (.int .i64 0) := by rw [hbk2.cell]; rfl
  have k1 : (w1.alloc (.cells #[.int .i64 0, .int .i64 0] 44)).cell? ⟨w.heap.size, 1, none⟩ = some (.int .i64 0) := by rw [hbk2.cell]; rfl
  have f0 : (w1.alloc (.cells #[.int .i64 0, .int .i64 0] 44)).frozen? ⟨w.heap.size, 0, none⟩ = false := hbk2.frozen 0
  have f1 : (w1.alloc (.cells #[.int .i64 0, .int .i64 0] 44)).frozen? ⟨w.heap.size, 1, none⟩ = false := hbk2.frozen 1
  have HK := hide ((hbk2.set_ 0 (.int .i64 0)).set_ 1 (.int .i64 0))
  have HB := hide (((hB.alloc hB.size (.cells #[.int .i64 0, .int .i64 0] 44)).setCell (p := ⟨w.heap.size, 0, none⟩) (Nat.le_refl _) (.int .i64 0)).setCell (p := ⟨w.heap.size, 1, none⟩) (Nat.le_refl _) (.int .i64 0))
  clear hcell hfz hg2 hget hbk hbk2 hB a1 a2 a3 hA h
  refine (Calls.mono HH.out) ?_
  rintro e w2 ⟨rfl, rfl⟩
  go_wp2_with (at_lookup; go_loud (refine wpList_lookup_is rfl _ _ true rfl Tryd.underlying82 Tryd.underlying3 _ (zero_word _) rfl hm HKeys.out (.int .i64 key) rfl (.int _ _) _ HG.out ?_))
  refine bodyPost_ret (v := .tuple #[.agg #[.int .i64 0, .int .i64 0], .bool false]) ?_ rfl ?_
  · rw [results_cell_tmp rfl]
    show ((loadVar 44 ⟨w.heap.size, 0, none⟩).run Tryd.prog _).andThen _ = _
    rw [run_loadVar_row _ w.heap.size 44 44 #[.int .i64 0, .int .i64 0] (0, 0) _ HK.out Tryd.underlying44 rfl (by kernel_rfl)]
    rfl
  · exact ⟨rfl, HB.out⟩
end
end Go.Proofs.YtkhjdhoaephdkaaDoor
