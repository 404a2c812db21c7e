/- Is a number a word's character: the program's. No condition but those written. -/
import Derived.Test.YtdojcgefiekleaaDoorSya
import Derived.Deep.WholeRow
namespace Go.Proofs.YtdojcgefiekleaaDoor
open Go.RowKit

theorem info_spans : (Tryd.prog.info? 104).map (·.size) = some 36 := by kernel_rfl
set_option maxRecDepth 100000 in
set_option maxHeartbeats 4000000 in
theorem word_any (c : Int) (w : World) : Calls Tryd.prog 79 #[.int .i64 c] w fun e w' => e = .returned (.bool (isWord c)) ∧ Below w.heap.size w w' := by
  have HI : ∀ W : World, W.heap.size = w.heap.size + 1 → Below w.heap.size w W → (∀ (i : Nat) x (j : Nat) u, wordSpans[i]? = some x → (spanCells x)[j]? = some u → W.cell? ⟨w.heap.size, 0 + i * 2 + j, none⟩ = some u) →
      Calls Tryd.prog 89 #[.int .i64 c, .slice (some ⟨w.heap.size, 0, none⟩) 18 18] W fun e w' => e = .returned (.bool (isWord c)) ∧ Below w.heap.size w w' := by
    intro W hs hb hc
    refine (in_any w.heap.size 0 18 wordSpans c W wordSpans_rising (by decide) (by omega) hc).mono ?_
    rintro e w' ⟨rfl, h⟩
    exact ⟨rfl, hb.trans (h.mono (by omega))⟩
  go_enter Tryd.func79, Tryd.ntmps79
  iterate 72 (first | go_values | go_skip | go_guarded | go_step)
  refine wp_store_row 104 (.tmp 3) (.tmp 22) rfl w.heap.size (rows spanCells wordSpans).toArray rfl (by kernel_rfl) 104 _ (heap_alloc_new w _) info_spans rfl (by kernel_rfl) ?_
  rw [World.setRow_alloc_new]
  obtain ⟨W, hW⟩ : ∃ W, W = w.alloc (.cells (rows spanCells wordSpans).toArray 104) := ⟨_, rfl⟩
  rw [← hW]
  have HC := HI W (by rw [hW]; simp) (by rw [hW]; exact (Below.refl _ w).alloc (Nat.le_refl _) _) (by
    have h := rd_row w 104 2 (rows spanCells wordSpans).toArray 18 (rows spanCells wordSpans) rfl (by decide) (by decide)
    have h2 : Rd (w.alloc (.cells (rows spanCells wordSpans).toArray 104)) (.slice (some ⟨w.heap.size, 0, none⟩) 18 18) 2 wordSpans.length (rows spanCells wordSpans) := h
    obtain ⟨g, off, c2, he, hh⟩ := Rd.fld (enc := spanCells) (L := wordSpans) (fun _ => rfl) h2 (by decide)
    injection he with h3 h4 h5
    injection h3 with h3
    injection h3 with h3 h6 h7
    subst h3
    subst h6
    rw [hW]
    exact hh)
  have HC2 := hide HC
  clear HI HC hW
  go_wp2_with (go_at_call 89; refine (Calls.mono HC2.out) ?_; rintro e w' ⟨rfl, hb⟩)
  go_ret
  exact ⟨rfl, hb⟩
end Go.Proofs.YtdojcgefiekleaaDoor
