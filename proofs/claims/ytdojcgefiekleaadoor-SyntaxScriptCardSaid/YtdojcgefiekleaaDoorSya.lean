/- Characters: is a number one, is it a word's: the program's. No condition but those written. -/
import Derived.Test.YtdojcgefiekleaaDoorSys
import Derived.Test.YtdojcgefiekleaaDoorRun
import Derived.Test.YtdojcgefiekleaaDoorShelfk
import Derived.Test.YtdojcgefiekleaaDoorOwn
namespace Go.Proofs.YtdojcgefiekleaaDoor
open Go.RowKit Go.Shelf Go.Lib Go.Sort

set_option maxHeartbeats 2000000 in
theorem in1 (ga gb g off cap : Nat) (S : List (Int × Int)) (c : Int) (i : Nat) (W : World) (hi : i < S.length) (_hm : S.length ≤ 100) (ha : W.cell? ⟨ga, 0, none⟩ = some (.slice (some ⟨g, off, none⟩) S.length cap)) (hb : W.cell? ⟨gb, 0, none⟩ = some (.int .i64 c))
    (hc : W.cell? ⟨g, off + i * 2 + 1, none⟩ = some (.int .i64 (S.toArray[i]!).2)) :
    Calls Tryd.prog 94 (#[.int .i64 i] ++ #[.pointer (some ⟨ga, 0, none⟩), .pointer (some ⟨gb, 0, none⟩)]) W fun e w' => e = .returned (.bool (decide (c ≤ (S.toArray[i]!).2))) ∧ ∃ q, w' = W.drewN q := by
  generalize (S.toArray[i]!).2 = y at hc ⊢
  have hiz : (i : Int) < (S.length : Int) := by omega
  go_enter Tryd.func94, Tryd.ntmps94
  go_wp2
  go_region
  all_goals go_wp2
  all_goals go_ret
  all_goals exact ⟨by first | rfl | simp, _, rfl⟩
theorem below_range (S : List (Int × Int)) (c : Int) : (List.range S.length).countP (fun i => !decide (c ≤ (S.toArray[i]!).2)) = below c S := by
  have h := Lib.countP_range S.toArray (fun y : Int × Int => !decide (c ≤ y.2))
  rw [show S.toArray.size = S.length from by simp] at h
  rw [h]
  unfold below
  congr 1
  funext p
  rw [Bool.eq_iff_iff]
  simp
def spanCells (p : Int × Int) : List Value := [.int .i64 p.1, .int .i64 p.2]
set_option maxRecDepth 100000 in
set_option maxHeartbeats 4000000 in
theorem in_any (g off cap : Nat) (S : List (Int × Int)) (c : Int) (w : World) (hS : rising S) (hm : S.length ≤ 100) (hg : g < w.heap.size)
    (hc : ∀ (i : Nat) x (j : Nat) u, S[i]? = some x → (spanCells x)[j]? = some u → w.cell? ⟨g, off + i * 2 + j, none⟩ = some u) :
    Calls Tryd.prog 89 #[.int .i64 c, .slice (some ⟨g, off, none⟩) S.length cap] w fun e w' => e = .returned (.bool (inSpans c S)) ∧ Below w.heap.size w w' := by
  obtain ⟨W0, hW0⟩ : ∃ W0, W0 = (w.alloc (.cells #[.int .i64 c] 3)).alloc (.cells #[.slice (some ⟨g, off, none⟩) S.length cap] 106) := ⟨_, rfl⟩
  have hsize : W0.heap.size = w.heap.size + 1 + 1 := by rw [hW0]; simp
  have cx : W0.cell? ⟨w.heap.size, 0, none⟩ = some (.int .i64 c) := by rw [hW0]; exact cell_alloc_sl _ (cell_new_sl w _ _)
  have ca : W0.cell? ⟨w.heap.size + 1, 0, none⟩ = some (.slice (some ⟨g, off, none⟩) S.length cap) := by rw [hW0]; have := cell_new_sl (w.alloc (.cells #[.int .i64 c] 3)) (.slice (some ⟨g, off, none⟩) S.length cap) 106; rwa [World.size_alloc] at this
  have cc : ∀ (i : Nat) x (j : Nat) u, S[i]? = some x → (spanCells x)[j]? = some u → W0.cell? ⟨g, off + i * 2 + j, none⟩ = some u := fun i x j u h1 h2 => by rw [hW0]; exact cell_alloc_sl _ (cell_alloc_sl _ (hc i x j u h1 h2))
  have cd : ∀ i, i < S.length → W0.cell? ⟨g, off + i * 2 + 1, none⟩ = some (.int .i64 (S.toArray[i]!).2) := fun i hi => by
    have := cc i S[i] 1 (.int .i64 S[i].2) (List.getElem?_eq_getElem hi) rfl
    rw [this, getElem!_pos S.toArray i (by simpa using hi)]
    rfl
  have eg : ∀ args w, (callFunc 94 args).run Tryd.prog w = .ok (.enter 94 args) w := enters_of Tryd.func94 (by kernel_rfl) rfl
  have mono : ∀ a b, a ≤ b → b < S.length → decide (c ≤ (S.toArray[a]!).2) = true → decide (c ≤ (S.toArray[b]!).2) = true := by
    intro a b hab hb h
    have ha : a < S.length := by omega
    rw [getElem!_pos S.toArray a (by simpa using ha)] at h
    rw [getElem!_pos S.toArray b (by simpa using hb)]
    simp only [List.getElem_toArray, decide_eq_true_eq] at h ⊢
    rcases Nat.lt_or_ge a b with h2 | h2
    · have := rising.pair hS a b h2 hb
      have := rising.ends hS S[b] (List.getElem_mem hb)
      omega
    · have : a = b := by omega
      subst this
      exact h
  have hSr := Any.sort_Search Tryd.search 94 #[.pointer (some ⟨w.heap.size + 1, 0, none⟩), .pointer (some ⟨w.heap.size, 0, none⟩)] S.length (fun i => decide (c ≤ (S.toArray[i]!).2)) W0 eg (by omega)
    (fun m os i hi => (in1 (w.heap.size + 1) w.heap.size g off cap S c i _ hi hm (cell_grown (by simp [hsize]) ca m os) (cell_grown (by simp [hsize]; omega) cx m os) (cell_grown (by simp [hsize]; omega) (cd i hi) m os)).mono
      fun _ _ ⟨he, q, hq⟩ => ⟨he, q, #[], by rw [hq, grow_empty]⟩) mono
  rw [below_range] at hSr
  change Calls Tryd.prog 93 _ _ _ at hSr
  have hB0 : Below w.heap.size w W0 := by rw [hW0]; exact ((Below.refl _ w).alloc (Nat.le_refl _) _).alloc (by simp) _
  obtain ⟨k, hk⟩ : ∃ k, k = below c S := ⟨_, rfl⟩
  rw [← hk] at hSr
  have HS := hide (show Calls Tryd.prog 93 #[.int .i64 (S.length : Int), .func (.func 94) #[] #[.pointer (some ⟨w.heap.size + 1, 0, none⟩), .pointer (some ⟨w.heap.size, 0, none⟩)]] W0 (fun e w' => e = .returned (.int .i64 (k : Int)) ∧ Below w.heap.size w w' ∧ w'.cell? ⟨w.heap.size, 0, none⟩ = some (.int .i64 c) ∧
      w'.cell? ⟨w.heap.size + 1, 0, none⟩ = some (.slice (some ⟨g, off, none⟩) S.length cap) ∧ (∀ x, S[k]? = some x → w'.cell? ⟨g, off + k * 2, none⟩ = some (.int .i64 x.1))) from by
    refine hSr.mono ?_
    rintro e w' ⟨rfl, q, os, rfl⟩
    exact ⟨rfl, hB0.trans (below_grown_sl w.heap.size W0 q os (by omega)), cell_grown (by simp [hsize]; omega) cx q os, cell_grown (by simp [hsize]) ca q os, fun x hx => cell_grown (by simp [hsize]; omega) (cc k x 0 _ hx rfl) q os⟩)
  have HR := hide (below_in c S hS)
  rw [← hk] at HR
  clear hSr cx ca cc cd mono hS hc hk eg
  by_cases hlt : k < S.length
  · obtain ⟨x, hx⟩ : ∃ x, S[k]? = some x := ⟨_, List.getElem?_eq_getElem hlt⟩
    have HX := hide hx
    have HB := hide hB0
    have HW := hide hW0
    have hz : decide ((k : Int) < (S.length : Int)) = true := by simp; omega
    clear hx hB0 hW0
    go_enter Tryd.func89, Tryd.ntmps89
    go_wp2_with (go_at_call 93; rw [← HW.out]; refine (Calls.mono HS.out) ?_; rintro e w' ⟨rfl, hb, hx0, ha0, hc0⟩; have hc1 := hc0 x HX.out; clear hc0)
    go_region
    all_goals go_wp2
    all_goals go_ret
    all_goals exact ⟨by rw [HR.out, HX.out]; rfl, hb.drew⟩
  · have hx : S[k]? = none := List.getElem?_eq_none (by omega)
    have HX := hide hx
    have HW := hide hW0
    have hz : decide ((k : Int) < (S.length : Int)) = false := by simp; omega
    clear hx hB0 hW0
    go_enter Tryd.func89, Tryd.ntmps89
    go_wp2_with (go_at_call 93; rw [← HW.out]; refine (Calls.mono HS.out) ?_; rintro e w' ⟨rfl, hb, hx0, ha0, hc0⟩; clear hc0)
    go_region
    all_goals go_wp2
    all_goals go_ret
    all_goals exact ⟨by rw [HR.out, HX.out]; rfl, hb.drew⟩
end Go.Proofs.YtdojcgefiekleaaDoor
