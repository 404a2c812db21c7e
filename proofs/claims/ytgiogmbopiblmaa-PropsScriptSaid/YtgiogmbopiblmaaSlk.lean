/- More on slices of so many cells an element: copy, clear, a cut in front and behind, more of the capacity. No condition but those written. -/
import Derived.Test.YtgiogmbopiblmaaOwn
import Derived.Laws.CopyOwn
import Derived.Laws.CopyRow
namespace Go.Proofs.Ytgiogmbopiblmaa
open Go.RowKit

/-! ### Lists with a piece laid over -/
theorem splice_get {α : Type} (L : List α) (o : Nat) (ys : List α) (ho : o ≤ L.length) (i : Nat) : (splice L o ys)[i]? = if i < o then L[i]? else if i < o + ys.length then ys[i - o]? else L[i]? := by
  unfold splice
  rw [List.getElem?_append, List.length_take, Nat.min_eq_left ho]
  split
  · rw [List.getElem?_take, if_pos (by assumption)]
  · rw [List.getElem?_append]
    split
    · rw [if_pos (by omega)]
    · rw [if_neg (by omega), List.getElem?_drop]
      congr 1
      omega
theorem splice_drop {α : Type} (L : List α) (off j : Nat) (ys : List α) (h : off + j ≤ L.length) : (splice L (off + j) ys).drop off = splice (L.drop off) j ys := by
  apply List.ext_getElem?
  intro i
  rw [List.getElem?_drop, splice_get _ _ _ h, splice_get _ _ _ (by rw [List.length_drop]; omega), List.getElem?_drop]
  by_cases h1 : i < j
  · rw [if_pos (by omega), if_pos h1]
  · rw [if_neg (by omega), if_neg h1]
    by_cases h2 : i < j + ys.length
    · rw [if_pos (by omega), if_pos h2]
      congr 1
      omega
    · rw [if_neg (by omega), if_neg h2]
theorem splice_take {α : Type} (L : List α) (n j m : Nat) (ys : List α) (hj : j ≤ n) (hn : n ≤ L.length) (hm : m ≤ j + ys.length ∨ m ≤ n) : (splice L j ys).take m = (splice (L.take n) j ys).take m := by
  apply List.ext_getElem?
  intro i
  rw [List.getElem?_take, List.getElem?_take]
  split
  · rw [splice_get _ _ _ (by omega), splice_get _ _ _ (by rw [List.length_take]; omega), List.getElem?_take]
    by_cases h1 : i < j
    · rw [if_pos h1, if_pos h1, if_pos (by omega)]
    · rw [if_neg h1, if_neg h1]
      by_cases h2 : i < j + ys.length
      · rw [if_pos h2, if_pos h2]
      · rw [if_neg h2, if_neg h2, if_pos (by omega)]
  · rfl
theorem splice_len {α : Type} (L : List α) (o : Nat) (ys : List α) (h : o + ys.length ≤ L.length) : (splice L o ys).length = L.length := length_splice L o ys h
theorem splice_end {α : Type} (L : List α) (o : Nat) (ys : List α) (h : o + ys.length = L.length) : splice L o ys = L.take o ++ ys := by
  unfold splice
  rw [List.drop_eq_nil_of_le (by omega), List.append_nil]

section
variable {P : Program} {w w' : World} {T : TypeId} {k g off n c : Nat} {xs : List Value}
/-- A row of ours written over from a cell on, up to the capacity. -/
theorem Sl.set_row (h : Sl w T k (.slice (some ⟨g, off, none⟩) n c) n xs) (o : Nat) (cs : List Value) (ho : o ≤ n * k) (hfit : o + cs.length ≤ n * k) :
    ∃ cur, w.heap[g]? = some (.cells cur T (0, 0)) ∧ off + o + cs.length ≤ cur.size ∧
      Sl (w.setRow g (cur.toList.take (off + o) ++ cs ++ cur.toList.drop (off + o + cs.length)).toArray) T k (.slice (some ⟨g, off, none⟩) n c) n (splice xs o cs) ∧
      Only (· = g) w (w.setRow g (cur.toList.take (off + o) ++ cs ++ cur.toList.drop (off + o + cs.length)).toArray) := by
  have hxl : xs.length = n * k := h.1
  rcases h.2 with ⟨e, _⟩ | ⟨g', off', cap, cur, e, hg, hnc, hcm, hf, htake⟩
  · cases e
  · injection e with e1 _ e2
    injection e1 with e1
    injection e1 with e3 e4
    subst e3 e4 e2
    have hck : n * k ≤ c * k := Nat.mul_le_mul_right k hnc
    have hcl : off + c * k ≤ cur.toList.length := by rw [Array.length_toList]; omega
    have hsp : cur.toList.take (off + o) ++ (cs ++ cur.toList.drop (off + o + cs.length)) = splice cur.toList (off + o) cs := rfl
    refine ⟨cur, hg, by omega, ⟨?_, .inr ⟨g, off, c, _, rfl, setRow_heap w g _ _ T _ hg, hnc, hcm, ?_, ?_⟩⟩, ⟨rfl, rfl, rfl, by simp [World.setRow], fun k _ hk => setRow_other w g k _ (fun e => hk e)⟩⟩
    · rw [splice_len _ _ _ (by omega), hxl]
    · rw [List.append_assoc, hsp, List.size_toArray, splice_len _ _ _ (by omega)]
      exact hcl
    · rw [List.append_assoc, hsp, List.toList_toArray, splice_drop _ _ _ _ (by omega), splice_take _ (n * k) o (n * k) _ ho (by rw [List.length_drop]; omega) (.inr (Nat.le_refl _)), htake]
      exact List.take_of_length_le (by rw [splice_len _ _ _ (by omega)]; omega)
/-- copy into a slice of ours, from element j on. -/
theorem run_copy_slk (dT sT ty elem : TypeId) (hu : P.underlying dT = some (.slice elem)) (hsz : (P.info? elem).map (·.size) = some k) (h : Sl w T k (.slice (some ⟨g, off, none⟩) n c) n xs) (j m : Nat) (dp sp : Option Addr) (dLen dCap sLen sCap : Nat)
    (cs : List Value) (hm : m = Nat.min sLen dLen) (hcl : cs.length = m * k) (hj : j + m ≤ n) (hpos : 0 < m → dp = some ⟨g, off + j * k, none⟩ ∧ ∃ b o, sp = some ⟨b, o, none⟩ ∧ ∀ i v, cs[i]? = some v → w.cell? ⟨b, o + i, none⟩ = some v) (h1 : ∀ v ∈ cs, v.oneCell' = true) :
    ∃ w', (Builtin.copy_ #[dT, sT] ty #[.slice dp dLen dCap, .slice sp sLen sCap]).run P w = .ok (goInt m) w' ∧ Sl w' T k (.slice (some ⟨g, off, none⟩) n c) n (splice xs (j * k) cs) ∧ Only (· = g) w w' := by
  cases hq : P.info? elem with
  | none => simp [hq] at hsz
  | some i =>
    have hi : i.size = k := by simpa [hq] using hsz
    by_cases h0 : m = 0
    · subst h0
      obtain rfl : cs = [] := List.eq_nil_of_length_eq_zero (by simpa using hcl)
      refine ⟨w, ?_, by simpa [splice] using h, Only.refl _ _⟩
      have hl : ∀ (x : Addr), (loadCells x 0).run P w = .ok #[] w := fun x => by simpa using run_loadCells_list (P := P) w x [] (by simp)
      cases dp <;> cases sp <;> simp [Builtin.copy_, run_underlying hu, Builtin.lenOf, Builtin.firstCells, sizeOf, typeInfo, hq, ← hm, storeCells, hl]
    · obtain ⟨rfl, b, o, rfl, hsrc⟩ := hpos (by omega)
      have hjk : j * k + cs.length ≤ n * k := by rw [hcl, ← Nat.add_mul]; exact Nat.mul_le_mul_right k hj
      obtain ⟨cur, hg, hfit, hs, ho⟩ := h.set_row (j * k) cs (by omega) hjk
      have hl := run_loadCells_list (P := P) w ⟨b, o, none⟩ cs (fun i v hv => by rw [Addr.add_lit]; exact hsrc i v hv)
      rw [hcl] at hl
      have hst := run_storeCells_at P g (off + j * k) T cs 0 cur w hg (by simpa using hfit) h1
      refine ⟨_, ?_, hs, ho⟩
      simp [Builtin.copy_, run_underlying hu, Builtin.lenOf, Builtin.firstCells, sizeOf, typeInfo, hq, hi, ← hm, hl, hst]
/-- clear of a part of a slice of ours: whatever the elements are then, the other elements are as they were. -/
theorem run_clear_slk {m : Nat} (t e ty : TypeId) (z : Value) (ht : P.underlying t = some (.slice e)) (hv : ∀ w, (zeroValue e).run P w = .ok z w) (hz : z.cells.size = k) (hz1 : ∀ v ∈ (Builtin.zeroCells z.cells m).toList, v.oneCell' = true) (h : Sl w T k (.slice (some ⟨g, off, none⟩) n c) n xs) (j d : Nat) (dp : Option Addr) (hj : j + m ≤ n) (hpos : 0 < m → dp = some ⟨g, off + j * k, none⟩) :
    ∃ w', (Builtin.clear_ #[t] ty #[.slice dp m d]).run P w = .ok (.tuple #[]) w' ∧ (∃ ys, ys.length = m * k ∧ Sl w' T k (.slice (some ⟨g, off, none⟩) n c) n (splice xs (j * k) ys)) ∧ Only (· = g) w w' := by
  by_cases h0 : m = 0
  · subst h0
    refine ⟨w, ?_, ⟨[], by simp, by simpa [splice] using h⟩, Only.refl _ _⟩
    cases dp <;> simp [Builtin.clear_, run_underlying ht]
  · obtain rfl := hpos (by omega)
    have hcl : (Builtin.zeroCells z.cells m).toList.length = m * k := by rw [Array.length_toList, size_zeroCells, hz]
    have hjk : j * k + (Builtin.zeroCells z.cells m).toList.length ≤ n * k := by rw [hcl, ← Nat.add_mul]; exact Nat.mul_le_mul_right k hj
    obtain ⟨cur, hg, hfit, hs, ho⟩ := h.set_row (j * k) (Builtin.zeroCells z.cells m).toList (by omega) hjk
    have hst := run_storeCells_at P g (off + j * k) T (Builtin.zeroCells z.cells m).toList 0 cur w hg (by simpa using hfit) hz1
    refine ⟨_, ?_, ⟨_, hcl, hs⟩, ho⟩
    obtain ⟨q, rfl⟩ : ∃ q, m = q + 1 := ⟨m - 1, by omega⟩
    simp [Builtin.clear_, run_underlying ht, hv, hst]
/-- A slice of ours with more of its capacity. -/
theorem Sl.more (h : Sl w T k (.slice (some ⟨g, off, none⟩) n c) n xs) (m : Nat) (h1 : n ≤ m) (h2 : m ≤ c) : ∃ zs, Sl w T k (.slice (some ⟨g, off, none⟩) m c) m zs ∧ zs.take (n * k) = xs := by
  rcases h.2 with ⟨e, _⟩ | ⟨g', off', cap, cur, e, hg, hnc, hcm, hfit, htake⟩
  · cases e
  · injection e with e1 _ e2
    injection e1 with e1
    injection e1 with e3 e4
    subst e3 e4 e2
    have h3 : m * k ≤ c * k := Nat.mul_le_mul_right k h2
    have h4 : n * k ≤ m * k := Nat.mul_le_mul_right k h1
    refine ⟨(cur.toList.drop off).take (m * k), ⟨?_, .inr ⟨g, off, c, cur, rfl, hg, h2, hcm, by omega, rfl⟩⟩, ?_⟩
    · rw [List.length_take, List.length_drop, Array.length_toList]
      omega
    · rw [List.take_take, Nat.min_eq_left h4]
      exact htake
/-- A slice of ours, cut in front. -/
theorem Rd.cutF (h : Rd w (.slice (some ⟨g, off, none⟩) n c) k n xs) {j : Nat} (hj : j ≤ n) (d : Nat) : Rd w (.slice (some ⟨g, off + j * k, none⟩) (n - j) d) k (n - j) (xs.drop (j * k)) := by
  obtain ⟨A, c', e, hl, hc⟩ := h
  injection e with e1 _ _
  subst e1
  refine ⟨_, _, rfl, by rw [List.length_drop, hl, Nat.sub_mul], fun hp => ?_⟩
  obtain ⟨b, o, e2, h2⟩ := hc (by omega)
  injection e2 with e2
  injection e2 with e3 e4
  subst e3 e4
  refine ⟨g, off + j * k, rfl, fun i u hu => ?_⟩
  rw [List.getElem?_drop] at hu
  have := h2 _ u hu
  rwa [← Nat.add_assoc] at this
theorem Rd.front (h : Rd w (.slice (some ⟨g, off, none⟩) n c) k n xs) {j : Nat} (hj : j ≤ n) (d : Nat) : Rd w (.slice (some ⟨g, off, none⟩) j d) k j (xs.take (j * k)) := by
  obtain ⟨A, c', e, hl, hc⟩ := h
  injection e with e1 _ _
  subst e1
  have hjk : j * k ≤ n * k := Nat.mul_le_mul_right k hj
  refine ⟨_, _, rfl, by rw [List.length_take]; omega, fun hp => ?_⟩
  obtain ⟨b, o, e2, h2⟩ := hc (by omega)
  injection e2 with e2
  injection e2 with e3 e4
  subst e3 e4
  refine ⟨g, off, rfl, fun i u hu => ?_⟩
  rw [List.getElem?_take] at hu
  split at hu
  · exact h2 i u hu
  · cases hu
end
end Go.Proofs.Ytgiogmbopiblmaa
