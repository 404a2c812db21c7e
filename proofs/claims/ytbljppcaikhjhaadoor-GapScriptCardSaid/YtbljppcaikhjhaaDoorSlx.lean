/- More on slices of one cell an element: copy, cells written in a row, and the contracts of BinarySearch, Delete and Insert at lists of int. No condition but those written. -/
import Derived.Test.YtbljppcaikhjhaaDoorOwn
import Derived.Test.YtbljppcaikhjhaaDoorRunes
import Derived.Laws.CopyOwn
import Derived.Laws.ResultCell
namespace Go.Proofs.YtbljppcaikhjhaaDoor
open Go.RowKit

/-! ### Lists with a piece laid over -/
theorem splice_get {α : Type} (L : List α) (o : Nat) (ys : List α) (ho : o ≤ L.length) (i : Nat) : (splice L o ys)[i]? = if i < o then L[i]? else if i < o + ys.length then ys[i - o]? else L[i]? := by
  unfold splice
  rw [List.getElem?_append, List.length_take, Nat.min_eq_left ho]
  split
  · rw [List.getElem?_take, if_pos (by assumption)]
  · rw [List.getElem?_append]
    split
    · rw [if_pos (by omega)]
    · rw [if_neg (by omega), List.getElem?_drop]
      congr 1
      omega
theorem splice_drop {α : Type} (L : List α) (off j : Nat) (ys : List α) (h : off + j ≤ L.length) : (splice L (off + j) ys).drop off = splice (L.drop off) j ys := by
  apply List.ext_getElem?
  intro i
  rw [List.getElem?_drop, splice_get _ _ _ h, splice_get _ _ _ (by rw [List.length_drop]; omega), List.getElem?_drop]
  by_cases h1 : i < j
  · rw [if_pos (by omega), if_pos h1]
  · rw [if_neg (by omega), if_neg h1]
    by_cases h2 : i < j + ys.length
    · rw [if_pos (by omega), if_pos h2]
      congr 1
      omega
    · rw [if_neg (by omega), if_neg h2]
theorem splice_take {α : Type} (L : List α) (n j m : Nat) (ys : List α) (hj : j ≤ n) (hn : n ≤ L.length) (hm : m ≤ j + ys.length ∨ m ≤ n) : (splice L j ys).take m = (splice (L.take n) j ys).take m := by
  apply List.ext_getElem?
  intro i
  rw [List.getElem?_take, List.getElem?_take]
  split
  · rw [splice_get _ _ _ (by omega), splice_get _ _ _ (by rw [List.length_take]; omega), List.getElem?_take]
    by_cases h1 : i < j
    · rw [if_pos h1, if_pos h1, if_pos (by omega)]
    · rw [if_neg h1, if_neg h1]
      by_cases h2 : i < j + ys.length
      · rw [if_pos h2, if_pos h2]
      · rw [if_neg h2, if_neg h2, if_pos (by omega)]
  · rfl
theorem splice_cons {α : Type} [Inhabited α] (L : List α) (o : Nat) (v : α) (vs : List α) (h : o < L.length) : splice (L.set o v) (o + 1) vs = splice L o (v :: vs) := by
  apply List.ext_getElem?
  intro i
  rw [splice_get _ _ _ (by rw [List.length_set]; omega), splice_get _ _ _ (by omega), List.getElem?_set, List.length_cons]
  by_cases h1 : i < o
  · rw [if_pos (by omega), if_pos h1, if_neg (by omega)]
  · by_cases h2 : i = o
    · subst h2
      rw [if_pos (by omega), if_neg h1, if_pos rfl, if_pos h, if_pos (by omega), Nat.sub_self]
      rfl
    · rw [if_neg (by omega), if_neg h1]
      by_cases h3 : i < o + 1 + vs.length
      · rw [if_pos h3, if_pos (by omega), show i - o = (i - (o + 1)) + 1 by omega]
        rfl
      · rw [if_neg h3, if_neg (by omega), if_neg (by omega)]
theorem splice_len {α : Type} (L : List α) (o : Nat) (ys : List α) (h : o + ys.length ≤ L.length) : (splice L o ys).length = L.length := length_splice L o ys h

section
variable {P : Program} {w w' : World} {T : TypeId} {g off n c : Nat} {xs : List Value}
/-- copy into a slice of ours, from place j on. -/
theorem run_copy_sl (dT sT ty elem : TypeId) (hu : P.underlying dT = some (.slice elem)) (hsz : (P.info? elem).map (·.size) = some 1) (h : Sl w T 1 (.slice (some ⟨g, off, none⟩) n c) n xs) (j : Nat) (dp sp : Option Addr) (dLen dCap sLen sCap : Nat)
    (cs : List Value) (hn : cs.length = Nat.min sLen dLen) (hj : j + cs.length ≤ n) (hpos : 0 < cs.length → dp = some ⟨g, off + j, none⟩ ∧ ∃ b o, sp = some ⟨b, o, none⟩ ∧ ∀ i v, cs[i]? = some v → w.cell? ⟨b, o + i, none⟩ = some v) (h1 : ∀ v ∈ cs, v.oneCell' = true) :
    ∃ w', (Builtin.copy_ #[dT, sT] ty #[.slice dp dLen dCap, .slice sp sLen sCap]).run P w = .ok (goInt cs.length) w' ∧ Sl w' T 1 (.slice (some ⟨g, off, none⟩) n c) n (splice xs j cs) ∧ Only (· = g) w w' := by
  have hxl : xs.length = n := by rw [h.1, Nat.mul_one]
  by_cases h0 : cs.length = 0
  · obtain rfl : cs = [] := List.eq_nil_of_length_eq_zero h0
    refine ⟨w, run_copy_none (P := P) w dT sT ty elem dp sp dLen dCap sLen sCap hu hsz (by simpa using hn.symm), ?_, Only.refl _ _⟩
    simpa [splice] using h
  · obtain ⟨rfl, b, o, rfl, hsrc⟩ := hpos (by omega)
    rcases h.2 with ⟨e, _⟩ | ⟨g', off', cap, cur, e, hg, hnc, hcm, hfit, htake⟩
    · cases e
    · injection e with e1 _ e2
      injection e1 with e1
      injection e1 with e3 e4
      subst e3 e4 e2
      rw [Nat.mul_one] at hfit htake
      have hrun := run_copy_row (P := P) w dT sT ty elem g (off + j) dLen dCap ⟨b, o, none⟩ sLen sCap cur T cs hu hsz hg hn (fun i v hv => by rw [Addr.add_lit]; exact hsrc i v hv) (by omega) h1
      have hcl : off + c ≤ cur.toList.length := by rw [Array.length_toList]; omega
      have hsp : cur.toList.take (off + j) ++ cs ++ cur.toList.drop (off + j + cs.length) = splice cur.toList (off + j) cs := by unfold splice; rw [List.append_assoc]
      rw [List.append_assoc] at hsp
      refine ⟨_, hrun, ⟨?_, .inr ⟨g, off, c, _, rfl, setRow_heap w g _ _ T _ hg, hnc, hcm, ?_, ?_⟩⟩, ⟨rfl, rfl, rfl, by simp [World.setRow], fun k _ hk => setRow_other w g k _ (fun e => hk e)⟩⟩
      · rw [splice_len _ _ _ (by omega), Nat.mul_one, hxl]
      · rw [Nat.mul_one, List.append_assoc, hsp, List.size_toArray, splice_len _ _ _ (by omega)]
        exact hcl
      · rw [Nat.mul_one, List.append_assoc, hsp, List.toList_toArray, splice_drop _ _ _ _ (by omega), splice_take _ n j n _ (by omega) (by rw [List.length_drop]; omega) (.inr (Nat.le_refl _)), htake]
        exact List.take_of_length_le (by rw [splice_len _ _ _ (by omega)]; omega)
theorem step_copy_sl {ops : Array Oper} {o : Oper} {a : Act} {K : Act → World → Prop} {Q : Exit → Act → World → Prop} {E : Prop} (hgd : o.guard = none) (d s : Operand) (dT sT : TypeId)
    (ho : o.op = .call { callee := .builtin .copy, args := #[d, s], argTypes := #[dT, sT] }) (elem : TypeId) (hu : P.underlying dT = some (.slice elem)) (hsz : (P.info? elem).map (·.size) = some 1) (h : Sl w T 1 (.slice (some ⟨g, off, none⟩) n c) n xs) (j : Nat) (dp sp : Option Addr) (dLen dCap sLen sCap : Nat)
    (hd : a.eval d = .slice dp dLen dCap) (hs : a.eval s = .slice sp sLen sCap)
    (cs : List Value) (hn : cs.length = Nat.min sLen dLen) (hj : j + cs.length ≤ n) (hpos : 0 < cs.length → dp = some ⟨g, off + j, none⟩ ∧ ∃ b o, sp = some ⟨b, o, none⟩ ∧ ∀ i v, cs[i]? = some v → w.cell? ⟨b, o + i, none⟩ = some v) (h1 : ∀ v ∈ cs, v.oneCell' = true)
    (hK : ∀ w', Sl w' T 1 (.slice (some ⟨g, off, none⟩) n c) n (splice xs j cs) → Only (· = g) w w' → K (a.put o.dst (goInt cs.length)) w') : if Region.wanted o (yielded ops a.tmps) = true then Oper.wp P o a w K Q else E := by
  have hw : Region.wanted o (yielded ops a.tmps) = true := by simp [Region.wanted, hgd]
  rw [if_pos hw]
  obtain ⟨w', hrun, h2, h3⟩ := run_copy_sl (P := P) dT sT o.type elem hu hsz h j dp sp dLen dCap sLen sCap cs hn hj hpos h1
  unfold Oper.wp execOp
  simp only [ho, resolve, invoke, builtin, Sem.run_bind, Sem.run_pure, Result.andThen_ok, List.map_toArray, List.map_cons, List.map_nil, hd, hs, hrun]
  exact hK w' h2 h3
end

/-! ### Cells in a row -/
theorem heap_setCells {T : TypeId} {g : Nat} : ∀ (vs : List Value) (o : Nat) {w : World} {cs : Array Value}, w.heap[g]? = some (.cells cs T (0, 0)) → o + vs.length ≤ cs.size → (w.setCells g o vs).heap[g]? = some (.cells (splice cs.toList o vs).toArray T (0, 0))
  | [], o, w, cs, h, _ => by simpa [World.setCells, splice] using h
  | v :: vs, o, w, cs, h, hl => by
    simp only [List.length_cons] at hl
    have h1 := heap_setCells vs (o + 1) (heap_set_same (i := o) (u := v) h) (by simp; omega)
    show ((w.setCell ⟨g, o, none⟩ v).setCells g (o + 1) vs).heap[g]? = _
    rw [h1, Array.toList_setIfInBounds, splice_cons _ _ _ _ (by rw [Array.length_toList]; omega)]
theorem only_setCells (g : Nat) : ∀ (vs : List Value) (o : Nat) (w : World), Only (· = g) w (w.setCells g o vs)
  | [], _, w => Only.refl _ w
  | v :: vs, o, w => ((Only.refl (· = g) w).setCell (p := ⟨g, o, none⟩) (.inl rfl) v).trans (only_setCells g vs (o + 1) _)
/-- A slice of ours is written from place j on, up to the capacity. -/
theorem Sl.over {w : World} {T : TypeId} {g off n c : Nat} {xs : List Value} (h : Sl w T 1 (.slice (some ⟨g, off, none⟩) n c) n xs) (j : Nat) (ys : List Value) (m : Nat) (hj : j + ys.length ≤ c) (hm : m ≤ c) (hjn : j ≤ n) (hm2 : m ≤ j + ys.length ∨ m ≤ n) :
    Sl (w.setCells g (off + j) ys) T 1 (.slice (some ⟨g, off, none⟩) m c) m ((splice xs j ys).take m) := by
  have hxl : xs.length = n := by rw [h.1, Nat.mul_one]
  rcases h.2 with ⟨e, _⟩ | ⟨g', off', cap, cur, e, hg, hnc, hcm, hfit, htake⟩
  · cases e
  · injection e with e1 _ e2
    injection e1 with e1
    injection e1 with e3 e4
    subst e3 e4 e2
    rw [Nat.mul_one] at hfit htake
    have hcl : off + c ≤ cur.toList.length := by rw [Array.length_toList]; omega
    refine ⟨?_, .inr ⟨g, off, c, _, rfl, heap_setCells ys (off + j) hg (by omega), hm, hcm, ?_, ?_⟩⟩
    · rw [Nat.mul_one, List.length_take]
      unfold splice
      simp only [List.length_append, List.length_take, List.length_drop]
      omega
    · rw [Nat.mul_one, List.size_toArray, splice_len _ _ _ (by omega)]
      exact hcl
    · rw [Nat.mul_one, List.toList_toArray, splice_drop _ _ _ _ (by omega), splice_take _ n j m _ hjn (by rw [List.length_drop]; omega) hm2, htake]
theorem ints_append (A B : List Nat) : ints (A ++ B) = ints A ++ ints B := by simp [ints]
theorem ints_take (A : List Nat) (m : Nat) : ints (A.take m) = (ints A).take m := by simp [ints]
theorem ints_drop (A : List Nat) (m : Nat) : ints (A.drop m) = (ints A).drop m := by simp [ints]
theorem ints_size (A : List Nat) : (ints A).length = A.length := by simp [ints]
abbrev IntSl (w : World) (v : Value) (F : List Nat) : Prop := Sl w 3 1 v F.length (ints F)

/-! ### The contracts -/
set_option maxRecDepth 100000 in
theorem bs_any (F : List Nat) (x : Nat) (v : Value) (w : World) (h : IntSl w v F) (hs : F.Pairwise (· ≤ ·)) (hl : F.length ≤ 1000000) :
    Calls Tryd.prog 42 #[v, .int .i64 (x : Int)] w fun e w' => ∃ b, e = .returned (.tuple #[.int .i64 ((F.countP (· < x) : Nat) : Int), .bool b]) ∧ ∃ q, w' = w.drewN q := by
  rcases Nat.eq_zero_or_pos F.length with h0 | h0
  · obtain rfl : F = [] := List.eq_nil_of_length_eq_zero h0
    obtain ⟨A, c, rfl, _⟩ := h.form
    refine (Tryd.slices_BinarySearch_int_empty A c (x : Int) w).mono ?_
    rintro e w' ⟨rfl, rfl⟩
    exact ⟨false, rfl, 0, rfl⟩
  · obtain ⟨g, off, c, rfl, _, _, hc, _, _⟩ := h.at_ h0
    have hzl : (F.map fun c : Nat => (c : Int)).length = F.length := by simp
    refine (Tryd.slices_BinarySearch_int g off F.length c (F.map fun c : Nat => (c : Int)) (x : Int) w (by omega) (by omega) (fun j hj => ?_) ?_).mono ?_
    · refine hc j _ ?_
      rw [hzl] at hj
      simp [ints, List.getD, hj]
    · rw [List.take_of_length_le (by omega)]
      exact hs.map _ fun a b hab => by exact_mod_cast hab
    · rintro e w' ⟨rfl, q⟩
      have e1 : ((F.map fun c : Nat => (c : Int)).take F.length).countP (· < (x : Int)) = F.countP (· < x) := by
        rw [List.take_of_length_le (by omega), List.countP_map]
        congr 1
        funext y
        simp [Function.comp]
      refine ⟨((F.map fun c : Nat => (c : Int)).take F.length).contains (x : Int), ?_, q⟩
      rw [e1]
set_option maxRecDepth 100000 in
theorem del_any (F : List Nat) (i j : Nat) (v : Value) (w : World) (h : IntSl w v F) (hij : i ≤ j) (hj : j ≤ F.length) :
    Calls Tryd.prog 44 #[v, .int .i64 (i : Int), .int .i64 (j : Int)] w fun e w' => ∃ v', e = .returned v' ∧ IntSl w' v' (F.take i ++ F.drop j) ∧ Only (fun b => v.ownBlock = some b) w w' ∧ v'.ownBlock = v.ownBlock := by
  rcases Nat.eq_zero_or_pos F.length with h0 | h0
  · obtain rfl : F = [] := List.eq_nil_of_length_eq_zero h0
    obtain rfl : j = 0 := by simpa using hj
    obtain rfl : i = 0 := by omega
    have h' := h
    obtain ⟨A, c, rfl, _⟩ := h.form
    refine (Tryd.slices_Delete_int_empty A c w).mono ?_
    rintro e w' ⟨rfl, rfl⟩
    exact ⟨_, rfl, by simpa using h', Only.refl _ _, rfl⟩
  · obtain ⟨g, off, c, rfl, hnc, hcm, hc, hfz, _⟩ := h.at_ h0
    have hzl : (F.map fun c : Nat => (c : Int)).length = F.length := by simp
    refine (Tryd.slices_Delete_int_cells g off F.length c i j (F.map fun c : Nat => (c : Int)) w (by omega) hnc (by unfold maxLen at hcm; omega) hij hj (fun j hj => ?_) (fun j _ => hfz _)).mono ?_
    · refine hc j _ ?_
      rw [hzl] at hj
      simp [ints, List.getD, hj]
    · rintro e w' ⟨rfl, q, rfl⟩
      have hlen : (F.take i ++ F.drop j).length = F.length - (j - i) := by simp; omega
      have e1 : ((((F.map fun c : Nat => (c : Int)).take F.length).take i ++ ((F.map fun c : Nat => (c : Int)).take F.length).drop j ++ List.replicate (j - i) 0).map (Value.int .i64)) = ints (F.take i ++ F.drop j) ++ List.replicate (j - i) (.int .i64 0) := by
        rw [List.take_of_length_le (l := F.map _) (by omega)]
        simp [ints, List.map_append, List.map_take, List.map_drop, List.map_map, Function.comp_def]
      have hsz := ints_size (F.take i ++ F.drop j)
      rw [e1]
      have h2 := Sl.over (h.drewN q) 0 (ints (F.take i ++ F.drop j) ++ List.replicate (j - i) (.int .i64 0)) (F.length - (j - i)) (by rw [List.length_append, List.length_replicate]; omega) (by omega) (by omega) (.inr (by omega))
      refine ⟨_, rfl, ?_, (((Only.refl _ w).drewN q).trans (only_setCells g _ _ _)).mono (fun b _ hb => by subst hb; rfl), rfl⟩
      unfold IntSl
      rw [hlen]
      have e2 : (splice (ints F) 0 (ints (F.take i ++ F.drop j) ++ List.replicate (j - i) (.int .i64 0))).take (F.length - (j - i)) = ints (F.take i ++ F.drop j) := by
        unfold splice
        rw [List.take_zero, List.nil_append, List.append_assoc, List.take_append_of_le_length (by omega), List.take_of_length_le (by omega)]
      rw [e2, Nat.add_zero] at h2
      exact h2
end Go.Proofs.YtbljppcaikhjhaaDoor
