/- Lists of ints: Delete, BinarySearch, Insert. No condition but those written. -/
import Derived.Test.YtnbhejbpofjamaaGreatDoorBru
import Derived.Test.YtnbhejbpofjamaaGreatDoorOwn
import Derived.Laws.CopyOwn
import Derived.Laws.ResultCell
import Derived.Shelf.Spec.SlicesInsert
import Derived.Shelf.Spec.SlicesInsertGrow
namespace Go.Proofs.YtnbhejbpofjamaaGreatDoor
open Go.RowKit

/-! ### Lists with a piece laid over -/
theorem splice_get {α : Type} (L : List α) (o : Nat) (ys : List α) (ho : o ≤ L.length) (i : Nat) : (splice L o ys)[i]? = if i < o then L[i]? else if i < o + ys.length then ys[i - o]? else L[i]? := by
  unfold splice
  rw [List.getElem?_append, List.length_take, Nat.min_eq_left ho]
  split
  · rw [List.getElem?_take, if_pos (by assumption)]
  · rw [List.getElem?_append]
    split
    · rw [if_pos (by omega)]
    · rw [if_neg (by omega), List.getElem?_drop]
      congr 1
      omega
theorem splice_drop {α : Type} (L : List α) (off j : Nat) (ys : List α) (h : off + j ≤ L.length) : (splice L (off + j) ys).drop off = splice (L.drop off) j ys := by
  apply List.ext_getElem?
  intro i
  rw [List.getElem?_drop, splice_get _ _ _ h, splice_get _ _ _ (by rw [List.length_drop]; omega), List.getElem?_drop]
  by_cases h1 : i < j
  · rw [if_pos (by omega), if_pos h1]
  · rw [if_neg (by omega), if_neg h1]
    by_cases h2 : i < j + ys.length
    · rw [if_pos (by omega), if_pos h2]
      congr 1
      omega
    · rw [if_neg (by omega), if_neg h2]
theorem splice_take {α : Type} (L : List α) (n j m : Nat) (ys : List α) (hj : j ≤ n) (hn : n ≤ L.length) (hm : m ≤ j + ys.length ∨ m ≤ n) : (splice L j ys).take m = (splice (L.take n) j ys).take m := by
  apply List.ext_getElem?
  intro i
  rw [List.getElem?_take, List.getElem?_take]
  split
  · rw [splice_get _ _ _ (by omega), splice_get _ _ _ (by rw [List.length_take]; omega), List.getElem?_take]
    by_cases h1 : i < j
    · rw [if_pos h1, if_pos h1, if_pos (by omega)]
    · rw [if_neg h1, if_neg h1]
      by_cases h2 : i < j + ys.length
      · rw [if_pos h2, if_pos h2]
      · rw [if_neg h2, if_neg h2, if_pos (by omega)]
  · rfl
theorem splice_cons {α : Type} [Inhabited α] (L : List α) (o : Nat) (v : α) (vs : List α) (h : o < L.length) : splice (L.set o v) (o + 1) vs = splice L o (v :: vs) := by
  apply List.ext_getElem?
  intro i
  rw [splice_get _ _ _ (by rw [List.length_set]; omega), splice_get _ _ _ (by omega), List.getElem?_set, List.length_cons]
  by_cases h1 : i < o
  · rw [if_pos (by omega), if_pos h1, if_neg (by omega)]
  · by_cases h2 : i = o
    · subst h2
      rw [if_pos (by omega), if_neg h1, if_pos rfl, if_pos h, if_pos (by omega), Nat.sub_self]
      rfl
    · rw [if_neg (by omega), if_neg h1]
      by_cases h3 : i < o + 1 + vs.length
      · rw [if_pos h3, if_pos (by omega), show i - o = (i - (o + 1)) + 1 by omega]
        rfl
      · rw [if_neg h3, if_neg (by omega), if_neg (by omega)]
theorem splice_len {α : Type} (L : List α) (o : Nat) (ys : List α) (h : o + ys.length ≤ L.length) : (splice L o ys).length = L.length := length_splice L o ys h

section
variable {P : Program} {w w' : World} {T : TypeId} {g off n c : Nat} {xs : List Value}
/-- copy into a slice of ours, from place j on. -/
theorem run_copy_sl (dT sT ty elem : TypeId) (hu : P.underlying dT = some (.slice elem)) (hsz : (P.info? elem).map (·.size) = some 1) (h : Sl w T 1 (.slice (some ⟨g, off, none⟩) n c) n xs) (j : Nat) (dp sp : Option Addr) (dLen dCap sLen sCap : Nat)
    (cs : List Value) (hn : cs.length = Nat.min sLen dLen) (hj : j + cs.length ≤ n) (hpos : 0 < cs.length → dp = some ⟨g, off + j, none⟩ ∧ ∃ b o, sp = some ⟨b, o, none⟩ ∧ ∀ i v, cs[i]? = some v → w.cell? ⟨b, o + i, none⟩ = some v) (h1 : ∀ v ∈ cs, v.oneCell' = true) :
    ∃ w', (Builtin.copy_ #[dT, sT] ty #[.slice dp dLen dCap, .slice sp sLen sCap]).run P w = .ok (goInt cs.length) w' ∧ Sl w' T 1 (.slice (some ⟨g, off, none⟩) n c) n (splice xs j cs) ∧ Only (· = g) w w' := by
  have hxl : xs.length = n := by rw [h.1, Nat.mul_one]
  by_cases h0 : cs.length = 0
  · obtain rfl : cs = [] := List.eq_nil_of_length_eq_zero h0
    refine ⟨w, run_copy_none (P := P) w dT sT ty elem dp sp dLen dCap sLen sCap hu hsz (by simpa using hn.symm), ?_, Only.refl _ _⟩
    simpa [splice] using h
  · obtain ⟨rfl, b, o, rfl, hsrc⟩ := hpos (by omega)
    rcases h.2 with ⟨e, _⟩ | ⟨g', off', cap, cur, e, hg, hnc, hcm, hfit, htake⟩
    · cases e
    · injection e with e1 _ e2
      injection e1 with e1
      injection e1 with e3 e4
      subst e3 e4 e2
      rw [Nat.mul_one] at hfit htake
      have hrun := run_copy_row (P := P) w dT sT ty elem g (off + j) dLen dCap ⟨b, o, none⟩ sLen sCap cur T cs hu hsz hg hn (fun i v hv => by rw [Addr.add_lit]; exact hsrc i v hv) (by omega) h1
      have hcl : off + c ≤ cur.toList.length := by rw [Array.length_toList]; omega
      have hsp : cur.toList.take (off + j) ++ cs ++ cur.toList.drop (off + j + cs.length) = splice cur.toList (off + j) cs := by unfold splice; rw [List.append_assoc]
      rw [List.append_assoc] at hsp
      refine ⟨_, hrun, ⟨?_, .inr ⟨g, off, c, _, rfl, setRow_heap w g _ _ T _ hg, hnc, hcm, ?_, ?_⟩⟩, ⟨rfl, rfl, rfl, by simp [World.setRow], fun k _ hk => setRow_other w g k _ (fun e => hk e)⟩⟩
      · rw [splice_len _ _ _ (by omega), Nat.mul_one, hxl]
      · rw [Nat.mul_one, List.append_assoc, hsp, List.size_toArray, splice_len _ _ _ (by omega)]
        exact hcl
      · rw [Nat.mul_one, List.append_assoc, hsp, List.toList_toArray, splice_drop _ _ _ _ (by omega), splice_take _ n j n _ (by omega) (by rw [List.length_drop]; omega) (.inr (Nat.le_refl _)), htake]
        exact List.take_of_length_le (by rw [splice_len _ _ _ (by omega)]; omega)
theorem step_copy_sl {ops : Array Oper} {o : Oper} {a : Act} {K : Act → World → Prop} {Q : Exit → Act → World → Prop} {E : Prop} (hgd : o.guard = none) (d s : Operand) (dT sT : TypeId)
    (ho : o.op = .call { callee := .builtin .copy, args := #[d, s], argTypes := #[dT, sT] }) (elem : TypeId) (hu : P.underlying dT = some (.slice elem)) (hsz : (P.info? elem).map (·.size) = some 1) (h : Sl w T 1 (.slice (some ⟨g, off, none⟩) n c) n xs) (j : Nat) (dp sp : Option Addr) (dLen dCap sLen sCap : Nat)
    (hd : a.eval d = .slice dp dLen dCap) (hs : a.eval s = .slice sp sLen sCap)
    (cs : List Value) (hn : cs.length = Nat.min sLen dLen) (hj : j + cs.length ≤ n) (hpos : 0 < cs.length → dp = some ⟨g, off + j, none⟩ ∧ ∃ b o, sp = some ⟨b, o, none⟩ ∧ ∀ i v, cs[i]? = some v → w.cell? ⟨b, o + i, none⟩ = some v) (h1 : ∀ v ∈ cs, v.oneCell' = true)
    (hK : ∀ w', Sl w' T 1 (.slice (some ⟨g, off, none⟩) n c) n (splice xs j cs) → Only (· = g) w w' → K (a.put o.dst (goInt cs.length)) w') : if Region.wanted o (yielded ops a.tmps) = true then Oper.wp P o a w K Q else E := by
  have hw : Region.wanted o (yielded ops a.tmps) = true := by simp [Region.wanted, hgd]
  rw [if_pos hw]
  obtain ⟨w', hrun, h2, h3⟩ := run_copy_sl (P := P) dT sT o.type elem hu hsz h j dp sp dLen dCap sLen sCap cs hn hj hpos h1
  unfold Oper.wp execOp
  simp only [ho, resolve, invoke, builtin, Sem.run_bind, Sem.run_pure, Result.andThen_ok, List.map_toArray, List.map_cons, List.map_nil, hd, hs, hrun]
  exact hK w' h2 h3
end

/-! ### Cells in a row -/
theorem heap_setCells {T : TypeId} {g : Nat} : ∀ (vs : List Value) (o : Nat) {w : World} {cs : Array Value}, w.heap[g]? = some (.cells cs T (0, 0)) → o + vs.length ≤ cs.size → (w.setCells g o vs).heap[g]? = some (.cells (splice cs.toList o vs).toArray T (0, 0))
  | [], o, w, cs, h, _ => by simpa [World.setCells, splice] using h
  | v :: vs, o, w, cs, h, hl => by
    simp only [List.length_cons] at hl
    have h1 := heap_setCells vs (o + 1) (heap_set_same (i := o) (u := v) h) (by simp; omega)
    show ((w.setCell ⟨g, o, none⟩ v).setCells g (o + 1) vs).heap[g]? = _
    rw [h1, Array.toList_setIfInBounds, splice_cons _ _ _ _ (by rw [Array.length_toList]; omega)]
theorem only_setCells (g : Nat) : ∀ (vs : List Value) (o : Nat) (w : World), Only (· = g) w (w.setCells g o vs)
  | [], _, w => Only.refl _ w
  | v :: vs, o, w => ((Only.refl (· = g) w).setCell (p := ⟨g, o, none⟩) (.inl rfl) v).trans (only_setCells g vs (o + 1) _)
/-- A slice of ours is written from place j on, up to the capacity. -/
theorem Sl.over {w : World} {T : TypeId} {g off n c : Nat} {xs : List Value} (h : Sl w T 1 (.slice (some ⟨g, off, none⟩) n c) n xs) (j : Nat) (ys : List Value) (m : Nat) (hj : j + ys.length ≤ c) (hm : m ≤ c) (hjn : j ≤ n) (hm2 : m ≤ j + ys.length ∨ m ≤ n) :
    Sl (w.setCells g (off + j) ys) T 1 (.slice (some ⟨g, off, none⟩) m c) m ((splice xs j ys).take m) := by
  have hxl : xs.length = n := by rw [h.1, Nat.mul_one]
  rcases h.2 with ⟨e, _⟩ | ⟨g', off', cap, cur, e, hg, hnc, hcm, hfit, htake⟩
  · cases e
  · injection e with e1 _ e2
    injection e1 with e1
    injection e1 with e3 e4
    subst e3 e4 e2
    rw [Nat.mul_one] at hfit htake
    have hcl : off + c ≤ cur.toList.length := by rw [Array.length_toList]; omega
    refine ⟨?_, .inr ⟨g, off, c, _, rfl, heap_setCells ys (off + j) hg (by omega), hm, hcm, ?_, ?_⟩⟩
    · rw [Nat.mul_one, List.length_take]
      unfold splice
      simp only [List.length_append, List.length_take, List.length_drop]
      omega
    · rw [Nat.mul_one, List.size_toArray, splice_len _ _ _ (by omega)]
      exact hcl
    · rw [Nat.mul_one, List.toList_toArray, splice_drop _ _ _ _ (by omega), splice_take _ n j m _ hjn (by rw [List.length_drop]; omega) hm2, htake]
theorem ints_append (A B : List Nat) : ints (A ++ B) = ints A ++ ints B := by simp [ints]
theorem ints_take (A : List Nat) (m : Nat) : ints (A.take m) = (ints A).take m := by simp [ints]
theorem ints_drop (A : List Nat) (m : Nat) : ints (A.drop m) = (ints A).drop m := by simp [ints]
theorem ints_size (A : List Nat) : (ints A).length = A.length := by simp [ints]
abbrev IntSl (w : World) (v : Value) (F : List Nat) : Prop := Sl w 3 1 v F.length (ints F)

/-! ### The contracts -/
set_option maxRecDepth 100000 in
theorem bs_any (F : List Nat) (x : Nat) (v : Value) (w : World) (h : IntSl w v F) (hs : F.Pairwise (· ≤ ·)) (hl : F.length ≤ 1000000) :
    Calls Tryz.prog 165 #[v, .int .i64 (x : Int)] w fun e w' => ∃ b, e = .returned (.tuple #[.int .i64 ((F.countP (· < x) : Nat) : Int), .bool b]) ∧ ∃ q, w' = w.drewN q := by
  rcases Nat.eq_zero_or_pos F.length with h0 | h0
  · obtain rfl : F = [] := List.eq_nil_of_length_eq_zero h0
    obtain ⟨A, c, rfl, _⟩ := h.form
    refine (Tryz.slices_BinarySearch_int_empty A c (x : Int) w).mono ?_
    rintro e w' ⟨rfl, rfl⟩
    exact ⟨false, rfl, 0, rfl⟩
  · obtain ⟨g, off, c, rfl, _, _, hc, _, _⟩ := h.at_ h0
    have hzl : (F.map fun c : Nat => (c : Int)).length = F.length := by simp
    refine (Tryz.slices_BinarySearch_int g off F.length c (F.map fun c : Nat => (c : Int)) (x : Int) w (by omega) (by omega) (fun j hj => ?_) ?_).mono ?_
    · refine hc j _ ?_
      rw [hzl] at hj
      simp [ints, List.getD, hj]
    · rw [List.take_of_length_le (by omega)]
      exact hs.map _ fun a b hab => by exact_mod_cast hab
    · rintro e w' ⟨rfl, q⟩
      have e1 : ((F.map fun c : Nat => (c : Int)).take F.length).countP (· < (x : Int)) = F.countP (· < x) := by
        rw [List.take_of_length_le (by omega), List.countP_map]
        congr 1
        funext y
        simp [Function.comp]
      refine ⟨((F.map fun c : Nat => (c : Int)).take F.length).contains (x : Int), ?_, q⟩
      rw [e1]
set_option maxRecDepth 100000 in
theorem del_any (F : List Nat) (i j : Nat) (v : Value) (w : World) (h : IntSl w v F) (hij : i ≤ j) (hj : j ≤ F.length) :
    Calls Tryz.prog 91 #[v, .int .i64 (i : Int), .int .i64 (j : Int)] w fun e w' => ∃ v', e = .returned v' ∧ IntSl w' v' (F.take i ++ F.drop j) ∧ Only (fun b => v.ownBlock = some b) w w' ∧ v'.ownBlock = v.ownBlock := by
  rcases Nat.eq_zero_or_pos F.length with h0 | h0
  · obtain rfl : F = [] := List.eq_nil_of_length_eq_zero h0
    obtain rfl : j = 0 := by simpa using hj
    obtain rfl : i = 0 := by omega
    have h' := h
    obtain ⟨A, c, rfl, _⟩ := h.form
    refine (Tryz.slices_Delete_int_empty A c w).mono ?_
    rintro e w' ⟨rfl, rfl⟩
    exact ⟨_, rfl, by simpa using h', Only.refl _ _, rfl⟩
  · obtain ⟨g, off, c, rfl, hnc, hcm, hc, hfz, _⟩ := h.at_ h0
    have hzl : (F.map fun c : Nat => (c : Int)).length = F.length := by simp
    refine (Tryz.slices_Delete_int_cells g off F.length c i j (F.map fun c : Nat => (c : Int)) w (by omega) hnc (by unfold maxLen at hcm; omega) hij hj (fun j hj => ?_) (fun j _ => hfz _)).mono ?_
    · refine hc j _ ?_
      rw [hzl] at hj
      simp [ints, List.getD, hj]
    · rintro e w' ⟨rfl, q, rfl⟩
      have hlen : (F.take i ++ F.drop j).length = F.length - (j - i) := by simp; omega
      have e1 : ((((F.map fun c : Nat => (c : Int)).take F.length).take i ++ ((F.map fun c : Nat => (c : Int)).take F.length).drop j ++ List.replicate (j - i) 0).map (Value.int .i64)) = ints (F.take i ++ F.drop j) ++ List.replicate (j - i) (.int .i64 0) := by
        rw [List.take_of_length_le (l := F.map _) (by omega)]
        simp [ints, List.map_append, List.map_take, List.map_drop, List.map_map, Function.comp_def]
      have hsz := ints_size (F.take i ++ F.drop j)
      rw [e1]
      have h2 := Sl.over (h.drewN q) 0 (ints (F.take i ++ F.drop j) ++ List.replicate (j - i) (.int .i64 0)) (F.length - (j - i)) (by rw [List.length_append, List.length_replicate]; omega) (by omega) (by omega) (.inr (by omega))
      refine ⟨_, rfl, ?_, (((Only.refl _ w).drewN q).trans (only_setCells g _ _ _)).mono (fun b _ hb => by subst hb; rfl), rfl⟩
      unfold IntSl
      rw [hlen]
      have e2 : (splice (ints F) 0 (ints (F.take i ++ F.drop j) ++ List.replicate (j - i) (.int .i64 0))).take (F.length - (j - i)) = ints (F.take i ++ F.drop j) := by
        unfold splice
        rw [List.take_zero, List.nil_append, List.append_assoc, List.take_append_of_le_length (by omega), List.take_of_length_le (by omega)]
      rw [e2, Nat.add_zero] at h2
      exact h2
end Go.Proofs.YtnbhejbpofjamaaGreatDoor
namespace Go.Proofs.YtnbhejbpofjamaaGreatDoor
open Go.RowKit

theorem shape_of {w : World} {g : Nat} {cs : Array Value} {T : TypeId} (h : w.heap[g]? = some (.cells cs T (0, 0))) : w.shape? g = some (T, cs.size) := by
  simp [World.shape?, h]
/-- What Insert leaves. -/
def InsRes (w : World) (v : Value) (L : List Nat) (e : Ending) (w' : World) : Prop :=
  ∃ v', e = .returned v' ∧ IntSl w' v' L ∧ Only (fun b => v.ownBlock = some b) w w' ∧ (v'.ownBlock = v.ownBlock ∨ v'.ownBlock = some w.heap.size)
set_option maxRecDepth 100000 in
theorem ins_none (F : List Nat) (i : Nat) (v : Value) (A : Option Addr) (c : Nat) (w : World) (h : IntSl w v F) (hi : i ≤ F.length) (_hl : F.length ≤ 1000000) :
    Calls Tryz.prog 67 #[v, .int .i64 (i : Int), .slice A 0 c] w (InsRes w v (F.take i ++ [] ++ F.drop i)) := by
  have HE := hide (show F.take i ++ [] ++ F.drop i = F by rw [List.append_nil, List.take_append_drop])
  have H := hide h
  obtain ⟨B, d, rfl, hnd, hd⟩ := h.form
  unfold maxLen at hd
  clear h
  have h0 : (0 : Int) ≤ (i : Int) := by omega
  have h1 : (i : Int) ≤ (F.length : Int) := by omega
  by_cases hc : i = d
  · subst hc
    go_enter Tryz.func67, Tryz.ntmps67
    go_wp2
    go_ret
    exact ⟨_, rfl, by rw [HE.out]; exact H.out, Only.refl _ _, .inl rfl⟩
  · go_enter Tryz.func67, Tryz.ntmps67
    go_wp2
    go_ret
    exact ⟨_, rfl, by rw [HE.out]; exact H.out, Only.refl _ _, .inl rfl⟩
theorem zeros_len (k : Nat) : (Builtin.zeroCells (Value.int .i64 0).cells k).size = k := by
  rw [size_zeroCells]
  simp [Value.cells]
/-- A slice of ours with more of its capacity. -/
theorem Sl.more {w : World} {T : TypeId} {g off n c : Nat} {xs : List Value} (h : Sl w T 1 (.slice (some ⟨g, off, none⟩) n c) n xs) (m : Nat) (h1 : n ≤ m) (h2 : m ≤ c) : ∃ zs, Sl w T 1 (.slice (some ⟨g, off, none⟩) m c) m zs ∧ zs.take n = xs := by
  rcases h.2 with ⟨e, _⟩ | ⟨g', off', cap, cur, e, hg, hnc, hcm, hfit, htake⟩
  · cases e
  · injection e with e1 _ e2
    injection e1 with e1
    injection e1 with e3 e4
    subst e3 e4 e2
    rw [Nat.mul_one] at hfit htake
    refine ⟨(cur.toList.drop off).take m, ⟨?_, .inr ⟨g, off, c, cur, rfl, hg, h2, hcm, by omega, by rw [Nat.mul_one]⟩⟩, ?_⟩
    · rw [Nat.mul_one, List.length_take, List.length_drop, Array.length_toList]
      omega
    · rw [List.take_take, Nat.min_eq_left h1]
      exact htake
/-- The tail moved up, and a piece laid between. -/
theorem splice_shift {zs xs vs : List Value} {n m i : Nat} (hz : zs.length = n + m) (hx : zs.take n = xs) (hxl : xs.length = n) (hv : vs.length = m) (hi : i ≤ n) : (splice (splice zs (i + m) (xs.drop i)) i vs) = xs.take i ++ vs ++ xs.drop i := by
  have e1 : splice zs (i + m) (xs.drop i) = zs.take (i + m) ++ xs.drop i := by
    unfold splice
    rw [List.length_drop, hxl, List.drop_eq_nil_of_le (show zs.length ≤ i + m + (n - i) by omega), List.append_nil]
  rw [e1]
  unfold splice
  rw [hv, List.take_append_of_le_length (by rw [List.length_take]; omega), List.take_take, Nat.min_eq_left (by omega), List.drop_append_of_le_length (by rw [List.length_take]; omega), List.drop_eq_nil_of_le (by rw [List.length_take]; omega), List.nil_append, List.append_assoc]
  congr 1
  rw [← hx, List.take_take, Nat.min_eq_left hi]
theorem ins_some (F X : List Nat) (i : Nat) (v u : Value) (w : World) (h : IntSl w v F) (hx : IntSl w u X) (hne : ∀ g, v.ownBlock = some g → u.ownBlock ≠ some g) (hi : i ≤ F.length) (hl : F.length ≤ 1000000) (hX : X.length ≤ 1000000) (hp : 0 < X.length) :
    Calls Tryz.prog 67 #[v, .int .i64 (i : Int), u] w (InsRes w v (F.take i ++ X ++ F.drop i)) := by
  have hsF := ints_size F
  have hsX := ints_size X
  obtain ⟨vb, voff, vc, rfl, _, _, hvs, hvf, _⟩ := hx.at_ hp
  have hlen : (F.take i ++ X ++ F.drop i).length = F.length + X.length := by simp; omega
  have hints : ints (F.take i ++ X ++ F.drop i) = (ints F).take i ++ ints X ++ (ints F).drop i := by rw [ints_append, ints_append, ints_take, ints_drop]
  obtain ⟨B, c, rfl, hnc, hcm⟩ := h.form
  have hcm' : c ≤ 9223372036854775807 := by unfold maxLen at hcm; exact hcm
  have hgrown : ∀ (w1 w2 : World) (cs : Array Value), w2 = w1.alloc (.cells cs 3) → w1.heap.size = w.heap.size → Only (fun _ => False) w w1 → F.length + X.length ≤ grownCap w (F.length + X.length) c 3 → grownCap w (F.length + X.length) c 3 ≤ cs.size → grownCap w (F.length + X.length) c 3 ≤ maxLen → cs.toList.take (F.length + X.length) = (ints F).take i ++ ints X ++ (ints F).drop i →
      InsRes w (.slice B F.length c) (F.take i ++ X ++ F.drop i) (.returned (.slice (some ⟨w.heap.size, 0, none⟩) (F.length + X.length) (grownCap w (F.length + X.length) c 3))) w2 := by
    rintro w1 w2 cs rfl hsz ho h1 h2 h3 h4
    refine ⟨_, rfl, ?_, (ho.alloc _).mono (fun _ _ f => f.elim), .inr rfl⟩
    unfold IntSl
    rw [hlen, hints]
    have h5 : F.length + X.length ≤ cs.toList.length := by rw [Array.length_toList]; exact Nat.le_trans h1 h2
    refine ⟨by rw [← h4, List.length_take, Nat.min_eq_left h5, Nat.mul_one], .inr ⟨w.heap.size, 0, _, cs, rfl, ?_, h1, h3, by omega, ?_⟩⟩
    · rw [← hsz]; exact heap_alloc_new w1 _
    · rw [Nat.mul_one, List.drop_zero]; exact h4
  have hge := grownCap_ge w (F.length + X.length) c 3
  have hgm := grownCap_le_maxLen w (F.length + X.length) c 3 (by unfold maxLen; omega)
  by_cases hroom : F.length + X.length ≤ c
  · -- there is room: then the slice has a block
    rcases h.2 with ⟨e, _⟩ | ⟨g, off, cap, cur, e, hg, _, _, hfit, htake⟩
    · injection e with _ _ e3
      omega
    · injection e with e1 _ e2
      subst e1 e2
      have hblk : vb ≠ g := fun e => hne g rfl (by rw [e]; rfl)
      have hcl : off + c ≤ cur.size := by omega
      have hsp : ∀ j, j < c → (w.cell? ⟨g, off + j, none⟩).isSome = true := fun j hj => by
        rw [cell_of_row w g (off + j) cur 3 (0, 0) hg, Array.getElem?_eq_getElem (by omega)]
        rfl
      have hfz : ∀ j, w.frozen? ⟨g, j, none⟩ = false := fun j => by simp [World.frozen?, hg]
      have hcs : ∀ j v, (ints F)[j]? = some v → w.cell? ⟨g, off + j, none⟩ = some v := fun j v hv => by
        rcases Nat.eq_zero_or_pos F.length with h0 | h0
        · have := (List.getElem?_eq_some_iff.1 hv).1
          omega
        · obtain ⟨g', off', c', e', _, _, hc', _⟩ := h.at_ h0
          injection e' with e1 _ _
          injection e1 with e1
          injection e1 with e3 e4
          subst e3 e4
          exact hc' j v hv
      by_cases hin : i < F.length
      · rcases hx.2 with ⟨e, _⟩ | ⟨g2, off2, cap2, cur2, e2, hg2, _, _, _, _⟩
        · cases e
        · injection e2 with e3 _ _
          injection e3 with e3
          injection e3 with e4 e5
          subst e4 e5
          refine (Any2.slices_Insert_int_shift Tryz.laysNm221 g off F.length c i vb voff X.length vc (ints F) (ints X) w hin hp hroom hcm' hblk hsF hsX hcs (fun j hj => hsp j (by omega)) (fun j _ => hfz _) hvs (ints_one F) (ints_one X) _ _ _ _ (shape_of hg2) (shape_of hg) (by omega) (hvf _) (hvf _)).mono ?_
          rintro e w' ⟨rfl, rfl⟩
          refine ⟨_, rfl, ?_, (((Only.refl _ w).drew.trans (only_setCells g _ _ _)).trans (only_setCells g _ _ _)).mono (fun b _ hb => by subst hb; rfl), .inl rfl⟩
          unfold IntSl
          rw [hlen, hints]
          obtain ⟨zs, hz, hzt⟩ := Sl.more h (F.length + X.length) (by omega) hroom
          have hzl : zs.length = F.length + X.length := by rw [hz.1, Nat.mul_one]
          have k1 := Sl.over hz.drew (i + X.length) ((ints F).drop i) (F.length + X.length) (by rw [List.length_drop]; omega) hroom (by omega) (.inr (Nat.le_refl _))
          rw [List.take_of_length_le (by rw [splice_len _ _ _ (by rw [List.length_drop]; omega)]; omega)] at k1
          have k2 := Sl.over k1 i (ints X) (F.length + X.length) (by omega) hroom (by omega) (.inr (Nat.le_refl _))
          rw [splice_shift hzl hzt hsF hsX (by omega), List.take_of_length_le (by rw [← hints, ints_size]; omega)] at k2
          exact k2
      · obtain rfl : i = F.length := by omega
        refine (Any2.slices_Insert_int_end_room Tryz.laysNm221 g off F.length c vb voff X.length vc (ints X) w hp hroom hcm' hsX (fun j hj => by rw [Nat.add_assoc]; exact hsp _ (by omega)) (fun j _ => hfz _) hvs (ints_one X)).mono ?_
        rintro e w' ⟨rfl, rfl⟩
        refine ⟨_, rfl, ?_, (only_setCells g _ _ _).mono (fun b _ hb => by subst hb; rfl), .inl rfl⟩
        unfold IntSl
        rw [hlen, hints]
        have k1 := Sl.over h F.length (ints X) (F.length + X.length) (by omega) hroom (Nat.le_refl _) (.inl (by omega))
        have e1 : (splice (ints F) F.length (ints X)).take (F.length + X.length) = (ints F).take F.length ++ ints X ++ (ints F).drop F.length := by
          unfold splice
          rw [List.drop_eq_nil_of_le (by omega), List.drop_eq_nil_of_le (by omega), List.append_nil, List.append_nil, List.take_of_length_le (by rw [List.length_append, List.length_take]; omega)]
        rw [e1] at k1
        exact k1
  · by_cases hin : i < F.length
    · obtain ⟨g, off, c', e, _, _, hcs, _, _⟩ := h.at_ (by omega)
      injection e with e1 _ e2
      subst e1 e2
      refine (Any2.slices_Insert_int_grow Tryz.laysNm221 g off F.length c i vb voff X.length vc (ints F) (ints X) w hin hp hnc (by omega) (by omega) hsF hsX hcs hvs (ints_one F) (ints_one X)).mono ?_
      rintro e w' ⟨rfl, rfl⟩
      have hz1 := zeros_len (F.length + X.length - i)
      have hz2 := zeros_len (grownCap w (F.length + X.length) c 3 - (F.length + X.length))
      obtain ⟨Z1, hZ1⟩ : ∃ Z1, Z1 = Builtin.zeroCells (Value.int .i64 0).cells (F.length + X.length - i) := ⟨_, rfl⟩
      obtain ⟨Z2, hZ2⟩ : ∃ Z2, Z2 = Builtin.zeroCells (Value.int .i64 0).cells (grownCap w (F.length + X.length) c 3 - (F.length + X.length)) := ⟨_, rfl⟩
      show InsRes w _ _ _ ((((w.alloc (.cells (((ints F).take i).toArray ++ Builtin.zeroCells (Value.int .i64 0).cells (F.length + X.length - i) ++ Builtin.zeroCells (Value.int .i64 0).cells (grownCap w (F.length + X.length) c 3 - (F.length + X.length))) 3)).drew.setCells w.heap.size i (ints X)).drew).setCells w.heap.size (i + X.length) ((ints F).drop i))
      rw [← hZ1, ← hZ2]
      rw [← hZ1] at hz1
      rw [← hZ2] at hz2
      clear hZ1 hZ2
      have htl : ((ints F).take i).length = i := by rw [List.length_take]; omega
      have hbl : (((ints F).take i).toArray ++ Z1 ++ Z2).size = grownCap w (F.length + X.length) c 3 := by
        simp only [Array.size_append, List.size_toArray]
        omega
      have b1 := heap_setCells (ints X) i (show (w.alloc (.cells (((ints F).take i).toArray ++ Z1 ++ Z2) 3)).drew.heap[w.heap.size]? = some (.cells (((ints F).take i).toArray ++ Z1 ++ Z2) 3 (0, 0)) from heap_alloc_new w _) (by omega)
      have e1 : (((ints F).take i).toArray ++ Z1 ++ Z2).toList = (ints F).take i ++ (Z1.toList ++ Z2.toList) := by simp
      have hs1 : splice (((ints F).take i).toArray ++ Z1 ++ Z2).toList i (ints X) = (ints F).take i ++ (ints X ++ (Z1.toList ++ Z2.toList).drop X.length) := by
        rw [e1]
        unfold splice
        rw [List.take_append_of_le_length (by omega), List.take_of_length_le (by omega), hsX, List.drop_append, List.drop_eq_nil_of_le (by omega), List.nil_append, htl, show i + X.length - i = X.length by omega]
      have hzl : (Z1.toList ++ Z2.toList).length = grownCap w (F.length + X.length) c 3 - i := by
        rw [List.length_append, Array.length_toList, Array.length_toList]
        omega
      rw [hs1] at b1
      have b2 := heap_setCells ((ints F).drop i) (i + X.length) (w := ((w.alloc (.cells (((ints F).take i).toArray ++ Z1 ++ Z2) 3)).drew.setCells w.heap.size i (ints X)).drew) b1 (by rw [List.size_toArray, List.length_append, List.length_append, List.length_drop, List.length_drop]; omega)
      have hs2 : ∃ r, splice ((ints F).take i ++ (ints X ++ (Z1.toList ++ Z2.toList).drop X.length)).toArray.toList (i + X.length) ((ints F).drop i) = ((ints F).take i ++ ints X ++ (ints F).drop i) ++ r ∧ (((ints F).take i ++ ints X ++ (ints F).drop i) ++ r).length = grownCap w (F.length + X.length) c 3 := by
        rw [List.toList_toArray, ← List.append_assoc]
        have hA : ((ints F).take i ++ ints X).length = i + X.length := by rw [List.length_append]; omega
        have hD : ((Z1.toList ++ Z2.toList).drop X.length).length = grownCap w (F.length + X.length) c 3 - i - X.length := by rw [List.length_drop]; omega
        generalize (ints F).take i ++ ints X = A at hA ⊢
        generalize (Z1.toList ++ Z2.toList).drop X.length = D at hD ⊢
        unfold splice
        refine ⟨(A ++ D).drop (i + X.length + ((ints F).drop i).length), ?_, ?_⟩
        · rw [List.take_append_of_le_length (by omega), List.take_of_length_le (by omega), List.append_assoc]
        · simp only [List.length_append, List.length_drop]
          omega
      obtain ⟨r, hr1, hr2⟩ := hs2
      rw [hr1] at b2
      refine ⟨_, rfl, ?_, ?_, .inr rfl⟩
      · unfold IntSl
        rw [hlen, hints]
        have hll : ((ints F).take i ++ ints X ++ (ints F).drop i).length = F.length + X.length := by rw [← hints, ints_size, hlen]
        refine ⟨by rw [hll, Nat.mul_one], .inr ⟨w.heap.size, 0, _, _, rfl, b2, hge, hgm, ?_, ?_⟩⟩
        · rw [Nat.zero_add, Nat.mul_one, List.size_toArray, hr2]
          exact Nat.le_refl _
        · rw [Nat.mul_one, List.drop_zero, List.toList_toArray, List.take_append_of_le_length (by omega), List.take_of_length_le (by omega)]
      · refine ((((Only.refl (· = w.heap.size) w).alloc _).drew.trans (only_setCells w.heap.size _ _ _)).drew.trans (only_setCells w.heap.size _ _ _)).mono (fun b hb e => ?_)
        omega
    · obtain rfl : i = F.length := by omega
      have hnil : B = none → F.length = 0 := by
        rintro rfl
        rcases Nat.eq_zero_or_pos F.length with h0 | h0
        · exact h0
        · obtain ⟨_, _, _, e, _⟩ := h.at_ h0
          cases e
      refine (Any2.slices_Insert_int_end_grow Tryz.laysNm221 B F.length c vb voff X.length vc (ints F) (ints X) w hp hnc (by omega) (by omega) hsF hsX hnil (fun a ha j v hv => ?_) hvs (ints_one X)).mono ?_
      · obtain ⟨g, off, c', e, _, _, hcs, _, _⟩ := h.at_ (by have := (List.getElem?_eq_some_iff.1 hv).1; omega)
        injection e with e1 _ e2
        rw [e1] at ha
        cases ha
        rw [Addr.add_lit]
        exact hcs j v hv
      · rintro e w' ⟨rfl, rfl⟩
        have hzl := zeros_len (grownCap w (F.length + X.length) c 3 - (F.length + X.length))
        refine hgrown w.drew _ _ rfl rfl (Only.refl _ _).drew hge ?_ hgm ?_
        · simp only [Array.size_append, List.size_toArray, List.length_append]
          show _ ≤ _ + (Builtin.zeroCells (Value.int .i64 0).cells (grownCap w (F.length + X.length) c 3 - (F.length + X.length))).size
          omega
        · rw [Array.toList_append, List.toList_toArray, List.take_append_of_le_length (by rw [List.length_append]; omega), List.take_of_length_le (by rw [List.length_append]; omega), List.take_of_length_le (by omega), List.drop_eq_nil_of_le (by omega), List.append_nil]
end Go.Proofs.YtnbhejbpofjamaaGreatDoor
