/- The contract of slices.Insert at lists of int. No condition but those written. -/
import Derived.Test.YtbljppcaikhjhaaDoorSlx
import Derived.Shelf.Spec.SlicesInsert
import Derived.Shelf.Spec.SlicesInsertGrow
namespace Go.Proofs.YtbljppcaikhjhaaDoor
open Go.RowKit

theorem shape_of {w : World} {g : Nat} {cs : Array Value} {T : TypeId} (h : w.heap[g]? = some (.cells cs T (0, 0))) : w.shape? g = some (T, cs.size) := by
  simp [World.shape?, h]
/-- What Insert leaves. -/
def InsRes (w : World) (v : Value) (L : List Nat) (e : Ending) (w' : World) : Prop :=
  ∃ v', e = .returned v' ∧ IntSl w' v' L ∧ Only (fun b => v.ownBlock = some b) w w' ∧ (v'.ownBlock = v.ownBlock ∨ v'.ownBlock = some w.heap.size)
set_option maxRecDepth 100000 in
theorem ins_none (F : List Nat) (i : Nat) (v : Value) (A : Option Addr) (c : Nat) (w : World) (h : IntSl w v F) (hi : i ≤ F.length) (hl : F.length ≤ 1000000) :
    Calls Tryd.prog 43 #[v, .int .i64 (i : Int), .slice A 0 c] w (InsRes w v (F.take i ++ [] ++ F.drop i)) := by
  have HE := hide (show F.take i ++ [] ++ F.drop i = F by rw [List.append_nil, List.take_append_drop])
  have H := hide h
  obtain ⟨B, d, rfl, hnd, hd⟩ := h.form
  unfold maxLen at hd
  clear h
  have h0 : (0 : Int) ≤ (i : Int) := by omega
  have h1 : (i : Int) ≤ (F.length : Int) := by omega
  by_cases hc : i = d
  · subst hc
    go_enter Tryd.func43, Tryd.ntmps43
    go_wp2
    go_ret
    exact ⟨_, rfl, by rw [HE.out]; exact H.out, Only.refl _ _, .inl rfl⟩
  · go_enter Tryd.func43, Tryd.ntmps43
    go_wp2
    go_ret
    exact ⟨_, rfl, by rw [HE.out]; exact H.out, Only.refl _ _, .inl rfl⟩
theorem zeros_len (k : Nat) : (Builtin.zeroCells (Value.int .i64 0).cells k).size = k := by
  rw [size_zeroCells]
  simp [Value.cells]
/-- A slice of ours with more of its capacity. -/
theorem Sl.more {w : World} {T : TypeId} {g off n c : Nat} {xs : List Value} (h : Sl w T 1 (.slice (some ⟨g, off, none⟩) n c) n xs) (m : Nat) (h1 : n ≤ m) (h2 : m ≤ c) : ∃ zs, Sl w T 1 (.slice (some ⟨g, off, none⟩) m c) m zs ∧ zs.take n = xs := by
  rcases h.2 with ⟨e, _⟩ | ⟨g', off', cap, cur, e, hg, hnc, hcm, hfit, htake⟩
  · cases e
  · injection e with e1 _ e2
    injection e1 with e1
    injection e1 with e3 e4
    subst e3 e4 e2
    rw [Nat.mul_one] at hfit htake
    refine ⟨(cur.toList.drop off).take m, ⟨?_, .inr ⟨g, off, c, cur, rfl, hg, h2, hcm, by omega, by rw [Nat.mul_one]⟩⟩, ?_⟩
    · rw [Nat.mul_one, List.length_take, List.length_drop, Array.length_toList]
      omega
    · rw [List.take_take, Nat.min_eq_left h1]
      exact htake
/-- The tail moved up, and a piece laid between. -/
theorem splice_shift {zs xs vs : List Value} {n m i : Nat} (hz : zs.length = n + m) (hx : zs.take n = xs) (hxl : xs.length = n) (hv : vs.length = m) (hi : i ≤ n) : (splice (splice zs (i + m) (xs.drop i)) i vs) = xs.take i ++ vs ++ xs.drop i := by
  have e1 : splice zs (i + m) (xs.drop i) = zs.take (i + m) ++ xs.drop i := by
    unfold splice
    rw [List.length_drop, hxl, List.drop_eq_nil_of_le (show zs.length ≤ i + m + (n - i) by omega), List.append_nil]
  rw [e1]
  unfold splice
  rw [hv, List.take_append_of_le_length (by rw [List.length_take]; omega), List.take_take, Nat.min_eq_left (by omega), List.drop_append_of_le_length (by rw [List.length_take]; omega), List.drop_eq_nil_of_le (by rw [List.length_take]; omega), List.nil_append, List.append_assoc]
  congr 1
  rw [← hx, List.take_take, Nat.min_eq_left hi]
theorem ins_some (F X : List Nat) (i : Nat) (v u : Value) (w : World) (h : IntSl w v F) (hx : IntSl w u X) (hne : ∀ g, v.ownBlock = some g → u.ownBlock ≠ some g) (hi : i ≤ F.length) (hl : F.length ≤ 1000000) (hX : X.length ≤ 1000000) (hp : 0 < X.length) :
    Calls Tryd.prog 43 #[v, .int .i64 (i : Int), u] w (InsRes w v (F.take i ++ X ++ F.drop i)) := by
  have hsF := ints_size F
  have hsX := ints_size X
  obtain ⟨vb, voff, vc, rfl, _, _, hvs, hvf, _⟩ := hx.at_ hp
  have hlen : (F.take i ++ X ++ F.drop i).length = F.length + X.length := by simp; omega
  have hints : ints (F.take i ++ X ++ F.drop i) = (ints F).take i ++ ints X ++ (ints F).drop i := by rw [ints_append, ints_append, ints_take, ints_drop]
  obtain ⟨B, c, rfl, hnc, hcm⟩ := h.form
  have hcm' : c ≤ 9223372036854775807 := by unfold maxLen at hcm; exact hcm
  have hgrown : ∀ (w1 w2 : World) (cs : Array Value), w2 = w1.alloc (.cells cs 3) → w1.heap.size = w.heap.size → Only (fun _ => False) w w1 → F.length + X.length ≤ grownCap w (F.length + X.length) c 3 → grownCap w (F.length + X.length) c 3 ≤ cs.size → grownCap w (F.length + X.length) c 3 ≤ maxLen → cs.toList.take (F.length + X.length) = (ints F).take i ++ ints X ++ (ints F).drop i →
      InsRes w (.slice B F.length c) (F.take i ++ X ++ F.drop i) (.returned (.slice (some ⟨w.heap.size, 0, none⟩) (F.length + X.length) (grownCap w (F.length + X.length) c 3))) w2 := by
    rintro w1 w2 cs rfl hsz ho h1 h2 h3 h4
    refine ⟨_, rfl, ?_, (ho.alloc _).mono (fun _ _ f => f.elim), .inr rfl⟩
    unfold IntSl
    rw [hlen, hints]
    have h5 : F.length + X.length ≤ cs.toList.length := by rw [Array.length_toList]; exact Nat.le_trans h1 h2
    refine ⟨by rw [← h4, List.length_take, Nat.min_eq_left h5, Nat.mul_one], .inr ⟨w.heap.size, 0, _, cs, rfl, ?_, h1, h3, by omega, ?_⟩⟩
    · rw [← hsz]; exact heap_alloc_new w1 _
    · rw [Nat.mul_one, List.drop_zero]; exact h4
  have hge := grownCap_ge w (F.length + X.length) c 3
  have hgm := grownCap_le_maxLen w (F.length + X.length) c 3 (by unfold maxLen; omega)
  by_cases hroom : F.length + X.length ≤ c
  · -- there is room: then the slice has a block
    rcases h.2 with ⟨e, _⟩ | ⟨g, off, cap, cur, e, hg, _, _, hfit, htake⟩
    · injection e with _ _ e3
      omega
    · injection e with e1 _ e2
      subst e1 e2
      have hblk : vb ≠ g := fun e => hne g rfl (by rw [e]; rfl)
      have hcl : off + c ≤ cur.size := by omega
      have hsp : ∀ j, j < c → (w.cell? ⟨g, off + j, none⟩).isSome = true := fun j hj => by
        rw [cell_of_row w g (off + j) cur 3 (0, 0) hg, Array.getElem?_eq_getElem (by omega)]
        rfl
      have hfz : ∀ j, w.frozen? ⟨g, j, none⟩ = false := fun j => by simp [World.frozen?, hg]
      have hcs : ∀ j v, (ints F)[j]? = some v → w.cell? ⟨g, off + j, none⟩ = some v := fun j v hv => by
        rcases Nat.eq_zero_or_pos F.length with h0 | h0
        · have := (List.getElem?_eq_some_iff.1 hv).1
          omega
        · obtain ⟨g', off', c', e', _, _, hc', _⟩ := h.at_ h0
          injection e' with e1 _ _
          injection e1 with e1
          injection e1 with e3 e4
          subst e3 e4
          exact hc' j v hv
      by_cases hin : i < F.length
      · rcases hx.2 with ⟨e, _⟩ | ⟨g2, off2, cap2, cur2, e2, hg2, _, _, _, _⟩
        · cases e
        · injection e2 with e3 _ _
          injection e3 with e3
          injection e3 with e4 e5
          subst e4 e5
          refine (Any2.slices_Insert_int_shift Tryd.laysNm221 g off F.length c i vb voff X.length vc (ints F) (ints X) w hin hp hroom hcm' hblk hsF hsX hcs (fun j hj => hsp j (by omega)) (fun j _ => hfz _) hvs (ints_one F) (ints_one X) _ _ _ _ (shape_of hg2) (shape_of hg) (by omega) (hvf _) (hvf _)).mono ?_
          rintro e w' ⟨rfl, rfl⟩
          refine ⟨_, rfl, ?_, (((Only.refl _ w).drew.trans (only_setCells g _ _ _)).trans (only_setCells g _ _ _)).mono (fun b _ hb => by subst hb; rfl), .inl rfl⟩
          unfold IntSl
          rw [hlen, hints]
          obtain ⟨zs, hz, hzt⟩ := Sl.more h (F.length + X.length) (by omega) hroom
          have hzl : zs.length = F.length + X.length := by rw [hz.1, Nat.mul_one]
          have k1 := Sl.over hz.drew (i + X.length) ((ints F).drop i) (F.length + X.length) (by rw [List.length_drop]; omega) hroom (by omega) (.inr (Nat.le_refl _))
          rw [List.take_of_length_le (by rw [splice_len _ _ _ (by rw [List.length_drop]; omega)]; omega)] at k1
          have k2 := Sl.over k1 i (ints X) (F.length + X.length) (by omega) hroom (by omega) (.inr (Nat.le_refl _))
          rw [splice_shift hzl hzt hsF hsX (by omega), List.take_of_length_le (by rw [← hints, ints_size]; omega)] at k2
          exact k2
      · obtain rfl : i = F.length := by omega
        refine (Any2.slices_Insert_int_end_room Tryd.laysNm221 g off F.length c vb voff X.length vc (ints X) w hp hroom hcm' hsX (fun j hj => by rw [Nat.add_assoc]; exact hsp _ (by omega)) (fun j _ => hfz _) hvs (ints_one X)).mono ?_
        rintro e w' ⟨rfl, rfl⟩
        refine ⟨_, rfl, ?_, (only_setCells g _ _ _).mono (fun b _ hb => by subst hb; rfl), .inl rfl⟩
        unfold IntSl
        rw [hlen, hints]
        have k1 := Sl.over h F.length (ints X) (F.length + X.length) (by omega) hroom (Nat.le_refl _) (.inl (by omega))
        have e1 : (splice (ints F) F.length (ints X)).take (F.length + X.length) = (ints F).take F.length ++ ints X ++ (ints F).drop F.length := by
          unfold splice
          rw [List.drop_eq_nil_of_le (by omega), List.drop_eq_nil_of_le (by omega), List.append_nil, List.append_nil, List.take_of_length_le (by rw [List.length_append, List.length_take]; omega)]
        rw [e1] at k1
        exact k1
  · by_cases hin : i < F.length
    · obtain ⟨g, off, c', e, _, _, hcs, _, _⟩ := h.at_ (by omega)
      injection e with e1 _ e2
      subst e1 e2
      refine (Any2.slices_Insert_int_grow Tryd.laysNm221 g off F.length c i vb voff X.length vc (ints F) (ints X) w hin hp hnc (by omega) (by omega) hsF hsX hcs hvs (ints_one F) (ints_one X)).mono ?_
      rintro e w' ⟨rfl, rfl⟩
      have hz1 := zeros_len (F.length + X.length - i)
      have hz2 := zeros_len (grownCap w (F.length + X.length) c 3 - (F.length + X.length))
      obtain ⟨Z1, hZ1⟩ : ∃ Z1, Z1 = Builtin.zeroCells (Value.int .i64 0).cells (F.length + X.length - i) := ⟨_, rfl⟩
      obtain ⟨Z2, hZ2⟩ : ∃ Z2, Z2 = Builtin.zeroCells (Value.int .i64 0).cells (grownCap w (F.length + X.length) c 3 - (F.length + X.length)) := ⟨_, rfl⟩
      show InsRes w _ _ _ ((((w.alloc (.cells (((ints F).take i).toArray ++ Builtin.zeroCells (Value.int .i64 0).cells (F.length + X.length - i) ++ Builtin.zeroCells (Value.int .i64 0).cells (grownCap w (F.length + X.length) c 3 - (F.length + X.length))) 3)).drew.setCells w.heap.size i (ints X)).drew).setCells w.heap.size (i + X.length) ((ints F).drop i))
      rw [← hZ1, ← hZ2]
      rw [← hZ1] at hz1
      rw [← hZ2] at hz2
      clear hZ1 hZ2
      have htl : ((ints F).take i).length = i := by rw [List.length_take]; omega
      have hbl : (((ints F).take i).toArray ++ Z1 ++ Z2).size = grownCap w (F.length + X.length) c 3 := by
        simp only [Array.size_append, List.size_toArray]
        omega
      have b1 := heap_setCells (ints X) i (show (w.alloc (.cells (((ints F).take i).toArray ++ Z1 ++ Z2) 3)).drew.heap[w.heap.size]? = some (.cells (((ints F).take i).toArray ++ Z1 ++ Z2) 3 (0, 0)) from heap_alloc_new w _) (by omega)
      have e1 : (((ints F).take i).toArray ++ Z1 ++ Z2).toList = (ints F).take i ++ (Z1.toList ++ Z2.toList) := by simp
      have hs1 : splice (((ints F).take i).toArray ++ Z1 ++ Z2).toList i (ints X) = (ints F).take i ++ (ints X ++ (Z1.toList ++ Z2.toList).drop X.length) := by
        rw [e1]
        unfold splice
        rw [List.take_append_of_le_length (by omega), List.take_of_length_le (by omega), hsX, List.drop_append, List.drop_eq_nil_of_le (by omega), List.nil_append, htl, show i + X.length - i = X.length by omega]
      have hzl : (Z1.toList ++ Z2.toList).length = grownCap w (F.length + X.length) c 3 - i := by
        rw [List.length_append, Array.length_toList, Array.length_toList]
        omega
      rw [hs1] at b1
      have b2 := heap_setCells ((ints F).drop i) (i + X.length) (w := ((w.alloc (.cells (((ints F).take i).toArray ++ Z1 ++ Z2) 3)).drew.setCells w.heap.size i (ints X)).drew) b1 (by rw [List.size_toArray, List.length_append, List.length_append, List.length_drop, List.length_drop]; omega)
      have hs2 : ∃ r, splice ((ints F).take i ++ (ints X ++ (Z1.toList ++ Z2.toList).drop X.length)).toArray.toList (i + X.length) ((ints F).drop i) = ((ints F).take i ++ ints X ++ (ints F).drop i) ++ r ∧ (((ints F).take i ++ ints X ++ (ints F).drop i) ++ r).length = grownCap w (F.length + X.length) c 3 := by
        rw [List.toList_toArray, ← List.append_assoc]
        have hA : ((ints F).take i ++ ints X).length = i + X.length := by rw [List.length_append]; omega
        have hD : ((Z1.toList ++ Z2.toList).drop X.length).length = grownCap w (F.length + X.length) c 3 - i - X.length := by rw [List.length_drop]; omega
        generalize (ints F).take i ++ ints X = A at hA ⊢
        generalize (Z1.toList ++ Z2.toList).drop X.length = D at hD ⊢
        unfold splice
        refine ⟨(A ++ D).drop (i + X.length + ((ints F).drop i).length), ?_, ?_⟩
        · rw [List.take_append_of_le_length (by omega), List.take_of_length_le (by omega), List.append_assoc]
        · simp only [List.length_append, List.length_drop]
          omega
      obtain ⟨r, hr1, hr2⟩ := hs2
      rw [hr1] at b2
      refine ⟨_, rfl, ?_, ?_, .inr rfl⟩
      · unfold IntSl
        rw [hlen, hints]
        have hll : ((ints F).take i ++ ints X ++ (ints F).drop i).length = F.length + X.length := by rw [← hints, ints_size, hlen]
        refine ⟨by rw [hll, Nat.mul_one], .inr ⟨w.heap.size, 0, _, _, rfl, b2, hge, hgm, ?_, ?_⟩⟩
        · rw [Nat.zero_add, Nat.mul_one, List.size_toArray, hr2]
          exact Nat.le_refl _
        · rw [Nat.mul_one, List.drop_zero, List.toList_toArray, List.take_append_of_le_length (by omega), List.take_of_length_le (by omega)]
      · refine ((((Only.refl (· = w.heap.size) w).alloc _).drew.trans (only_setCells w.heap.size _ _ _)).drew.trans (only_setCells w.heap.size _ _ _)).mono (fun b hb e => ?_)
        omega
    · obtain rfl : i = F.length := by omega
      have hnil : B = none → F.length = 0 := by
        rintro rfl
        rcases Nat.eq_zero_or_pos F.length with h0 | h0
        · exact h0
        · obtain ⟨_, _, _, e, _⟩ := h.at_ h0
          cases e
      refine (Any2.slices_Insert_int_end_grow Tryd.laysNm221 B F.length c vb voff X.length vc (ints F) (ints X) w hp hnc (by omega) (by omega) hsF hsX hnil (fun a ha j v hv => ?_) hvs (ints_one X)).mono ?_
      · obtain ⟨g, off, c', e, _, _, hcs, _, _⟩ := h.at_ (by have := (List.getElem?_eq_some_iff.1 hv).1; omega)
        injection e with e1 _ e2
        rw [e1] at ha
        cases ha
        rw [Addr.add_lit]
        exact hcs j v hv
      · rintro e w' ⟨rfl, rfl⟩
        have hzl := zeros_len (grownCap w (F.length + X.length) c 3 - (F.length + X.length))
        refine hgrown w.drew _ _ rfl rfl (Only.refl _ _).drew hge ?_ hgm ?_
        · simp only [Array.size_append, List.size_toArray, List.length_append]
          show _ ≤ _ + (Builtin.zeroCells (Value.int .i64 0).cells (grownCap w (F.length + X.length) c 3 - (F.length + X.length))).size
          omega
        · rw [Array.toList_append, List.toList_toArray, List.take_append_of_le_length (by rw [List.length_append]; omega), List.take_of_length_le (by rw [List.length_append]; omega), List.take_of_length_le (by omega), List.drop_eq_nil_of_le (by omega), List.append_nil]
end Go.Proofs.YtbljppcaikhjhaaDoor
