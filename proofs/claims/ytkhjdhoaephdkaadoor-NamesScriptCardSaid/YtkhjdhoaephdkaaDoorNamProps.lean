/- What NamesApart and NamesCells call: Pick, SetFunc where it sets, Func. No condition but those written. -/
import Derived.Test.YtkhjdhoaephdkaaDoorNamSet
import Derived.BigRegion
import Derived.Laws.ResultCell
namespace Go.Proofs.YtkhjdhoaephdkaaDoor
open Go.RowKit

/-- What Pick returns. -/
def pickZ (n k : Int) : Int := if n.tmod k < 0 then n.tmod k + k else n.tmod k
theorem pickZ_ge {n k : Int} (hk : 0 < k) : 0 ≤ pickZ n k := by
  have := Int.lt_tmod_of_pos n hk
  unfold pickZ
  split <;> omega
theorem pickZ_lt {n k : Int} (hk : 0 < k) : pickZ n k < k := by
  have := Int.tmod_lt_of_pos n hk
  unfold pickZ
  split <;> omega
theorem pick_any (n k : Int) (w : World) (hk : 0 < k) (hk2 : k ≤ 100000) : Calls Tryd.prog 25 #[.int .i64 n, .int .i64 k] w fun e w' => e = .returned (.int .i64 (pickZ n k)) ∧ w = w' := by
  have hz : decide (k ≤ 0) = false := by simp; omega
  have b1 := Int.lt_tmod_of_pos n hk
  have b2 := Int.tmod_lt_of_pos n hk
  by_cases h : n.tmod k < 0
  · have hz2 : decide (n.tmod k < 0) = true := by simpa using h
    have HP := hide (show pickZ n k = n.tmod k + k by unfold pickZ; rw [if_pos h])
    go_enter Tryd.func25, Tryd.ntmps25
    go_wp2
    go_ret
    exact ⟨by rw [HP.out]; rfl, rfl⟩
  · have hz2 : decide (n.tmod k < 0) = false := by simpa using h
    have HP := hide (show pickZ n k = n.tmod k by unfold pickZ; rw [if_neg h])
    go_enter Tryd.func25, Tryd.ntmps25
    go_wp2
    go_ret
    exact ⟨by rw [HP.out]; rfl, rfl⟩

/-- A symbol with another function. -/
def withFn (x : Sym) (k m : Int) (b : Bool) : Sym := { x with fk := k, fn := m, fb := b }
theorem index_set {x y : Sym} (h1 : y.name = x.name) (h2 : y.intd = x.intd) : ∀ (L : List Sym) (n k : Nat), L[n]? = some x → indexFrom k (L.set n y) = indexFrom k L
  | [], n, k, h => by simp at h
  | z :: L, 0, k, h => by
    simp at h
    subst h
    simp [indexFrom, h1, h2]
  | z :: L, n + 1, k, h => by
    have ih := index_set h1 h2 L n (k + 1) (by simpa using h)
    simp [indexFrom, ih]
theorem props_set {x y : Sym} (h1 : y.pm = x.pm) : ∀ (L : List Sym) (n : Nat), L[n]? = some x → propBlocks (L.set n y) = propBlocks L
  | [], n, h => by simp at h
  | z :: L, 0, h => by
    simp at h
    subst h
    simp [propBlocks, List.filterMap_cons, h1]
  | z :: L, n + 1, h => by
    have ih := props_set h1 L n (by simpa using h)
    simp only [propBlocks] at ih
    simp [propBlocks, List.filterMap_cons, ih]

section
variable {tb : Nat} {L : List Sym} {F : Nat → Prop} {w : World}
/-- The table behind stores into one symbol that leave its name, its mark and its properties. -/
theorem left_set (h : TableIs w tb L F) {w2 : World} {vs : Value} {ib n : Nat} {x y : Sym} (hn : L[n]? = some x) (e1 : y.name = x.name) (e2 : y.intd = x.intd) (e3 : y.pm = x.pm) (e4 : y.props = x.props)
    (h4 : F ib) (h5 : ∀ g, vs.ownBlock = some g → F g) (h6 : ib ∉ propBlocks L) (hB : Blk w2 tb 76 #[vs, .map (some ib)])
    (hS : Sl w2 84 6 vs L.length (rows Sym.cells (L.set n y))) (hM : ∀ b m, MapIs w b m → MapIs w2 b m) (hm : MapIs w ib (indexFrom 0 L)) (ho : Only F w w2) : Left w tb (L.set n y) F w2 := by
  refine ⟨⟨⟨vs, ib, hB, by simpa using hS, by rw [index_set e1 e2 L n 0 hn]; exact hM _ _ hm, .inl h4, fun g hg => .inl (h5 g hg), by rw [props_set e3 L n hn]; exact h6⟩, fun s hs => ?_, by rw [props_set e3 L n hn]; exact h.nodup, .inl h.self, fun k hk => ?_⟩, ho⟩
  · have hx : ∀ z ∈ L, (z.pm = none ∧ z.props = []) ∨ ∃ b, z.pm = some b ∧ grow F w w2 b ∧ MapIs w2 b (propPairs z.props) := fun z hz => by
      rcases h.props z hz with hp | ⟨b, hb, hF, hm⟩
      · exact .inl hp
      · exact .inr ⟨b, hb, .inl hF, hM _ _ hm⟩
    rcases List.mem_or_eq_of_mem_set hs with hs | rfl
    · exact hx s hs
    · have := hx x (List.mem_of_getElem? hn)
      rw [e3, e4]
      exact this
  · rcases hk with hk | hk
    · exact Nat.lt_of_lt_of_le (h.bound k hk) ho.size
    · exact hk.2

theorem rows_fn (L : List Sym) (n : Nat) (x : Sym) (hn : L[n]? = some x) (k m : Int) (b : Bool) :
    (((rows Sym.cells L).set (n * 6) (.int .i64 k)).set (n * 6 + 1) (.int .i64 m)).set (n * 6 + 2) (.bool b) = rows Sym.cells (L.set n (withFn x k m b)) := by
  have hlt : n < L.length := (List.getElem?_eq_some_iff.1 hn).1
  have e0 := rows_set sym_len ({ x with fk := k } : Sym) 0 (.int .i64 k) L n x hn (by decide) rfl
  have e1 := rows_set sym_len ({ x with fk := k, fn := m } : Sym) 1 (.int .i64 m) (L.set n ({ x with fk := k } : Sym)) n ({ x with fk := k } : Sym) (by simp [hlt]) (by decide) rfl
  have e2 := rows_set sym_len (withFn x k m b) 2 (.bool b) ((L.set n ({ x with fk := k } : Sym)).set n ({ x with fk := k, fn := m } : Sym)) n ({ x with fk := k, fn := m } : Sym) (by simp [hlt]) (by decide) rfl
  rw [Nat.add_zero] at e0
  rw [e0, e1, e2, List.set_set, List.set_set]
theorem Left.drew {L' : List Sym} {w2 : World} (h : Left w tb L' F w2) : Left w tb L' F w2.drew := ⟨h.1.below (Below.refl _ _).drew, h.2.drew⟩
theorem set_three (x : Sym) (k m : Int) (b : Bool) : ((x.cells.set 0 (.int .i64 k)).set 1 (.int .i64 m)).set 2 (.bool b) = (withFn x k m b).cells := rfl

set_option maxHeartbeats 2000000 in
theorem set_ok (h : TableIs w tb L F) (n : Nat) (x : Sym) (hn : L[n]? = some x) (h2n : 2 ≤ n) (k m : Int) (b : Bool) : Calls Tryd.prog 42 #[.pointer (some ⟨tb, 0, none⟩), .int .i64 (n : Int), .agg #[.int .i64 k, .int .i64 m, .bool b]] w
    fun e w' => e = .returned (.int .i64 0) ∧ Left w tb (L.set n (withFn x k m b)) F w' := by
  have hB : Below w.heap.size w (w.alloc (.cells #[.int .i64 k, .int .i64 m, .bool b] 81)) := (Below.refl _ _).alloc (Nat.le_refl _) _
  have hbk : Blk (w.alloc (.cells #[.int .i64 k, .int .i64 m, .bool b] 81)) w.heap.size 81 #[.int .i64 k, .int .i64 m, .bool b] := heap_alloc_new w _
  have hlt : n < L.length := (List.getElem?_eq_some_iff.1 hn).1
  have hz0 : decide ((n : Int) = 0) = false := by simp; omega
  have hz1 : decide ((n : Int) = 1) = false := by simp; omega
  have hzz : ((n : Int) == 0 || (n : Int) == 1) = false := by simp; omega
  have HAfter := hide fun L' w' (hl : Left (w.alloc (.cells #[.int .i64 k, .int .i64 m, .bool b] 81)) tb L' F w') => Left.after hB hl
  have hA := h.below hB
  go_enter Tryd.func42, Tryd.ntmps42
  go_wp2_with fail
  generalize w.alloc (.cells #[.int .i64 k, .int .i64 m, .bool b] 81) = w1 at *
  have p0 : w1.cell? ⟨w.heap.size, 0, none⟩ = some (.int .i64 k) := by rw [hbk.cell]; rfl
  have p1 : w1.cell? ⟨w.heap.size, 1, none⟩ = some (.int .i64 m) := by rw [hbk.cell]; rfl
  have p2 : w1.cell? ⟨w.heap.size, 2, none⟩ = some (.bool b) := by rw [hbk.cell]; rfl
  have HM := hide (made_any hA)
  have HH := hide (has_any hA n)
  rw [show decide (0 ≤ (n : Int) ∧ (n : Int) < (L.length : Int)) = true by simp; omega] at HH
  obtain ⟨vs, ib, a1, a2, a3, a4, a5, a6⟩ := hA.holds
  obtain ⟨g, off, c, rfl, _, _, hg, hfz, hcell⟩ := a2.fld sym_len (by omega)
  have c0 : w1.cell? ⟨tb, 0, none⟩ = some (.slice (some ⟨g, off, none⟩) L.length c) := by rw [a1.cell]; rfl
  have q0 : w1.cell? ⟨g, off + n * 6, none⟩ = some (.int .i64 x.fk) := hcell n x 0 _ hn rfl
  have q1 : w1.cell? ⟨g, off + n * 6 + 1, none⟩ = some (.int .i64 x.fn) := hcell n x 1 _ hn rfl
  have q2 : w1.cell? ⟨g, off + n * 6 + 2, none⟩ = some (.bool x.fb) := hcell n x 2 _ hn rfl
  have f0 := hfz (off + n * 6)
  have f1 := hfz (off + n * 6 + 1)
  have f2 := hfz (off + n * 6 + 2)
  have hrl : n * 6 + 2 < (rows Sym.cells L).length := by rw [rows_len sym_len]; omega
  have hs := ((a2.set (n * 6) (by omega) (.int .i64 k)).set (n * 6 + 1) (by simp; omega) (.int .i64 m)).set (n * 6 + 2) (by simp; omega) (.bool b)
  rw [rows_fn L n x hn] at hs
  have hne := a2.ne_blk a1 (by decide)
  have hng : tb ≠ g := fun e => hne (by rw [e]; rfl)
  have HW := hide (Left.drew (left_set hA hn (y := withFn x k m b) rfl rfl rfl rfl a4 a5 a6 (((a1.far (p := ⟨g, off + n * 6, none⟩) hng (.int .i64 k)).far (p := ⟨g, off + n * 6 + 1, none⟩) hng (.int .i64 m)).far (p := ⟨g, off + n * 6 + 2, none⟩) hng (.bool b)) hs (fun b' m' hm => ((hm.setCell _ _).setCell _ _).setCell _ _) a3
    ((((Only.refl F w1).setCell (p := ⟨g, off + n * 6, none⟩) (.inl (a5 g rfl)) (.int .i64 k)).setCell (p := ⟨g, off + n * 6 + 1, none⟩) (.inl (a5 g rfl)) (.int .i64 m)).setCell (p := ⟨g, off + n * 6 + 2, none⟩) (.inl (a5 g rfl)) (.bool b))))
  clear hcell hfz hs a1 a2 a3 hA
  refine (Calls.mono HM.out) ?_
  rintro e w2 ⟨rfl, rfl⟩
  go_wp2_with fail
  refine (Calls.mono HH.out) ?_
  rintro e w2 ⟨rfl, rfl⟩
  go_wp2
  go_region
  go_wp2
  go_ret
  exact ⟨rfl, HAfter.out _ _ HW.out⟩

theorem setfunc_ok (h : TableIs w tb L F) (n : Nat) (x : Sym) (hn : L[n]? = some x) (h2n : 2 ≤ n) (k m : Int) : Calls Tryd.prog 21 #[.pointer (some ⟨tb, 0, none⟩), .int .i64 (n : Int), .agg #[.int .i64 k, .int .i64 m]] w
    fun e w' => e = .returned (.int .i64 0) ∧ Left w tb (L.set n (withFn x k m true)) F w' := by
  have hB : Below w.heap.size w (w.alloc (.cells #[.int .i64 k, .int .i64 m] 44)) := (Below.refl _ _).alloc (Nat.le_refl _) _
  have HS := hide (set_ok (h.below hB) n x hn h2n k m true)
  clear h hn
  go_enter Tryd.func21, Tryd.ntmps21
  go_wp2_with (go_at_call 42; refine (Calls.mono HS.out) ?_; rintro e w' ⟨rfl, hl⟩)
  go_ret
  exact ⟨rfl, Left.after hB hl⟩

set_option maxRecDepth 100000 in
set_option maxHeartbeats 2000000 in
theorem func_any (h : TableIs w tb L F) (n : Nat) (x : Sym) (hn : L[n]? = some x) : Calls Tryd.prog 27 #[.pointer (some ⟨tb, 0, none⟩), .int .i64 (n : Int)] w
    fun e w' => e = .returned (.tuple #[.agg #[.int .i64 x.fk, .int .i64 x.fn], .bool x.fb]) ∧ Below w.heap.size w w' := by
  have hB : Below w.heap.size w (w.alloc (.cells #[.int .i64 0, .int .i64 0] 44)) := (Below.refl _ _).alloc (Nat.le_refl _) _
  have hbk : Blk (w.alloc (.cells #[.int .i64 0, .int .i64 0] 44)) w.heap.size 44 #[.int .i64 0, .int .i64 0] := heap_alloc_new w _
  have hlt : n < L.length := (List.getElem?_eq_some_iff.1 hn).1
  have hA := h.below hB
  go_enter Tryd.func27, Tryd.ntmps27
  go_wp2_with fail
  generalize w.alloc (.cells #[.int .i64 0, .int .i64 0] 44) = w1 at *
  have HH := hide (has_any hA n)
  rw [show decide (0 ≤ (n : Int) ∧ (n : Int) < (L.length : Int)) = true by simp; omega] at HH
  obtain ⟨vs, ib, a1, a2, a3, a4, a5, a6⟩ := hA.holds
  obtain ⟨g, off, c, rfl, _, _, hg, hfz, hcell⟩ := a2.fld sym_len (by omega)
  have lt1 := h.bound tb h.self
  have lt2 := h.bound g (a5 g rfl)
  have n1 : ¬ tb = w.heap.size := by omega
  have n2 : ¬ g = w.heap.size := by omega
  have n3 : ¬ w.heap.size = tb := by omega
  have n4 : ¬ w.heap.size = g := by omega
  have c0 : w1.cell? ⟨tb, 0, none⟩ = some (.slice (some ⟨g, off, none⟩) L.length c) := by rw [a1.cell]; rfl
  have q0 : w1.cell? ⟨g, off + n * 6, none⟩ = some (.int .i64 x.fk) := hcell n x 0 _ hn rfl
  have q1 : w1.cell? ⟨g, off + n * 6 + 1, none⟩ = some (.int .i64 x.fn) := hcell n x 1 _ hn rfl
  have q2 : w1.cell? ⟨g, off + n * 6 + 2, none⟩ = some (.bool x.fb) := hcell n x 2 _ hn rfl
  have k0 : w1.cell? ⟨w.heap.size, 0, none⟩ = some (.int .i64 0) := by rw [hbk.cell]; rfl
  have k1 : w1.cell? ⟨w.heap.size, 1, none⟩ = some (.int .i64 0) := by rw [hbk.cell]; rfl
  have f0 := hbk.frozen 0
  have f1 := hbk.frozen 1
  have HK := hide ((hbk.set_ 0 (.int .i64 x.fk)).set_ 1 (.int .i64 x.fn))
  have HB := hide ((hB.setCell (p := ⟨w.heap.size, 0, none⟩) (Nat.le_refl _) (.int .i64 x.fk)).setCell (p := ⟨w.heap.size, 1, none⟩) (Nat.le_refl _) (.int .i64 x.fn))
  clear hcell hfz hbk a1 a2 a3 hA h hB
  refine (Calls.mono HH.out) ?_
  rintro e w2 ⟨rfl, rfl⟩
  go_wp2
  go_region
  go_wp2
  refine bodyPost_ret (v := .tuple #[.agg #[.int .i64 x.fk, .int .i64 x.fn], .bool x.fb]) ?_ rfl ?_
  · rw [results_cell_tmp rfl]
    show ((loadVar 44 ⟨w.heap.size, 0, none⟩).run Tryd.prog _).andThen _ = _
    rw [run_loadVar_row _ w.heap.size 44 44 #[.int .i64 x.fk, .int .i64 x.fn] (0, 0) _ HK.out.drew Tryd.underlying44 rfl (by kernel_rfl)]
    rfl
  · exact ⟨rfl, HB.out.drew⟩
end
end Go.Proofs.YtkhjdhoaephdkaaDoor
