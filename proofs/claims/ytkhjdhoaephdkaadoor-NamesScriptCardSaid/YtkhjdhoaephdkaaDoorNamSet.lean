/- What NamesNames calls beside the walks of the table: the list of fixed names, copyistkit.Times, the methods of a nil table, SetFunc where it refuses. No condition but those written. -/
import Derived.Test.YtkhjdhoaephdkaaDoorNamFull
import Derived.Laws.Rows
namespace Go.Proofs.YtkhjdhoaephdkaaDoor
open Go.RowKit

/-- The list of the fixed names, as a block. -/
def fixedCells : Array Value := (fixedNames.map Value.string).toArray
set_option maxRecDepth 100000 in
set_option maxHeartbeats 4000000 in
theorem fixed_any (w : World) : Calls Tryd.prog 19 #[] w fun e w' => e = .returned (.slice (some ⟨w.heap.size, 0, none⟩) 62 62) ∧ Blk w' w.heap.size 9 fixedCells ∧ Below w.heap.size w w' := by
  have hR : Blk (w.alloc (.cells (fixedNames.map Value.string).toArray 9)) w.heap.size 9 fixedCells := heap_alloc_new w _
  have hB : Below w.heap.size w (w.alloc (.cells (fixedNames.map Value.string).toArray 9)) := (Below.refl _ _).alloc (Nat.le_refl _) _
  go_enter Tryd.func19, Tryd.ntmps19
  go_wp2
  go_ret
  exact ⟨rfl, hR, hB⟩

/-- s, n times. -/
def timesB (s : ByteArray) (n : Nat) : ByteArray := ⟨(List.replicate n s.data.toList).flatten.toArray⟩
theorem bytes_ext {a b : ByteArray} (h : a.data.toList = b.data.toList) : a = b := by
  cases a
  cases b
  simpa using h
theorem rep_two (j : Nat) (l : List UInt8) : (List.replicate (2 * j) l).flatten = (List.replicate j (l ++ l)).flatten := by
  induction j with
  | zero => rfl
  | succ j ih => rw [show 2 * (j + 1) = 2 * j + 1 + 1 by omega, List.replicate_succ, List.replicate_succ, List.flatten_cons, List.flatten_cons, ih, List.replicate_succ, List.flatten_cons, List.append_assoc]
theorem times_even {s' o : ByteArray} {k j n : Nat} {l : List UInt8} (hk : k = 2 * j) (h : o.data.toList ++ (List.replicate k s'.data.toList).flatten = (List.replicate n l).flatten) :
    o.data.toList ++ (List.replicate j (s' ++ s').data.toList).flatten = (List.replicate n l).flatten := by
  subst hk
  rw [rep_two] at h
  simpa using h
theorem times_odd {s' o : ByteArray} {k j n : Nat} {l : List UInt8} (hk : k = 2 * j + 1) (h : o.data.toList ++ (List.replicate k s'.data.toList).flatten = (List.replicate n l).flatten) :
    (o ++ s').data.toList ++ (List.replicate j (s' ++ s').data.toList).flatten = (List.replicate n l).flatten := by
  subst hk
  rw [List.replicate_succ, List.flatten_cons, rep_two] at h
  simpa using h
theorem times_small {s' o s : ByteArray} {k n : Nat} (hk : 0 < k) (h : o.data.toList ++ (List.replicate k s'.data.toList).flatten = (List.replicate n s.data.toList).flatten) (hs : n * s.size ≤ 100000000) :
    s'.size + s'.size ≤ 9223372036854775807 ∧ o.size + s'.size ≤ 9223372036854775807 := by
  have e := congrArg List.length h
  simp only [List.length_append, List.length_flatten, List.map_replicate, List.sum_replicate_nat, Array.length_toList] at e
  have h1 : s'.size ≤ k * s'.size := Nat.le_mul_of_pos_left _ hk
  have e1 : o.data.size = o.size := rfl
  have e2 : s'.data.size = s'.size := rfl
  have e3 : s.data.size = s.size := rfl
  rw [e1, e2, e3] at e
  omega
set_option maxRecDepth 100000 in
theorem times_any (s : ByteArray) (n : Nat) (w : World) (hn : n ≤ 100000) (hs : n * s.size ≤ 100000000) : Calls Tryd.prog 20 #[.string s, .int .i64 (n : Int)] w fun e w' => e = .returned (.string (timesB s n)) ∧ w = w' := by
  go_enter Tryd.func20, Tryd.ntmps20
  go_wp2
  go_loopw [0, 1, 5] (fun a b c wr => ∃ (s' o : ByteArray) (k : Nat), a = .string s' ∧ b = .int .i64 (k : Int) ∧ c = .string o ∧ k ≤ 100000 ∧ o.data.toList ++ (List.replicate k s'.data.toList).flatten = (List.replicate n s.data.toList).flatten ∧ wr = w) (fun _ b _ _ => (intOf b).toNat)
  case atStart => exact ⟨s, ⟨#[]⟩, n, rfl, rfl, rfl, hn, by simp, rfl⟩
  case round =>
    obtain ⟨s', o, k, rfl, rfl, rfl, hk, hc, rfl⟩ := hrel
    have HC := hide hc
    clear hc
    by_cases h0 : 0 < k
    · have hz : decide ((0 : Int) < (k : Int)) = true := by simp; omega
      obtain ⟨z1, z2⟩ := times_small h0 HC.out hs
      have hp : ∃ j, k = 2 * j ∨ k = 2 * j + 1 := ⟨k / 2, by omega⟩
      obtain ⟨j, hj | hj⟩ := hp
      · have hm : (k : Int).tmod 2 = 0 := by rw [Int.tmod_eq_emod_of_nonneg (by omega)]; omega
        have hd : (k : Int).tdiv 2 = (j : Int) := by rw [Int.tdiv_eq_ediv_of_nonneg (by omega)]; omega
        have hm1 : decide ((k : Int).tmod 2 = 1) = false := by rw [hm]; decide
        have HJ := hide hj
        go_wp2_with fail
        go_roundw
        case rel => exact ⟨s' ++ s', o, j, rfl, rfl, rfl, by have := HJ.out; omega, times_even HJ.out HC.out, trivial⟩
        case measure => have := HJ.out; simp [intOf]; omega
      · have hm : (k : Int).tmod 2 = 1 := by rw [Int.tmod_eq_emod_of_nonneg (by omega)]; omega
        have hd : (k : Int).tdiv 2 = (j : Int) := by rw [Int.tdiv_eq_ediv_of_nonneg (by omega)]; omega
        have hm1 : decide ((k : Int).tmod 2 = 1) = true := by rw [hm]; decide
        have HJ := hide hj
        go_wp2_with fail
        go_roundw
        case rel => exact ⟨s' ++ s', o ++ s', j, rfl, by rw [show (2 * (j : Int) + 1) / 2 = j by omega], rfl, by have := HJ.out; omega, times_odd HJ.out HC.out, trivial⟩
        case measure => have := HJ.out; simp [intOf]; omega
    · have hz : decide ((0 : Int) < (k : Int)) = false := by simp; omega
      obtain rfl : k = 0 := by omega
      have HO := hide (show o = timesB s n from bytes_ext (by have := HC.out; simpa [timesB] using this))
      go_wp2_with fail
      go_ret
      exact ⟨by rw [← HO.out]; rfl, rfl⟩

theorem set_nil (n k m : Int) (b : Bool) (w : World) : Calls Tryd.prog 42 #[.pointer none, .int .i64 n, .agg #[.int .i64 k, .int .i64 m, .bool b]] w fun e w' => e = .returned (.int .i64 1) ∧ Below w.heap.size w w' := by
  have hB : Below w.heap.size w (w.alloc (.cells #[.int .i64 k, .int .i64 m, .bool b] 81)) := (Below.refl _ _).alloc (Nat.le_refl _) _
  go_enter Tryd.func42, Tryd.ntmps42
  go_wp2_with (go_at_call 40; refine (made_nil _).mono ?_; rintro e w' ⟨rfl, rfl⟩)
  go_ret
  exact ⟨rfl, hB⟩
theorem setfunc_nil (n k m : Int) (w : World) : Calls Tryd.prog 21 #[.pointer none, .int .i64 n, .agg #[.int .i64 k, .int .i64 m]] w fun e w' => e = .returned (.int .i64 1) ∧ Below w.heap.size w w' := by
  have hB : Below w.heap.size w (w.alloc (.cells #[.int .i64 k, .int .i64 m] 44)) := (Below.refl _ _).alloc (Nat.le_refl _) _
  go_enter Tryd.func21, Tryd.ntmps21
  go_wp2_with (go_at_call 42; refine (set_nil n k m true _).mono ?_; rintro e w' ⟨rfl, hb⟩)
  go_ret
  exact ⟨rfl, hB.trans (hb.mono hB.size)⟩

section
variable {tb : Nat} {L : List Sym} {F : Nat → Prop} {w : World}
theorem set_unknown (h : TableIs w tb L F) (n k m : Int) (b : Bool) (hn : ¬ (0 ≤ n ∧ n < (L.length : Int))) : Calls Tryd.prog 42 #[.pointer (some ⟨tb, 0, none⟩), .int .i64 n, .agg #[.int .i64 k, .int .i64 m, .bool b]] w fun e w' => e = .returned (.int .i64 8) ∧ Below w.heap.size w w' := by
  have hB : Below w.heap.size w (w.alloc (.cells #[.int .i64 k, .int .i64 m, .bool b] 81)) := (Below.refl _ _).alloc (Nat.le_refl _) _
  have h2 := h.below hB
  have HM := hide (made_any h2)
  have HH := hide (has_any h2 n)
  rw [show decide (0 ≤ n ∧ n < (L.length : Int)) = false by simpa using hn] at HH
  clear h h2 hn
  go_enter Tryd.func42, Tryd.ntmps42
  go_wp2_with (first | (go_at_call 40; refine (Calls.mono HM.out) ?_; rintro e w' ⟨rfl, rfl⟩) | (go_at_call 41; refine (Calls.mono HH.out) ?_; rintro e w' ⟨rfl, rfl⟩))
  go_ret
  exact ⟨rfl, hB⟩
theorem set_const (h : TableIs w tb L F) (k m : Int) (b : Bool) (hn : 1 < L.length) : Calls Tryd.prog 42 #[.pointer (some ⟨tb, 0, none⟩), .int .i64 1, .agg #[.int .i64 k, .int .i64 m, .bool b]] w fun e w' => e = .returned (.int .i64 10) ∧ Below w.heap.size w w' := by
  have hB : Below w.heap.size w (w.alloc (.cells #[.int .i64 k, .int .i64 m, .bool b] 81)) := (Below.refl _ _).alloc (Nat.le_refl _) _
  have h2 := h.below hB
  have HM := hide (made_any h2)
  have HH := hide (has_any h2 1)
  rw [show decide (0 ≤ (1 : Int) ∧ (1 : Int) < (L.length : Int)) = true by simp; omega] at HH
  clear h h2 hn
  go_enter Tryd.func42, Tryd.ntmps42
  go_wp2_with (first | (go_at_call 40; refine (Calls.mono HM.out) ?_; rintro e w' ⟨rfl, rfl⟩) | (go_at_call 41; refine (Calls.mono HH.out) ?_; rintro e w' ⟨rfl, rfl⟩))
  go_ret
  exact ⟨rfl, hB⟩
theorem setfunc_unknown (h : TableIs w tb L F) (n k m : Int) (hn : ¬ (0 ≤ n ∧ n < (L.length : Int))) : Calls Tryd.prog 21 #[.pointer (some ⟨tb, 0, none⟩), .int .i64 n, .agg #[.int .i64 k, .int .i64 m]] w fun e w' => e = .returned (.int .i64 8) ∧ Below w.heap.size w w' := by
  have hB : Below w.heap.size w (w.alloc (.cells #[.int .i64 k, .int .i64 m] 44)) := (Below.refl _ _).alloc (Nat.le_refl _) _
  have HS := hide (set_unknown (h.below hB) n k m true hn)
  clear h hn
  go_enter Tryd.func21, Tryd.ntmps21
  go_wp2_with (go_at_call 42; refine (Calls.mono HS.out) ?_; rintro e w' ⟨rfl, hb⟩)
  go_ret
  exact ⟨rfl, hB.trans (hb.mono hB.size)⟩
theorem setfunc_const (h : TableIs w tb L F) (k m : Int) (hn : 1 < L.length) : Calls Tryd.prog 21 #[.pointer (some ⟨tb, 0, none⟩), .int .i64 1, .agg #[.int .i64 k, .int .i64 m]] w fun e w' => e = .returned (.int .i64 10) ∧ Below w.heap.size w w' := by
  have hB : Below w.heap.size w (w.alloc (.cells #[.int .i64 k, .int .i64 m] 44)) := (Below.refl _ _).alloc (Nat.le_refl _) _
  have HS := hide (set_const (h.below hB) k m true hn)
  clear h hn
  go_enter Tryd.func21, Tryd.ntmps21
  go_wp2_with (go_at_call 42; refine (Calls.mono HS.out) ?_; rintro e w' ⟨rfl, hb⟩)
  go_ret
  exact ⟨rfl, hB.trans (hb.mono hB.size)⟩
end

theorem check_nil (s : ByteArray) (w : World) : Calls Tryd.prog 38 #[.pointer none, .string s] w fun e w' => e = .returned (.int .i64 1) ∧ w = w' := by
  go_enter Tryd.func38, Tryd.ntmps38
  go_wp2_with (go_at_call 40; refine (made_nil _).mono ?_; rintro e w' ⟨rfl, rfl⟩)
  go_ret
  exact ⟨rfl, rfl⟩
theorem intern_nil (s : ByteArray) (w : World) : Calls Tryd.prog 12 #[.pointer none, .string s] w fun e w' => e = .returned (.tuple #[.int .i64 0, .int .i64 1]) ∧ w = w' := by
  go_enter Tryd.func12, Tryd.ntmps12
  go_wp2_with (go_at_call 38; refine (check_nil s _).mono ?_; rintro e w' ⟨rfl, rfl⟩)
  go_ret2
  exact ⟨rfl, rfl⟩
theorem many_nil (w : World) : Calls Tryd.prog 13 #[.pointer none] w fun e w' => e = .returned (.int .i64 0) ∧ w = w' := by
  go_enter Tryd.func13, Tryd.ntmps13
  go_wp2_with (go_at_call 40; refine (made_nil _).mono ?_; rintro e w' ⟨rfl, rfl⟩)
  go_ret
  exact ⟨rfl, rfl⟩
theorem copy_nil (w : World) : Calls Tryd.prog 23 #[.pointer none] w fun e w' => e = .returned (.pointer none) ∧ w = w' := by
  go_enter Tryd.func23, Tryd.ntmps23
  go_wp2_with (go_at_call 40; refine (made_nil _).mono ?_; rintro e w' ⟨rfl, rfl⟩)
  go_ret
  exact ⟨rfl, rfl⟩
/-- The words. -/
theorem int_any (n : Int) (w : World) : Calls Tryd.prog 24 #[.int .i64 n] w fun e w' => e = .returned (.agg #[.int .i64 0, .int .i64 n]) ∧ Below w.heap.size w w' := by
  have hB : Below w.heap.size w (w.alloc (.cells #[.int .i64 0, .int .i64 n] 44)) := (Below.refl _ _).alloc (Nat.le_refl _) _
  go_enter Tryd.func24, Tryd.ntmps24
  go_wp2
  refine bodyPost_ret (results_cell_row rfl _ _ w.heap.size 44 #[.int .i64 0, .int .i64 n] (0, 0) _ rfl (heap_alloc_new w _) Tryd.underlying44 rfl (by kernel_rfl)) rfl ?_
  exact ⟨rfl, hB⟩
theorem sym_any (n : Int) (w : World) : Calls Tryd.prog 43 #[.int .i64 n] w fun e w' => e = .returned (.agg #[.int .i64 1, .int .i64 n]) ∧ Below w.heap.size w w' := by
  have hB : Below w.heap.size w (w.alloc (.cells #[.int .i64 1, .int .i64 n] 44)) := (Below.refl _ _).alloc (Nat.le_refl _) _
  go_enter Tryd.func43, Tryd.ntmps43
  go_wp2
  refine bodyPost_ret (results_cell_row rfl _ _ w.heap.size 44 #[.int .i64 1, .int .i64 n] (0, 0) _ rfl (heap_alloc_new w _) Tryd.underlying44 rfl (by kernel_rfl)) rfl ?_
  exact ⟨rfl, hB⟩
theorem nil_any (w : World) : Calls Tryd.prog 22 #[] w fun e w' => e = .returned (.agg #[.int .i64 1, .int .i64 0]) ∧ Below w.heap.size w w' := by
  have hB : Below w.heap.size w (w.alloc (.cells #[.int .i64 0, .int .i64 0] 44)) := (Below.refl _ _).alloc (Nat.le_refl _) _
  go_enter Tryd.func22, Tryd.ntmps22
  go_wp2_with fail
  refine (sym_any 0 _).mono ?_
  rintro e w1 ⟨rfl, hb⟩
  have hk : Blk w1 w.heap.size 44 #[.int .i64 0, .int .i64 0] := by
    show w1.heap[w.heap.size]? = _
    rw [hb.block _ (by simp)]
    exact heap_alloc_new w _
  have k0 : w1.cell? ⟨w.heap.size, 0, none⟩ = some (.int .i64 0) := by rw [hk.cell]; rfl
  have k1 : w1.cell? ⟨w.heap.size, 1, none⟩ = some (.int .i64 0) := by rw [hk.cell]; rfl
  have f0 : w1.frozen? ⟨w.heap.size, 0, none⟩ = false := hk.frozen 0
  have f1 : w1.frozen? ⟨w.heap.size, 1, none⟩ = false := hk.frozen 1
  have HK := hide ((hk.set_ 0 (.int .i64 1)).set_ 1 (.int .i64 0))
  have HB := hide (((hB.trans (hb.mono hB.size)).setCell (p := ⟨w.heap.size, 0, none⟩) (Nat.le_refl _) (.int .i64 1)).setCell (p := ⟨w.heap.size, 1, none⟩) (Nat.le_refl _) (.int .i64 0))
  clear hB hb hk
  go_wp2
  refine bodyPost_ret (results_cell_row rfl _ _ w.heap.size 44 #[.int .i64 1, .int .i64 0] (0, 0) _ rfl HK.out Tryd.underlying44 rfl (by kernel_rfl)) rfl ?_
  exact ⟨rfl, HB.out⟩

end Go.Proofs.YtkhjdhoaephdkaaDoor
