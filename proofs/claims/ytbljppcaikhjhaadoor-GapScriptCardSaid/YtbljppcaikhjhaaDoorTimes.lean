/- copyistkit.Times, and the length of a repeated letter. No condition but those written. -/
import Derived.Test.YtbljppcaikhjhaaDoorRunes
import Derived.Laws.Rows
namespace Go.Proofs.YtbljppcaikhjhaaDoor
open Go.RowKit

/-- s, n times. -/
def timesB (s : ByteArray) (n : Nat) : ByteArray := ⟨(List.replicate n s.data.toList).flatten.toArray⟩
theorem bytes_ext {a b : ByteArray} (h : a.data.toList = b.data.toList) : a = b := by
  cases a
  cases b
  simpa using h
theorem rep_two (j : Nat) (l : List UInt8) : (List.replicate (2 * j) l).flatten = (List.replicate j (l ++ l)).flatten := by
  induction j with
  | zero => rfl
  | succ j ih => rw [show 2 * (j + 1) = 2 * j + 1 + 1 by omega, List.replicate_succ, List.replicate_succ, List.flatten_cons, List.flatten_cons, ih, List.replicate_succ, List.flatten_cons, List.append_assoc]
theorem times_even {s' o : ByteArray} {k j n : Nat} {l : List UInt8} (hk : k = 2 * j) (h : o.data.toList ++ (List.replicate k s'.data.toList).flatten = (List.replicate n l).flatten) :
    o.data.toList ++ (List.replicate j (s' ++ s').data.toList).flatten = (List.replicate n l).flatten := by
  subst hk
  rw [rep_two] at h
  simpa using h
theorem times_odd {s' o : ByteArray} {k j n : Nat} {l : List UInt8} (hk : k = 2 * j + 1) (h : o.data.toList ++ (List.replicate k s'.data.toList).flatten = (List.replicate n l).flatten) :
    (o ++ s').data.toList ++ (List.replicate j (s' ++ s').data.toList).flatten = (List.replicate n l).flatten := by
  subst hk
  rw [List.replicate_succ, List.flatten_cons, rep_two] at h
  simpa using h
theorem times_small {s' o s : ByteArray} {k n : Nat} (hk : 0 < k) (h : o.data.toList ++ (List.replicate k s'.data.toList).flatten = (List.replicate n s.data.toList).flatten) (hs : n * s.size ≤ 100000000) :
    s'.size + s'.size ≤ 9223372036854775807 ∧ o.size + s'.size ≤ 9223372036854775807 := by
  have e := congrArg List.length h
  simp only [List.length_append, List.length_flatten, List.map_replicate, List.sum_replicate_nat, Array.length_toList] at e
  have h1 : s'.size ≤ k * s'.size := Nat.le_mul_of_pos_left _ hk
  have e1 : o.data.size = o.size := rfl
  have e2 : s'.data.size = s'.size := rfl
  have e3 : s.data.size = s.size := rfl
  rw [e1, e2, e3] at e
  omega
set_option maxRecDepth 100000 in
theorem times_any (s : ByteArray) (n : Nat) (w : World) (hn : n ≤ 100000) (hs : n * s.size ≤ 100000000) : Calls Tryd.prog 23 #[.string s, .int .i64 (n : Int)] w fun e w' => e = .returned (.string (timesB s n)) ∧ w = w' := by
  go_enter Tryd.func23, Tryd.ntmps23
  go_wp2
  go_loopw [0, 1, 5] (fun a b c wr => ∃ (s' o : ByteArray) (k : Nat), a = .string s' ∧ b = .int .i64 (k : Int) ∧ c = .string o ∧ k ≤ 100000 ∧ o.data.toList ++ (List.replicate k s'.data.toList).flatten = (List.replicate n s.data.toList).flatten ∧ wr = w) (fun _ b _ _ => (intOf b).toNat)
  case atStart => exact ⟨s, ⟨#[]⟩, n, rfl, rfl, rfl, hn, by simp, rfl⟩
  case round =>
    obtain ⟨s', o, k, rfl, rfl, rfl, hk, hc, rfl⟩ := hrel
    have HC := hide hc
    clear hc
    by_cases h0 : 0 < k
    · have hz : decide ((0 : Int) < (k : Int)) = true := by simp; omega
      obtain ⟨z1, z2⟩ := times_small h0 HC.out hs
      have hp : ∃ j, k = 2 * j ∨ k = 2 * j + 1 := ⟨k / 2, by omega⟩
      obtain ⟨j, hj | hj⟩ := hp
      · have hm : (k : Int).tmod 2 = 0 := by rw [Int.tmod_eq_emod_of_nonneg (by omega)]; omega
        have hd : (k : Int).tdiv 2 = (j : Int) := by rw [Int.tdiv_eq_ediv_of_nonneg (by omega)]; omega
        have hm1 : decide ((k : Int).tmod 2 = 1) = false := by rw [hm]; decide
        have HJ := hide hj
        go_wp2_with fail
        go_roundw
        case rel => exact ⟨s' ++ s', o, j, rfl, rfl, rfl, by have := HJ.out; omega, times_even HJ.out HC.out, trivial⟩
        case measure => have := HJ.out; simp [intOf]; omega
      · have hm : (k : Int).tmod 2 = 1 := by rw [Int.tmod_eq_emod_of_nonneg (by omega)]; omega
        have hd : (k : Int).tdiv 2 = (j : Int) := by rw [Int.tdiv_eq_ediv_of_nonneg (by omega)]; omega
        have hm1 : decide ((k : Int).tmod 2 = 1) = true := by rw [hm]; decide
        have HJ := hide hj
        go_wp2_with fail
        go_roundw
        case rel => exact ⟨s' ++ s', o ++ s', j, rfl, by rw [show (2 * (j : Int) + 1) / 2 = j by omega], rfl, by have := HJ.out; omega, times_odd HJ.out HC.out, trivial⟩
        case measure => have := HJ.out; simp [intOf]; omega
    · have hz : decide ((0 : Int) < (k : Int)) = false := by simp; omega
      obtain rfl : k = 0 := by omega
      have HO := hide (show o = timesB s n from bytes_ext (by have := HC.out; simpa [timesB] using this))
      go_wp2_with fail
      go_ret
      exact ⟨by rw [← HO.out]; rfl, rfl⟩

/-- A letter of one byte, n times: n characters. -/
theorem flat_rep (n : Nat) (x : UInt8) : (List.replicate n [x]).flatten = List.replicate n x := by
  induction n with
  | zero => rfl
  | succ n ih => rw [List.replicate_succ, List.flatten_cons, ih, List.replicate_succ]; rfl
theorem point_x (l : List UInt8) : pointL (120 :: l) = (120, 1) := by
  unfold pointL
  simp only [List.length_cons, List.getD_cons_zero]
  unfold pointN
  simp
theorem chars_x (n : Nat) : charsL (List.replicate n 120) = some (List.replicate n 120) := by
  induction n with
  | zero => rfl
  | succ n ih =>
    rw [List.replicate_succ, charsL_step _ (by simp), point_x]
    simp [ih, List.replicate_succ]
theorem times_x (n : Nat) : (timesB ⟨#[120]⟩ n).data.toList = List.replicate n 120 := by
  unfold timesB
  simp [flat_rep]
theorem valid_x (n : Nat) : validS (timesB ⟨#[120]⟩ n) = true := by unfold validS; rw [times_x, chars_x]; rfl
theorem len_x (n : Nat) : lenS (timesB ⟨#[120]⟩ n) = n := by unfold lenS; rw [times_x, chars_x]; simp
theorem size_x (n : Nat) : (timesB ⟨#[120]⟩ n).size = n := by
  show (timesB ⟨#[120]⟩ n).data.size = n
  rw [← Array.length_toList, times_x, List.length_replicate]
end Go.Proofs.YtbljppcaikhjhaaDoor
