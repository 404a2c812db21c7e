/- BuffersNames: copyistkit.Times, and the plain facts. No condition but those written. -/
import Derived.Test.YtnbhejbpofjamaaDoorBfu
import Derived.Laws.Rows
namespace Go.Proofs.YtnbhejbpofjamaaDoor
open Go.RowKit

/-- s, n times. -/
def timesB (s : ByteArray) (n : Nat) : ByteArray := ⟨(List.replicate n s.data.toList).flatten.toArray⟩
theorem bytes_ext {a b : ByteArray} (h : a.data.toList = b.data.toList) : a = b := by
  cases a
  cases b
  simpa using h
theorem rep_two (j : Nat) (l : List UInt8) : (List.replicate (2 * j) l).flatten = (List.replicate j (l ++ l)).flatten := by
  induction j with
  | zero => rfl
  | succ j ih => rw [show 2 * (j + 1) = 2 * j + 1 + 1 by omega, List.replicate_succ, List.replicate_succ, List.flatten_cons, List.flatten_cons, ih, List.replicate_succ, List.flatten_cons, List.append_assoc]
theorem times_even {s' o : ByteArray} {k j n : Nat} {l : List UInt8} (hk : k = 2 * j) (h : o.data.toList ++ (List.replicate k s'.data.toList).flatten = (List.replicate n l).flatten) :
    o.data.toList ++ (List.replicate j (s' ++ s').data.toList).flatten = (List.replicate n l).flatten := by
  subst hk
  rw [rep_two] at h
  simpa using h
theorem times_odd {s' o : ByteArray} {k j n : Nat} {l : List UInt8} (hk : k = 2 * j + 1) (h : o.data.toList ++ (List.replicate k s'.data.toList).flatten = (List.replicate n l).flatten) :
    (o ++ s').data.toList ++ (List.replicate j (s' ++ s').data.toList).flatten = (List.replicate n l).flatten := by
  subst hk
  rw [List.replicate_succ, List.flatten_cons, rep_two] at h
  simpa using h
theorem times_small {s' o s : ByteArray} {k n : Nat} (hk : 0 < k) (h : o.data.toList ++ (List.replicate k s'.data.toList).flatten = (List.replicate n s.data.toList).flatten) (hs : n * s.size ≤ 100000000) :
    s'.size + s'.size ≤ 9223372036854775807 ∧ o.size + s'.size ≤ 9223372036854775807 := by
  have e := congrArg List.length h
  simp only [List.length_append, List.length_flatten, List.map_replicate, List.sum_replicate_nat, Array.length_toList] at e
  have h1 : s'.size ≤ k * s'.size := Nat.le_mul_of_pos_left _ hk
  have e1 : o.data.size = o.size := rfl
  have e2 : s'.data.size = s'.size := rfl
  have e3 : s.data.size = s.size := rfl
  rw [e1, e2, e3] at e
  omega
set_option maxRecDepth 100000 in
theorem times_any (s : ByteArray) (n : Nat) (w : World) (hn : n ≤ 100000) (hs : n * s.size ≤ 100000000) : Calls Tryd.prog 13 #[.string s, .int .i64 (n : Int)] w fun e w' => e = .returned (.string (timesB s n)) ∧ w = w' := by
  go_enter Tryd.func13, Tryd.ntmps13
  go_wp2
  go_loopw [0, 1, 5] (fun a b c wr => ∃ (s' o : ByteArray) (k : Nat), a = .string s' ∧ b = .int .i64 (k : Int) ∧ c = .string o ∧ k ≤ 100000 ∧ o.data.toList ++ (List.replicate k s'.data.toList).flatten = (List.replicate n s.data.toList).flatten ∧ wr = w) (fun _ b _ _ => (intOf b).toNat)
  case atStart => exact ⟨s, ⟨#[]⟩, n, rfl, rfl, rfl, hn, by simp, rfl⟩
  case round =>
    obtain ⟨s', o, k, rfl, rfl, rfl, hk, hc, rfl⟩ := hrel
    have HC := hide hc
    clear hc
    by_cases h0 : 0 < k
    · have hz : decide ((0 : Int) < (k : Int)) = true := by simp; omega
      obtain ⟨z1, z2⟩ := times_small h0 HC.out hs
      have hp : ∃ j, k = 2 * j ∨ k = 2 * j + 1 := ⟨k / 2, by omega⟩
      obtain ⟨j, hj | hj⟩ := hp
      · have hm : (k : Int).tmod 2 = 0 := by rw [Int.tmod_eq_emod_of_nonneg (by omega)]; omega
        have hd : (k : Int).tdiv 2 = (j : Int) := by rw [Int.tdiv_eq_ediv_of_nonneg (by omega)]; omega
        have hm1 : decide ((k : Int).tmod 2 = 1) = false := by rw [hm]; decide
        have HJ := hide hj
        go_wp2_with fail
        go_roundw
        case rel => exact ⟨s' ++ s', o, j, rfl, rfl, rfl, by have := HJ.out; omega, times_even HJ.out HC.out, trivial⟩
        case measure => have := HJ.out; simp [intOf]; omega
      · have hm : (k : Int).tmod 2 = 1 := by rw [Int.tmod_eq_emod_of_nonneg (by omega)]; omega
        have hd : (k : Int).tdiv 2 = (j : Int) := by rw [Int.tdiv_eq_ediv_of_nonneg (by omega)]; omega
        have hm1 : decide ((k : Int).tmod 2 = 1) = true := by rw [hm]; decide
        have HJ := hide hj
        go_wp2_with fail
        go_roundw
        case rel => exact ⟨s' ++ s', o ++ s', j, rfl, by rw [show (2 * (j : Int) + 1) / 2 = j by omega], rfl, by have := HJ.out; omega, times_odd HJ.out HC.out, trivial⟩
        case measure => have := HJ.out; simp [intOf]; omega
    · have hz : decide ((0 : Int) < (k : Int)) = false := by simp; omega
      obtain rfl : k = 0 := by omega
      have HO := hide (show o = timesB s n from bytes_ext (by have := HC.out; simpa [timesB] using this))
      go_wp2_with fail
      go_ret
      exact ⟨by rw [← HO.out]; rfl, rfl⟩

/-- A letter of one byte, n times: n characters. -/
theorem flat_rep (n : Nat) (x : UInt8) : (List.replicate n [x]).flatten = List.replicate n x := by
  induction n with
  | zero => rfl
  | succ n ih => rw [List.replicate_succ, List.flatten_cons, ih, List.replicate_succ]; rfl
theorem point_x (l : List UInt8) : pointL (120 :: l) = (120, 1) := by
  unfold pointL
  simp only [List.length_cons, List.getD_cons_zero]
  unfold pointN
  simp
theorem chars_x (n : Nat) : charsL (List.replicate n 120) = some (List.replicate n 120) := by
  induction n with
  | zero => rfl
  | succ n ih =>
    rw [List.replicate_succ, charsL_step _ (by simp), point_x]
    simp [ih, List.replicate_succ]
theorem times_x (n : Nat) : (timesB ⟨#[120]⟩ n).data.toList = List.replicate n 120 := by
  unfold timesB
  simp [flat_rep]
theorem valid_x (n : Nat) : validS (timesB ⟨#[120]⟩ n) = true := by unfold validS; rw [times_x, chars_x]; rfl
theorem len_x (n : Nat) : lenS (timesB ⟨#[120]⟩ n) = n := by unfold lenS; rw [times_x, chars_x]; simp
theorem size_x (n : Nat) : (timesB ⟨#[120]⟩ n).size = n := by
  show (timesB ⟨#[120]⟩ n).data.size = n
  rw [← Array.length_toList, times_x, List.length_replicate]

def xB (n : Nat) : ByteArray := timesB ⟨#[120]⟩ n
def nA : ByteArray := ⟨#[97]⟩
def nA2 : ByteArray := ⟨#[97, 60, 50, 62]⟩
def nA3 : ByteArray := ⟨#[97, 60, 51, 62]⟩
def nC : ByteArray := ⟨#[99]⟩
theorem times_call (n : Nat) (w : World) (hn : n ≤ 100000) : Calls Tryd.prog 13 #[.string ⟨#[120]⟩, .int .i64 (n : Int)] w fun e w' => e = .returned (.string (xB n)) ∧ w = w' := times_any ⟨#[120]⟩ n w hn (by show n * 1 ≤ _; omega)
theorem chk_x {n : Nat} (h0 : 0 < n) (h : n ≤ 200) : chkE (xB n) = 0 := by
  unfold chkE xB
  rw [if_neg (by rw [valid_x]; simp), if_neg (by rw [size_x]; omega), if_neg (by rw [len_x]; omega)]
theorem chk_long {n : Nat} (h : 200 < n) : chkE (xB n) = 4 := by
  unfold chkE xB
  rw [if_neg (by rw [valid_x]; simp), if_neg (by rw [size_x]; omega), if_pos (by rw [len_x]; omega)]
theorem ne_size {a b : ByteArray} (h : a.size ≠ b.size) : a ≠ b := fun e => h (by rw [e])
theorem cre_chk {s : Bst} {n : ByteArray} {e : Int} (h : chkE n = e) (h0 : e ≠ 0) : creE s n = e := by
  subst h
  unfold creE
  rw [if_pos h0]
theorem cre_used {s : Bst} {n : ByteArray} (h : chkE n = 0) (h1 : n ∈ s.all.map Nb.name) : creE s n = 17 := by
  unfold creE
  rw [if_neg (by rw [h]; simp), if_pos (hasN_mem.2 h1)]
theorem hasN_not {l : List Nb} {n : ByteArray} (h : n ∉ l.map Nb.name) : hasN l n = false := by
  cases e : hasN l n with
  | false => rfl
  | true => exact absurd (hasN_mem.1 e) h
theorem cre_ok {s : Bst} {n : ByteArray} (h : chkE n = 0) (h1 : n ∉ s.all.map Nb.name) (h2 : s.all.length < 200) : creE s n = 0 := by
  unfold creE
  rw [if_neg (by rw [h]; simp), if_neg (by rw [hasN_not h1]; simp), if_neg (by omega)]
theorem useN_true {l : List Nb} {n : ByteArray} {k : Int} (h : ∃ x ∈ l, x.name = n ∧ (x.id : Int) ≠ k) : useN l n k = true := by
  obtain ⟨x, hx, h1⟩ := h
  unfold useN
  rw [List.any_eq_true]
  exact ⟨x, hx, by simpa using h1⟩
theorem useN_false {l : List Nb} {n : ByteArray} {k : Int} (h : ∀ x ∈ l, x.name = n → (x.id : Int) = k) : useN l n k = false := by
  unfold useN
  rw [List.any_eq_false]
  intro x hx
  simp
  exact h x hx
theorem ren_used {s : Bst} {n : ByteArray} {k : Int} (h : knownE s.all k = 0) (h1 : chkE n = 0) (h2 : useN s.all n k = true) : renE s k n = 17 := by
  unfold renE
  rw [if_neg (by rw [h]; simp), if_neg (by rw [h1]; simp), if_pos h2]
theorem ren_ok {s : Bst} {n : ByteArray} {k : Int} (h : knownE s.all k = 0) (h1 : chkE n = 0) (h2 : useN s.all n k = false) : renE s k n = 0 := by
  unfold renE
  rw [if_neg (by rw [h]; simp), if_neg (by rw [h1]; simp), if_neg (by rw [h2]; simp)]

/-! ### The states of BuffersNames -/
def q0 (g0 b0 : Nat) : Bst := start 1 2 3 g0 b0
def q1 (X : ByteArray) (g0 b0 g1 b1 : Nat) : Bst := addS (q0 g0 b0) X g1 b1
def q2 (X : ByteArray) (g0 b0 g1 b1 g2 b2 : Nat) : Bst := addS (q1 X g0 b0 g1 b1) nA g2 b2
def q3 (X : ByteArray) (g0 b0 g1 b1 g2 b2 g3 b3 : Nat) : Bst := addS (q2 X g0 b0 g1 b1 g2 b2) nA2 g3 b3
def q4 (X : ByteArray) (g0 b0 g1 b1 g2 b2 g3 b3 : Nat) : Bst := ⟨[⟨0, g0, b0, scrB⟩, ⟨1, g1, b1, X⟩, ⟨2, g2, b2, nA⟩, ⟨3, g3, b3, nC⟩], [0, 1, 2, 3], 0, 4, 1, 2, 3⟩
def q5 (X : ByteArray) (g0 b0 g1 b1 g2 b2 g3 b3 : Nat) : Bst := (q4 X g0 b0 g1 b1 g2 b2 g3 b3).withCur 3
def q6 (X : ByteArray) (g0 b0 g1 b1 g2 b2 g3 b3 : Nat) : Bst := burS (q5 X g0 b0 g1 b1 g2 b2 g3 b3) 0
section
variable {X : ByteArray} {g0 b0 g1 b1 g2 b2 g3 b3 : Nat}
theorem cre0_scr : creE (q0 g0 b0) scrB = 17 := cre_used (by kernel_rfl) (List.mem_cons_self ..)
theorem cre0_none : creE (q0 g0 b0) ⟨#[]⟩ = 17 := cre_chk (by kernel_rfl) (by decide)
theorem cre0_ff : creE (q0 g0 b0) ⟨#[255]⟩ = 5 := cre_chk (by kernel_rfl) (by decide)
theorem cre0_long {n : Nat} (h : 200 < n) : creE (q0 g0 b0) (xB n) = 4 := cre_chk (chk_long h) (by decide)
theorem cre0_x (hX : X.size = 200) (hc : chkE X = 0) : creE (q0 g0 b0) X = 0 := by
  refine cre_ok hc ?_ (by show 1 < _; omega)
  show X ∉ [scrB]
  simp
  exact ne_size (by rw [hX]; decide)
theorem cre1_a (hX : X.size = 200) : creE (q1 X g0 b0 g1 b1) nA = 0 := by
  refine cre_ok (by kernel_rfl) ?_ (by show 2 < _; omega)
  show nA ∉ [scrB, X]
  simp
  exact ⟨ne_size (by decide), ne_size (by rw [hX]; decide)⟩
theorem cre2_a2 (hX : X.size = 200) : creE (q2 X g0 b0 g1 b1 g2 b2) nA2 = 0 := by
  refine cre_ok (by kernel_rfl) ?_ (by show 3 < _; omega)
  show nA2 ∉ [scrB, X, nA]
  simp
  exact ⟨ne_size (by decide), ne_size (by rw [hX]; decide), ne_size (by decide)⟩
theorem nm_one (s : ByteArray) : (nmB s 1).size = s.size + 3 := by
  have h : (nmB s 1).data.toList.length = s.data.toList.length + 3 := by
    rw [nmB_data]
    unfold nmL
    rw [if_neg (by omega), Lib.decDigits_one (by omega)]
    simp
  rw [Array.length_toList, Array.length_toList] at h
  exact h
theorem nm_a3 : nmB nA 2 = nA3 := by
  unfold nmB nmL
  rw [if_neg (by omega), Lib.decDigits_one (by omega)]
  rfl
theorem uni1_lt (j : Nat) (hj : j < 1) : hasN (q1 X g0 b0 g1 b1).all (nmB X j) = true := by
  obtain rfl : j = 0 := by omega
  rw [nmB_zero, hasN_mem]
  show X ∈ [scrB, X]
  simp
theorem uni1_at (hX : X.size = 200) : hasN (q1 X g0 b0 g1 b1).all (nmB X 1) = false := by
  refine hasN_not ?_
  show nmB X 1 ∉ [scrB, X]
  simp
  exact ⟨ne_size (by rw [nm_one, hX]; decide), ne_size (by rw [nm_one, hX]; decide)⟩
theorem uni3_lt (j : Nat) (hj : j < 2) : hasN (q3 X g0 b0 g1 b1 g2 b2 g3 b3).all (nmB nA j) = true := by
  rw [hasN_mem]
  show _ ∈ [scrB, X, nA, nA2]
  rcases (show j = 0 ∨ j = 1 by omega) with rfl | rfl
  · rw [nmB_zero]; simp
  · rw [show nmB nA 1 = nA2 from nmB_a2]; simp
theorem uni3_at (hX : X.size = 200) : hasN (q3 X g0 b0 g1 b1 g2 b2 g3 b3).all (nmB nA 2) = false := by
  refine hasN_not ?_
  rw [nm_a3]
  show nA3 ∉ [scrB, X, nA, nA2]
  simp
  exact ⟨ne_size (by decide), ne_size (by rw [hX]; decide), ne_size (by decide), by decide⟩
theorem q3_names (hX : X.size = 200) : ((q3 X g0 b0 g1 b1 g2 b2 g3 b3).all.map Nb.name).Nodup := by
  show [scrB, X, nA, nA2].Nodup
  simp
  exact ⟨⟨ne_size (by rw [hX]; decide), ne_size (by decide), ne_size (by decide)⟩, ⟨ne_size (by rw [hX]; decide), ne_size (by rw [hX]; decide)⟩, ne_size (by decide)⟩
theorem ren3_used : renE (q3 X g0 b0 g1 b1 g2 b2 g3 b3) 2 nA2 = 17 := ren_used (by kernel_rfl) (by kernel_rfl) (useN_true ⟨⟨3, g3, b3, nA2⟩, by show _ ∈ [(⟨0, g0, b0, scrB⟩ : Nb), ⟨1, g1, b1, X⟩, ⟨2, g2, b2, nA⟩, ⟨3, g3, b3, nA2⟩]; simp, rfl, (by decide : (3 : Int) ≠ 2)⟩)
theorem ren3_a (hX : X.size = 200) : renE (q3 X g0 b0 g1 b1 g2 b2 g3 b3) 2 nA = 0 := by
  refine ren_ok (by kernel_rfl) (by kernel_rfl) (useN_false ?_)
  intro x hx
  have hx' : x ∈ [(⟨0, g0, b0, scrB⟩ : Nb), ⟨1, g1, b1, X⟩, ⟨2, g2, b2, nA⟩, ⟨3, g3, b3, nA2⟩] := hx
  simp at hx'
  rcases hx' with rfl | rfl | rfl | rfl
  · exact fun e => absurd e (ne_size (by show scrB.size ≠ nA.size; decide))
  · exact fun e => absurd e (ne_size (by show X.size ≠ _; rw [hX]; decide))
  · exact fun _ => rfl
  · exact fun e => absurd e (ne_size (by show nA2.size ≠ nA.size; decide))
theorem ren3_same : renS (q3 X g0 b0 g1 b1 g2 b2 g3 b3) 2 nA = q3 X g0 b0 g1 b1 g2 b2 g3 b3 := rfl
theorem ren3_nine : renE (q3 X g0 b0 g1 b1 g2 b2 g3 b3) 9 ⟨#[]⟩ = 8 := rfl
theorem ren3_c (hX : X.size = 200) : renE (q3 X g0 b0 g1 b1 g2 b2 g3 b3) 3 nC = 0 := by
  refine ren_ok (by kernel_rfl) (by kernel_rfl) (useN_false ?_)
  intro x hx
  have hx' : x ∈ [(⟨0, g0, b0, scrB⟩ : Nb), ⟨1, g1, b1, X⟩, ⟨2, g2, b2, nA⟩, ⟨3, g3, b3, nA2⟩] := hx
  simp at hx'
  rcases hx' with rfl | rfl | rfl | rfl
  · exact fun e => absurd e (ne_size (by show scrB.size ≠ nC.size; decide))
  · exact fun e => absurd e (ne_size (by show X.size ≠ _; rw [hX]; decide))
  · exact fun e => absurd e (by show nA ≠ nC; decide)
  · exact fun _ => rfl
theorem ren3_q4 : renS (q3 X g0 b0 g1 b1 g2 b2 g3 b3) 3 nC = q4 X g0 b0 g1 b1 g2 b2 g3 b3 := rfl
end
end Go.Proofs.YtnbhejbpofjamaaDoor
