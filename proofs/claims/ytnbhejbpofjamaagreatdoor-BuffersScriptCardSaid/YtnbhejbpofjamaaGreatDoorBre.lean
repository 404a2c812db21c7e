/- copyistref01.Valid, List, point. No condition but those written. -/
import Derived.Test.YtnbhejbpofjamaaGreatDoorBru
import Derived.BigQuiet
import Derived.Deep.QuietTactic
namespace Go.Proofs.YtnbhejbpofjamaaGreatDoor
open Go.RowKit

/-- byte i of a string, as a number; 0 behind its end -/
def byteAt (s : ByteArray) (i : Nat) : Nat := (s.data.toList.getD i 0).toNat
theorem byteAt_lt (s : ByteArray) (i : Nat) : byteAt s i < 256 := UInt8.toNat_lt _
theorem byteAt_eq {s : ByteArray} {i : Nat} (h : i < s.size) : byteAt s i = s[i].toNat := by simp [byteAt, List.getD, h]; rfl
def tailB (s : ByteArray) (i : Nat) : Bool := decide (i < s.size ∧ 128 ≤ byteAt s i ∧ byteAt s i < 192)

set_option maxHeartbeats 400000 in
theorem tail_nat (s : ByteArray) (i : Nat) (w : World) (_hi : i < 10) (_hs : s.size ≤ 9223372036854775807) : Calls Tryz.prog 104 #[.string s, .int .i64 (i : Int)] w fun e w' => e = .returned (.bool (tailB s i)) ∧ w = w' := by
  by_cases h : i < s.size
  · go_enter Tryz.func104, Tryz.ntmps104
    go_wp2
    all_goals
      go_ret
      exact ⟨ret_bool (by simp [tailB, byteAt_eq h, h]; omega), rfl⟩
  · have h' : ¬ ((i : Int) < (s.size : Int)) := by omega
    go_enter Tryz.func104, Tryz.ntmps104
    go_wp2
    go_ret
    exact ⟨by simp [tailB, h], rfl⟩

theorem tail_any (s : ByteArray) (i : Int) (w : World) (hi : 0 ≤ i) (hi' : i < 10) (hs : s.size ≤ 9223372036854775807) : Calls Tryz.prog 104 #[.string s, .int .i64 i] w fun e w' => e = .returned (.bool (tailB s i.toNat)) ∧ w = w' := by
  obtain ⟨n, rfl⟩ := Int.eq_ofNat_of_zero_le hi
  exact tail_nat s n w (by omega) hs

/-- Is a number a character? -/
def isChar (c : Int) : Bool := decide (0 ≤ c ∧ c ≤ 1114111 ∧ (c < 55296 ∨ 57343 < c))
set_option maxHeartbeats 400000 in
theorem is_any (c : Int) (w : World) : Calls Tryz.prog 105 #[.int .i64 c] w fun e w' => e = .returned (.bool (isChar c)) ∧ w = w' := by
  go_enter Tryz.func105, Tryz.ntmps105
  go_wp2
  all_goals
    go_ret
    exact ⟨ret_bool (by simp [isChar]; omega), rfl⟩

/-- What the reference's function of the first character returns. -/
def PointRes (s : ByteArray) (w : World) (e : Ending) (w' : World) : Prop :=
  e = .returned (.tuple #[.int .i64 ((pointL s.data.toList).1 : Int), .int .i64 ((pointL s.data.toList).2 : Int)]) ∧ ∃ q, w' = w.drewN q
theorem PointRes.mk {s : ByteArray} {w w' : World} {c n : Int} {c' n' : Nat} (h : pointL s.data.toList = (c', n')) (hc : c = c') (hn : n = n') (hw : ∃ q, w' = w.drewN q) : PointRes s w (.returned (.tuple #[.int .i64 c, .int .i64 n])) w' :=
  ⟨by rw [h, hc, hn], hw⟩
theorem drewN0 (w : World) : ∃ q, w = w.drewN q := ⟨0, rfl⟩
section
variable {s : ByteArray}
theorem pl_eq (s : ByteArray) : pointL s.data.toList = pointN s.size (byteAt s 0) (byteAt s 1) (byteAt s 2) (byteAt s 3) := rfl
theorem tail_true {i : Nat} (h : tailB s i = true) : i < s.size ∧ 128 ≤ byteAt s i ∧ byteAt s i < 192 := by simpa [tailB] using h
theorem tail_false {i : Nat} (h : tailB s i = false) : ¬ (i < s.size ∧ 128 ≤ byteAt s i ∧ byteAt s i < 192) := by
  intro h2
  have : tailB s i = true := by simpa [tailB] using h2
  rw [h] at this
  cases this
theorem pl_a (h : byteAt s 0 < 128) : pointL s.data.toList = (byteAt s 0, 1) := by rw [pl_eq, pointN, if_pos h]
theorem pl_b (h : 194 ≤ byteAt s 0) (h' : byteAt s 0 < 224) (t : tailB s 1 = true) : pointL s.data.toList = ((byteAt s 0 - 192) * 64 + byteAt s 1 - 128, 2) := by
  rw [pl_eq, pointN, if_neg (by omega), if_pos ⟨h, h', tail_true t⟩]
theorem pl_b0 (h : 128 ≤ byteAt s 0) (h' : byteAt s 0 < 224) (t : byteAt s 0 < 194 ∨ tailB s 1 = false) : pointL s.data.toList = (0, 0) := by
  rw [pl_eq, pointN, if_neg (by omega), if_neg, if_neg (by omega), if_neg (by omega)]
  intro hh
  rcases t with t | t
  · omega
  · exact tail_false t hh.2.2
theorem pl_c (h : 224 ≤ byteAt s 0) (h' : byteAt s 0 < 240) (t : tailB s 1 = true) (t2 : tailB s 2 = true) (hc : 2048 ≤ (byteAt s 0 - 224) * 4096 + (byteAt s 1 - 128) * 64 + (byteAt s 2 - 128))
    (hi : isChar (((byteAt s 0 - 224) * 4096 + (byteAt s 1 - 128) * 64 + (byteAt s 2 - 128) : Nat) : Int) = true) : pointL s.data.toList = ((byteAt s 0 - 224) * 4096 + (byteAt s 1 - 128) * 64 + (byteAt s 2 - 128), 3) := by
  rw [pl_eq, pointN, if_neg (by omega), if_neg (by omega), if_pos ⟨h, h', tail_true t, tail_true t2⟩, if_pos]
  refine ⟨hc, ?_⟩
  simp only [isChar, decide_eq_true_eq] at hi
  omega
theorem pl_c0 (h : 224 ≤ byteAt s 0) (h' : byteAt s 0 < 240) (t : tailB s 1 = true) (t2 : tailB s 2 = true) (hc : (byteAt s 0 - 224) * 4096 + (byteAt s 1 - 128) * 64 + (byteAt s 2 - 128) < 2048 ∨
    isChar (((byteAt s 0 - 224) * 4096 + (byteAt s 1 - 128) * 64 + (byteAt s 2 - 128) : Nat) : Int) = false) : pointL s.data.toList = (0, 0) := by
  have ht := tail_true t
  have ht2 := tail_true t2
  rw [pl_eq, pointN, if_neg (by omega), if_neg (by omega), if_pos ⟨h, h', ht, ht2⟩, if_neg]
  rintro ⟨h1, h2⟩
  rcases hc with hc | hc
  · omega
  · simp only [isChar, decide_eq_false_iff_not] at hc
    omega
theorem pl_c1 (h : 224 ≤ byteAt s 0) (h' : byteAt s 0 < 240) (t : tailB s 1 = false ∨ tailB s 2 = false) : pointL s.data.toList = (0, 0) := by
  rw [pl_eq, pointN, if_neg (by omega), if_neg (by omega), if_neg, if_neg (by omega)]
  rintro ⟨_, _, h1, h2⟩
  rcases t with t | t
  · exact tail_false t h1
  · exact tail_false t h2
theorem pl_d (h : 240 ≤ byteAt s 0) (h' : byteAt s 0 < 245) (t : tailB s 1 = true) (t2 : tailB s 2 = true) (t3 : tailB s 3 = true) (hc : 65536 ≤ (byteAt s 0 - 240) * 262144 + (byteAt s 1 - 128) * 4096 + (byteAt s 2 - 128) * 64 + (byteAt s 3 - 128))
    (hi : isChar (((byteAt s 0 - 240) * 262144 + (byteAt s 1 - 128) * 4096 + (byteAt s 2 - 128) * 64 + (byteAt s 3 - 128) : Nat) : Int) = true) : pointL s.data.toList = ((byteAt s 0 - 240) * 262144 + (byteAt s 1 - 128) * 4096 + (byteAt s 2 - 128) * 64 + (byteAt s 3 - 128), 4) := by
  rw [pl_eq, pointN, if_neg (by omega), if_neg (by omega), if_neg (by omega), if_pos ⟨h, h', tail_true t, tail_true t2, tail_true t3⟩, if_pos]
  refine ⟨hc, ?_⟩
  simp only [isChar, decide_eq_true_eq] at hi
  omega
theorem pl_d0 (h : 240 ≤ byteAt s 0) (h' : byteAt s 0 < 245) (t : tailB s 1 = true) (t2 : tailB s 2 = true) (t3 : tailB s 3 = true) (hc : (byteAt s 0 - 240) * 262144 + (byteAt s 1 - 128) * 4096 + (byteAt s 2 - 128) * 64 + (byteAt s 3 - 128) < 65536 ∨
    isChar (((byteAt s 0 - 240) * 262144 + (byteAt s 1 - 128) * 4096 + (byteAt s 2 - 128) * 64 + (byteAt s 3 - 128) : Nat) : Int) = false) : pointL s.data.toList = (0, 0) := by
  rw [pl_eq, pointN, if_neg (by omega), if_neg (by omega), if_neg (by omega), if_pos ⟨h, h', tail_true t, tail_true t2, tail_true t3⟩, if_neg]
  rintro ⟨h1, h2⟩
  rcases hc with hc | hc
  · omega
  · simp only [isChar, decide_eq_false_iff_not] at hc
    omega
theorem pl_d1 (h : 240 ≤ byteAt s 0) (t : 245 ≤ byteAt s 0 ∨ tailB s 1 = false ∨ tailB s 2 = false ∨ tailB s 3 = false) : pointL s.data.toList = (0, 0) := by
  rw [pl_eq, pointN, if_neg (by omega), if_neg (by omega), if_neg (by omega), if_neg]
  rintro ⟨_, h0, h1, h2, h3⟩
  rcases t with t | t | t | t
  · omega
  · exact tail_false t h1
  · exact tail_false t h2
  · exact tail_false t h3
end

set_option maxRecDepth 100000 in
set_option maxHeartbeats 1000000 in
theorem point_a (s : ByteArray) (w : World) (h0 : 0 < s.size) (_hs : s.size ≤ 9223372036854775807) (h : s[0].toNat < 128) : Calls Tryz.prog 70 #[.string s] w (PointRes s w) := by
  go_enter Tryz.func70, Tryz.ntmps70
  go_wp2_with (first | (go_at_call 104; refine (tail_any _ _ _ (by omega) (by omega) hs).mono ?_; rintro e w' ⟨rfl, rfl⟩) | (go_at_call 105; refine (is_any _ _).mono ?_; rintro e w' ⟨rfl, rfl⟩))
  go_ret2
  exact .mk (pl_a (by rw [byteAt_eq h0]; exact h)) (by rw [byteAt_eq h0]) rfl (drewN0 w)

set_option maxRecDepth 100000 in
set_option maxHeartbeats 1000000 in
theorem point_b (s : ByteArray) (w : World) (h0 : 0 < s.size) (hs : s.size ≤ 9223372036854775807) (h : 194 ≤ s[0].toNat) (h' : s[0].toNat < 224) (h1 : 1 < s.size) (t1 : tailB s 1 = true) (g1 : 128 ≤ s[1].toNat) (g1' : s[1].toNat < 192) : Calls Tryz.prog 70 #[.string s] w (PointRes s w) := by
  have z1 : (1 : Int) < (s.size : Int) := by omega
  have Z0 : Hid (byteAt s 0 = s[0].toNat) := hide (byteAt_eq h0)
  have Z1 : Hid (byteAt s 1 = s[1].toNat) := hide (byteAt_eq h1)
  go_enter Tryz.func70, Tryz.ntmps70
  go_wp2_with (first | (go_at_call 104; refine (tail_any _ _ _ (by omega) (by omega) hs).mono ?_; rintro e w' ⟨rfl, rfl⟩) | (go_at_call 105; refine (is_any _ _).mono ?_; rintro e w' ⟨rfl, rfl⟩))
  go_ret2
  exact .mk (pl_b (by rw [Z0.out]; exact h) (by rw [Z0.out]; exact h') t1) (by rw [Z0.out, Z1.out]; omega) rfl (drewN0 w)

set_option maxRecDepth 100000 in
set_option maxHeartbeats 1000000 in
theorem point_b0 (s : ByteArray) (w : World) (h0 : 0 < s.size) (hs : s.size ≤ 9223372036854775807) (h : 194 ≤ s[0].toNat) (h' : s[0].toNat < 224) (t : tailB s 1 = false) : Calls Tryz.prog 70 #[.string s] w (PointRes s w) := by
  have Z0 : Hid (byteAt s 0 = s[0].toNat) := hide (byteAt_eq h0)
  go_enter Tryz.func70, Tryz.ntmps70
  go_wp2_with (first | (go_at_call 104; refine (tail_any _ _ _ (by omega) (by omega) hs).mono ?_; rintro e w' ⟨rfl, rfl⟩) | (go_at_call 105; refine (is_any _ _).mono ?_; rintro e w' ⟨rfl, rfl⟩))
  go_ret2
  exact .mk (pl_b0 (by rw [Z0.out]; omega) (by rw [Z0.out]; exact h') (.inr t)) rfl rfl (drewN0 w)
set_option maxRecDepth 100000 in
set_option maxHeartbeats 1000000 in
theorem point_b1 (s : ByteArray) (w : World) (h0 : 0 < s.size) (_hs : s.size ≤ 9223372036854775807) (h : 128 ≤ s[0].toNat) (h' : s[0].toNat < 194) : Calls Tryz.prog 70 #[.string s] w (PointRes s w) := by
  have Z0 : Hid (byteAt s 0 = s[0].toNat) := hide (byteAt_eq h0)
  go_enter Tryz.func70, Tryz.ntmps70
  go_wp2_with (first | (go_at_call 104; refine (tail_any _ _ _ (by omega) (by omega) hs).mono ?_; rintro e w' ⟨rfl, rfl⟩) | (go_at_call 105; refine (is_any _ _).mono ?_; rintro e w' ⟨rfl, rfl⟩))
  go_ret2
  exact .mk (pl_b0 (by rw [Z0.out]; omega) (by rw [Z0.out]; omega) (.inl (by rw [Z0.out]; exact h'))) rfl rfl (drewN0 w)
set_option maxRecDepth 100000 in
set_option maxHeartbeats 1000000 in
theorem point_c (s : ByteArray) (w : World) (h0 : 0 < s.size) (hs : s.size ≤ 9223372036854775807) (hb : 224 ≤ s[0].toNat) (hb' : s[0].toNat < 240) (t1 : tailB s 1 = true) (t2 : tailB s 2 = true) (h1 : 1 < s.size) (h2 : 2 < s.size) (g1 : 128 ≤ s[1].toNat) (g1' : s[1].toNat < 192) (g2 : 128 ≤ s[2].toNat) (g2' : s[2].toNat < 192) :
    Calls Tryz.prog 70 #[.string s] w (PointRes s w) := by
  have z1 : (1 : Int) < (s.size : Int) := by omega
  have z2 : (2 : Int) < (s.size : Int) := by omega
  have Z0 : Hid (byteAt s 0 = s[0].toNat) := hide (byteAt_eq h0)
  have Z1 : Hid (byteAt s 1 = s[1].toNat) := hide (byteAt_eq h1)
  have Z2 : Hid (byteAt s 2 = s[2].toNat) := hide (byteAt_eq h2)
  have hcast : (((byteAt s 0 - 224) * 4096 + (byteAt s 1 - 128) * 64 + (byteAt s 2 - 128) : Nat) : Int) = (((s[0].toNat : Int) - 224) * 64 + (s[1].toNat : Int) - 128) * 64 + (s[2].toNat : Int) - 128 := by
    rw [Z0.out, Z1.out, Z2.out]; omega
  have HC := hide hcast
  clear hcast
  go_enter Tryz.func70, Tryz.ntmps70
  go_wp2_with (first | (go_at_call 104; refine (tail_any _ _ _ (by omega) (by omega) hs).mono ?_; rintro e w' ⟨rfl, rfl⟩) | (go_at_call 105; refine (is_any _ _).mono ?_; rintro e w' ⟨rfl, rfl⟩))
  go_quiet (fail)
  go_wp2_with (first | (go_at_call 104; refine (tail_any _ _ _ (by omega) (by omega) hs).mono ?_; rintro e w' ⟨rfl, rfl⟩) | (go_at_call 105; refine (is_any _ _).mono ?_; rintro e w' ⟨rfl, rfl⟩))
  · have hi : isChar ((((s[0].toNat : Int) - 224) * 64 + (s[1].toNat : Int) - 128) * 64 + (s[2].toNat : Int) - 128) = true := by assumption
    have hc : 2048 ≤ (((s[0].toNat : Int) - 224) * 64 + (s[1].toNat : Int) - 128) * 64 + (s[2].toNat : Int) - 128 := by assumption
    go_ret2
    exact .mk (pl_c (by rw [Z0.out]; exact hb) (by rw [Z0.out]; exact hb') t1 t2 (by rw [← HC.out] at hc; omega) (by rw [HC.out]; exact hi)) HC.out.symm rfl ⟨_, rfl⟩
  · have hi : isChar ((((s[0].toNat : Int) - 224) * 64 + (s[1].toNat : Int) - 128) * 64 + (s[2].toNat : Int) - 128) = false := by assumption
    go_ret2
    exact .mk (pl_c0 (by rw [Z0.out]; exact hb) (by rw [Z0.out]; exact hb') t1 t2 (.inr (by rw [HC.out]; exact hi))) rfl rfl ⟨_, rfl⟩
  · have hc : (((s[0].toNat : Int) - 224) * 64 + (s[1].toNat : Int) - 128) * 64 + (s[2].toNat : Int) - 128 < 2048 := by assumption
    go_ret2
    exact .mk (pl_c0 (by rw [Z0.out]; exact hb) (by rw [Z0.out]; exact hb') t1 t2 (.inl (by rw [← HC.out] at hc; omega))) rfl rfl ⟨_, rfl⟩
set_option maxRecDepth 100000 in
set_option maxHeartbeats 1000000 in
theorem point_c1 (s : ByteArray) (w : World) (h0 : 0 < s.size) (hs : s.size ≤ 9223372036854775807) (hb : 224 ≤ s[0].toNat) (hb' : s[0].toNat < 240) (t1 : tailB s 1 = false) : Calls Tryz.prog 70 #[.string s] w (PointRes s w) := by
  have Z0 : Hid (byteAt s 0 = s[0].toNat) := hide (byteAt_eq h0)
  go_enter Tryz.func70, Tryz.ntmps70
  go_wp2_with (first | (go_at_call 104; refine (tail_any _ _ _ (by omega) (by omega) hs).mono ?_; rintro e w' ⟨rfl, rfl⟩) | (go_at_call 105; refine (is_any _ _).mono ?_; rintro e w' ⟨rfl, rfl⟩))
  go_ret2
  exact .mk (pl_c1 (by rw [Z0.out]; exact hb) (by rw [Z0.out]; exact hb') (.inl t1)) rfl rfl (drewN0 w)
set_option maxRecDepth 100000 in
set_option maxHeartbeats 1000000 in
theorem point_c2 (s : ByteArray) (w : World) (h0 : 0 < s.size) (hs : s.size ≤ 9223372036854775807) (hb : 224 ≤ s[0].toNat) (hb' : s[0].toNat < 240) (t1 : tailB s 1 = true) (t2 : tailB s 2 = false) : Calls Tryz.prog 70 #[.string s] w (PointRes s w) := by
  have Z0 : Hid (byteAt s 0 = s[0].toNat) := hide (byteAt_eq h0)
  go_enter Tryz.func70, Tryz.ntmps70
  go_wp2_with (first | (go_at_call 104; refine (tail_any _ _ _ (by omega) (by omega) hs).mono ?_; rintro e w' ⟨rfl, rfl⟩) | (go_at_call 105; refine (is_any _ _).mono ?_; rintro e w' ⟨rfl, rfl⟩))
  go_ret2
  exact .mk (pl_c1 (by rw [Z0.out]; exact hb) (by rw [Z0.out]; exact hb') (.inr t2)) rfl rfl (drewN0 w)
set_option maxRecDepth 100000 in
set_option maxHeartbeats 1000000 in
theorem point_d (s : ByteArray) (w : World) (h0 : 0 < s.size) (hs : s.size ≤ 9223372036854775807) (hb : 240 ≤ s[0].toNat) (hb' : s[0].toNat < 245) (t1 : tailB s 1 = true) (t2 : tailB s 2 = true) (t3 : tailB s 3 = true) (h1 : 1 < s.size) (h2 : 2 < s.size) (h3 : 3 < s.size)
    (g1 : 128 ≤ s[1].toNat) (g1' : s[1].toNat < 192) (g2 : 128 ≤ s[2].toNat) (g2' : s[2].toNat < 192) (g3 : 128 ≤ s[3].toNat) (g3' : s[3].toNat < 192) : Calls Tryz.prog 70 #[.string s] w (PointRes s w) := by
  have z1 : (1 : Int) < (s.size : Int) := by omega
  have z2 : (2 : Int) < (s.size : Int) := by omega
  have z3 : (3 : Int) < (s.size : Int) := by omega
  have Z0 : Hid (byteAt s 0 = s[0].toNat) := hide (byteAt_eq h0)
  have Z1 : Hid (byteAt s 1 = s[1].toNat) := hide (byteAt_eq h1)
  have Z2 : Hid (byteAt s 2 = s[2].toNat) := hide (byteAt_eq h2)
  have Z3 : Hid (byteAt s 3 = s[3].toNat) := hide (byteAt_eq h3)
  have hcast : (((byteAt s 0 - 240) * 262144 + (byteAt s 1 - 128) * 4096 + (byteAt s 2 - 128) * 64 + (byteAt s 3 - 128) : Nat) : Int) = ((((s[0].toNat : Int) - 240) * 64 + (s[1].toNat : Int) - 128) * 64 + (s[2].toNat : Int) - 128) * 64 + (s[3].toNat : Int) - 128 := by
    rw [Z0.out, Z1.out, Z2.out, Z3.out]; omega
  have HC := hide hcast
  clear hcast
  go_enter Tryz.func70, Tryz.ntmps70
  go_wp2_with (first | (go_at_call 104; refine (tail_any _ _ _ (by omega) (by omega) hs).mono ?_; rintro e w' ⟨rfl, rfl⟩) | (go_at_call 105; refine (is_any _ _).mono ?_; rintro e w' ⟨rfl, rfl⟩))
  go_quiet (fail)
  go_wp2_with (first | (go_at_call 104; refine (tail_any _ _ _ (by omega) (by omega) hs).mono ?_; rintro e w' ⟨rfl, rfl⟩) | (go_at_call 105; refine (is_any _ _).mono ?_; rintro e w' ⟨rfl, rfl⟩))
  · have hi : isChar (((((s[0].toNat : Int) - 240) * 64 + (s[1].toNat : Int) - 128) * 64 + (s[2].toNat : Int) - 128) * 64 + (s[3].toNat : Int) - 128) = true := by assumption
    have hc : 65536 ≤ ((((s[0].toNat : Int) - 240) * 64 + (s[1].toNat : Int) - 128) * 64 + (s[2].toNat : Int) - 128) * 64 + (s[3].toNat : Int) - 128 := by assumption
    go_ret2
    exact .mk (pl_d (by rw [Z0.out]; exact hb) (by rw [Z0.out]; exact hb') t1 t2 t3 (by rw [← HC.out] at hc; omega) (by rw [HC.out]; exact hi)) HC.out.symm rfl ⟨_, rfl⟩
  · have hi : isChar (((((s[0].toNat : Int) - 240) * 64 + (s[1].toNat : Int) - 128) * 64 + (s[2].toNat : Int) - 128) * 64 + (s[3].toNat : Int) - 128) = false := by assumption
    go_ret2
    exact .mk (pl_d0 (by rw [Z0.out]; exact hb) (by rw [Z0.out]; exact hb') t1 t2 t3 (.inr (by rw [HC.out]; exact hi))) rfl rfl ⟨_, rfl⟩
  · have hc : ((((s[0].toNat : Int) - 240) * 64 + (s[1].toNat : Int) - 128) * 64 + (s[2].toNat : Int) - 128) * 64 + (s[3].toNat : Int) - 128 < 65536 := by assumption
    go_ret2
    exact .mk (pl_d0 (by rw [Z0.out]; exact hb) (by rw [Z0.out]; exact hb') t1 t2 t3 (.inl (by rw [← HC.out] at hc; omega))) rfl rfl ⟨_, rfl⟩
set_option maxRecDepth 100000 in
set_option maxHeartbeats 1000000 in
theorem point_d1 (s : ByteArray) (w : World) (h0 : 0 < s.size) (hs : s.size ≤ 9223372036854775807) (hb : 240 ≤ s[0].toNat) (hb' : s[0].toNat < 245) (t1 : tailB s 1 = false) : Calls Tryz.prog 70 #[.string s] w (PointRes s w) := by
  have Z0 : Hid (byteAt s 0 = s[0].toNat) := hide (byteAt_eq h0)
  go_enter Tryz.func70, Tryz.ntmps70
  go_wp2_with (first | (go_at_call 104; refine (tail_any _ _ _ (by omega) (by omega) hs).mono ?_; rintro e w' ⟨rfl, rfl⟩) | (go_at_call 105; refine (is_any _ _).mono ?_; rintro e w' ⟨rfl, rfl⟩))
  go_ret2
  exact .mk (pl_d1 (by rw [Z0.out]; exact hb) (.inr (.inl t1))) rfl rfl (drewN0 w)
set_option maxRecDepth 100000 in
set_option maxHeartbeats 1000000 in
theorem point_d2 (s : ByteArray) (w : World) (h0 : 0 < s.size) (hs : s.size ≤ 9223372036854775807) (hb : 240 ≤ s[0].toNat) (hb' : s[0].toNat < 245) (t1 : tailB s 1 = true) (t2 : tailB s 2 = false) : Calls Tryz.prog 70 #[.string s] w (PointRes s w) := by
  have Z0 : Hid (byteAt s 0 = s[0].toNat) := hide (byteAt_eq h0)
  go_enter Tryz.func70, Tryz.ntmps70
  go_wp2_with (first | (go_at_call 104; refine (tail_any _ _ _ (by omega) (by omega) hs).mono ?_; rintro e w' ⟨rfl, rfl⟩) | (go_at_call 105; refine (is_any _ _).mono ?_; rintro e w' ⟨rfl, rfl⟩))
  go_ret2
  exact .mk (pl_d1 (by rw [Z0.out]; exact hb) (.inr (.inr (.inl t2)))) rfl rfl (drewN0 w)
set_option maxRecDepth 100000 in
set_option maxHeartbeats 1000000 in
theorem point_d3 (s : ByteArray) (w : World) (h0 : 0 < s.size) (hs : s.size ≤ 9223372036854775807) (hb : 240 ≤ s[0].toNat) (hb' : s[0].toNat < 245) (t1 : tailB s 1 = true) (t2 : tailB s 2 = true) (t3 : tailB s 3 = false) : Calls Tryz.prog 70 #[.string s] w (PointRes s w) := by
  have Z0 : Hid (byteAt s 0 = s[0].toNat) := hide (byteAt_eq h0)
  go_enter Tryz.func70, Tryz.ntmps70
  go_wp2_with (first | (go_at_call 104; refine (tail_any _ _ _ (by omega) (by omega) hs).mono ?_; rintro e w' ⟨rfl, rfl⟩) | (go_at_call 105; refine (is_any _ _).mono ?_; rintro e w' ⟨rfl, rfl⟩))
  go_ret2
  exact .mk (pl_d1 (by rw [Z0.out]; exact hb) (.inr (.inr (.inr t3)))) rfl rfl (drewN0 w)
set_option maxRecDepth 100000 in
set_option maxHeartbeats 1000000 in
theorem point_e (s : ByteArray) (w : World) (h0 : 0 < s.size) (_hs : s.size ≤ 9223372036854775807) (hb : 245 ≤ s[0].toNat) (hx : s[0].toNat < 256) : Calls Tryz.prog 70 #[.string s] w (PointRes s w) := by
  have Z0 : Hid (byteAt s 0 = s[0].toNat) := hide (byteAt_eq h0)
  go_enter Tryz.func70, Tryz.ntmps70
  go_wp2_with (first | (go_at_call 104; refine (tail_any _ _ _ (by omega) (by omega) hs).mono ?_; rintro e w' ⟨rfl, rfl⟩) | (go_at_call 105; refine (is_any _ _).mono ?_; rintro e w' ⟨rfl, rfl⟩))
  go_ret2
  exact .mk (pl_d1 (by rw [Z0.out]; omega) (.inl (by rw [Z0.out]; exact hb))) rfl rfl (drewN0 w)

theorem point_any (s : ByteArray) (w : World) (h0 : 0 < s.size) (hs : s.size ≤ 9223372036854775807) : Calls Tryz.prog 70 #[.string s] w (PointRes s w) := by
  have hb : ∀ i, tailB s i = true → ∃ h : i < s.size, 128 ≤ s[i].toNat ∧ s[i].toNat < 192 := fun i t => by
    obtain ⟨h, h1, h2⟩ := tail_true t
    exact ⟨h, by rw [← byteAt_eq h]; exact h1, by rw [← byteAt_eq h]; exact h2⟩
  by_cases a : s[0].toNat < 128
  · exact point_a s w h0 hs a
  by_cases b : s[0].toNat < 194
  · exact point_b1 s w h0 hs (by omega) b
  by_cases c : s[0].toNat < 224
  · cases t : tailB s 1 with
    | false => exact point_b0 s w h0 hs (by omega) c t
    | true =>
      obtain ⟨h1, g, g'⟩ := hb 1 t
      exact point_b s w h0 hs (by omega) c h1 t g g'
  by_cases d : s[0].toNat < 240
  · cases t : tailB s 1 with
    | false => exact point_c1 s w h0 hs (by omega) d t
    | true =>
      cases t2 : tailB s 2 with
      | false => exact point_c2 s w h0 hs (by omega) d t t2
      | true =>
        obtain ⟨h1, g, g'⟩ := hb 1 t
        obtain ⟨h2, k, k'⟩ := hb 2 t2
        exact point_c s w h0 hs (by omega) d t t2 h1 h2 g g' k k'
  by_cases e : s[0].toNat < 245
  · cases t : tailB s 1 with
    | false => exact point_d1 s w h0 hs (by omega) e t
    | true =>
      cases t2 : tailB s 2 with
      | false => exact point_d2 s w h0 hs (by omega) e t t2
      | true =>
        cases t3 : tailB s 3 with
        | false => exact point_d3 s w h0 hs (by omega) e t t2 t3
        | true =>
          obtain ⟨h1, g, g'⟩ := hb 1 t
          obtain ⟨h2, k, k'⟩ := hb 2 t2
          obtain ⟨h3, m, m'⟩ := hb 3 t3
          exact point_d s w h0 hs (by omega) e t t2 t3 h1 h2 h3 g g' k k' m m'
  · exact point_e s w h0 hs (by omega) (UInt8.toNat_lt _)

/-- What the reference's list of characters is. -/
def ListRes (s : ByteArray) (w : World) (e : Ending) (w' : World) : Prop :=
  Below w.heap.size w w' ∧ match charsL s.data.toList with
    | some l => ∃ v, e = .returned (.tuple #[v, .int .i64 0]) ∧ Sl w' 3 1 v l.length (ints l) ∧ (∀ g, v.ownBlock = some g → w.heap.size ≤ g)
    | none => e = .returned (.tuple #[.slice none 0 0, .int .i64 5])

set_option maxRecDepth 100000 in
set_option maxHeartbeats 1000000 in
theorem ref_list_any (s : ByteArray) (w : World) (hs : s.size * 8 ≤ 140737488355328) : Calls Tryz.prog 47 #[.string s] w (ListRes s w) := by
  obtain ⟨i0, hi, hz0, hz1, hz2⟩ := info_parts info_int
  go_enter Tryz.func47, Tryz.ntmps47
  go_wp2
  go_loopw [0, 4] (fun t v wr => ∃ (s' : ByteArray) (done : List Nat), t = .string s' ∧ s'.size + done.length ≤ s.size ∧ charsL s.data.toList = (charsL s'.data.toList).map (done ++ ·) ∧ Sl wr 3 1 v done.length (ints done) ∧ Below w.heap.size w wr ∧ ∀ g, v.ownBlock = some g → w.heap.size ≤ g)
    (fun t _ _ => match t with | .string x => x.size | _ => 0)
  case atStart => exact ⟨s, [], rfl, by simp, by cases charsL s.data.toList <;> simp, Sl.nil w 3 1, Below.refl _ _, fun g h => by simp [Value.ownBlock] at h⟩
  case round =>
    obtain ⟨s', done, rfl, hsz, hchars, hsl, hb, hown⟩ := hrel
    have HC := hide hchars
    clear hchars
    have hs' : s'.size ≤ 9223372036854775807 := by have := hs; omega
    by_cases h0 : 0 < s'.size
    · have z0 : (0 : Int) < (s'.size : Int) := by omega
      have hne : s'.data.toList ≠ [] := by
        intro e
        have h2 : s'.size = s'.data.toList.length := rfl
        rw [e] at h2
        simp only [List.length_nil] at h2
        omega
      have hw4 := pointL_width s'.data.toList hne
      rw [show s'.data.toList.length = s'.size from rfl] at hw4
      go_wp2_with (first
        | (go_at_call 70; refine (point_any s' _ h0 hs').mono ?_; rintro e w1 ⟨rfl, q, rfl⟩)
        | (at_builtin; refine wpList_append_sl rfl (.tmp 17) (.tmp 19) 32 rfl 3 i0 (.int .i64 0) 1 8 Tryz.underlying32 hi hz0 hz1 hz2 rfl _ done.length (ints done) rfl ((hsl.drewN _).alloc _) _ rfl 1 [_] (rd_one _ _ _) ?one ?b1 ?b2 ?_))
      case one => intro u hu; simp at hu; subst hu; rfl
      case b1 => unfold maxLen; omega
      case b2 => omega
      · have hz : ((pointL s'.data.toList).2 : Int) = 0 := by
          have h : (((pointL s'.data.toList).2 : Int) == 0) = true := by assumption
          simpa using h
        go_ret2
        refine ⟨below_drewN hb q, ?_⟩
        rw [HC.out, charsL_step _ hne, if_pos (by omega)]
        rfl
      · intro v' w' hsl' honly hv'
        go_wp2
        have hz : ¬ (pointL s'.data.toList).2 = 0 := by
          have h : (((pointL s'.data.toList).2 : Int) == 0) = false := by assumption
          intro e
          rw [e] at h
          simp at h
        have hB : Below w.heap.size w w' := hb.trans ((((Only.refl (fun b => u4.ownBlock = some b) wr).drewN q).alloc _).trans honly |>.below hb.size fun i hi => hown i hi)
        refine ⟨⟨_, done ++ [(pointL s'.data.toList).1], rfl, ?_, ?_, ?_, hB, ?_⟩, ?_⟩
        · simp only [ByteArray.size_extract, List.length_append, List.length_cons, List.length_nil]
          omega
        · rw [HC.out, charsL_step _ hne, if_neg hz, Option.map_map, Lib.ext_list]
          congr 1
          funext x
          simp
        · rw [ints_snoc]
          simpa using hsl'
        · intro g hg
          rcases hv' with h | h
          · exact hown g (h ▸ hg)
          · rw [h] at hg
            injection hg with hg
            have := hb.size
            omega
        · simp only [ByteArray.size_extract]
          omega
    · have z0 : ¬ ((0 : Int) < (s'.size : Int)) := by omega
      have he : s'.data.toList = [] := List.eq_nil_of_length_eq_zero (by have h2 : s'.size = s'.data.toList.length := rfl; omega)
      go_wp2
      go_ret2
      refine ⟨hb, ?_⟩
      rw [HC.out, he, charsL_nil]
      exact ⟨u4, rfl, by simpa using hsl, hown⟩

set_option maxHeartbeats 1000000 in
theorem refvalid_any (s : ByteArray) (w : World) (hs : s.size * 8 ≤ 140737488355328) : Calls Tryz.prog 15 #[.string s] w fun e w' => e = .returned (.bool (validS s)) ∧ Below w.heap.size w w' := by
  cases hc : charsL s.data.toList with
  | none =>
    have HV := hide (show validS s = false by simp [validS, hc])
    have HC := hide hc
    clear hc
    go_enter Tryz.func15, Tryz.ntmps15
    go_wp2_with (go_at_call 47; refine (ref_list_any s _ hs).mono ?_; rintro e w' ⟨hb, hr⟩; rw [HC.out] at hr; obtain rfl := hr)
    go_ret
    exact ⟨by rw [HV.out]; rfl, hb⟩
  | some c =>
    have HV := hide (show validS s = true by simp [validS, hc])
    have HC := hide hc
    clear hc
    go_enter Tryz.func15, Tryz.ntmps15
    go_wp2_with (go_at_call 47; refine (ref_list_any s _ hs).mono ?_; rintro e w' ⟨hb, hr⟩; rw [HC.out] at hr; obtain ⟨v, rfl, _, _⟩ := hr)
    go_ret
    exact ⟨by rw [HV.out]; rfl, hb⟩
end Go.Proofs.YtnbhejbpofjamaaGreatDoor
