/- A set of buffers of the law's own: each method on it. No condition but those written. -/
import Derived.Test.YtnbhejbpofjamaaGreatDoorBmu
namespace Go.Proofs.YtnbhejbpofjamaaGreatDoor
open Go.RowKit

/-- A set at sb, of at most 500 buffers. -/
structure LS (W w : World) (sb : Nat) (s : Bst) : Prop where
  at_ : ∃ R, SAt W w sb s R
  ok : s.Ok
  nx : s.next ≤ 500
section
variable {W w w' : World} {sb : Nat} {s : Bst}
theorem LS.len (h : LS W w sb s) : s.order.length ≤ 500 := by
  have h1 := nodup_len (List.range s.next) s.order h.ok.onod fun k hk => List.mem_range.2 (h.ok.lt k hk)
  have := h.nx
  rw [List.length_range] at h1
  omega
theorem LS.below (h : LS W w sb s) (hb : Below w.heap.size w w') : LS W w' sb s := ⟨by obtain ⟨R, h1⟩ := h.at_; exact ⟨R, h1.below hb⟩, h.ok, h.nx⟩
theorem LS.bel (h : LS W w sb s) : Below W.heap.size W w := by
  obtain ⟨R, h1⟩ := h.at_
  exact h1.bel
theorem LS.many (h : LS W w sb s) : Calls Tryz.prog 20 #[.pointer (some ⟨sb, 0, none⟩)] w fun e w' => e = .returned (.int .i64 (s.all.length : Int)) ∧ w = w' := by
  obtain ⟨R, b, rfl, h1⟩ := h.at_
  exact many_any h1
theorem LS.current (h : LS W w sb s) : Calls Tryz.prog 21 #[.pointer (some ⟨sb, 0, none⟩)] w fun e w' => e = .returned (.int .i64 (s.cur : Int)) ∧ w = w' := by
  obtain ⟨R, b, rfl, h1⟩ := h.at_
  exact current_any h1
theorem LS.other (h : LS W w sb s) : Calls Tryz.prog 26 #[.pointer (some ⟨sb, 0, none⟩)] w fun e w' => e = .returned (.int .i64 (othS s : Int)) ∧ LS W w' sb s := by
  have hl := h.len
  obtain ⟨R, b, rfl, h1⟩ := h.at_
  refine (other_any h1 (by omega)).mono ?_
  rintro e w' ⟨rfl, hb⟩
  exact ⟨rfl, h.below hb⟩
theorem LS.list (h : LS W w sb s) : Calls Tryz.prog 12 #[.pointer (some ⟨sb, 0, none⟩)] w fun e w' => ∃ A c, e = .returned (.slice A s.order.length c) ∧ Rd w' (.slice A s.order.length c) 1 s.order.length (ints s.order) ∧ LS W w' sb s := by
  have hl := h.len
  obtain ⟨R, b, rfl, h1⟩ := h.at_
  refine (list_any h1 (by omega)).mono ?_
  rintro e w' ⟨A, c, rfl, hr, hb⟩
  exact ⟨A, c, rfl, hr, h.below hb⟩
theorem LS.unique (h : LS W w sb s) (hT : Tabs W) (hP : Pow W) (n : ByteArray) (hs : n.size < 1000000) : Calls Tryz.prog 17 #[.pointer (some ⟨sb, 0, none⟩), .string n] w fun e w' => LS W w' sb s ∧ (chkE n ≠ 0 → e = .returned (.tuple #[.string ⟨#[]⟩, .int .i64 (chkE n)])) ∧
    (chkE n = 0 → ∃ k, (∀ j, j < k → hasN s.all (nmB n j) = true) ∧ hasN s.all (nmB n k) = false ∧ e = .returned (.tuple #[.string (nmB n k), .int .i64 0])) := by
  have hl := h.len
  rw [h.ok.len] at hl
  obtain ⟨R, b, rfl, h1⟩ := h.at_
  refine (unique_any h1 (hT.below h.bel) (hP.below h.bel) hl n hs).mono ?_
  rintro e w' ⟨hb, h2, h3⟩
  exact ⟨h.below hb, h2, h3⟩
theorem LS.create (h : LS W w sb s) (hT : Tabs W) (hn : s.next < 500) (n : ByteArray) (hs : n.size < 1000000) : Calls Tryz.prog 36 #[.pointer (some ⟨sb, 0, none⟩), .string n] w fun e w' =>
    e = .returned (.tuple #[.int .i64 (if creE s n = 0 then (s.next : Int) else 0), .int .i64 (creE s n)]) ∧ ∃ g bp, LS W w' sb (if creE s n = 0 then addS s n g bp else s) := by
  have hl := h.len
  obtain ⟨R, b, rfl, h1⟩ := h.at_
  refine (create_any h1 hT h.ok (by omega) (by omega) n (by omega)).mono ?_
  rintro e w' ⟨rfl, h3, h4⟩
  refine ⟨rfl, ?_⟩
  by_cases he : creE s n = 0
  · obtain ⟨g, z, h5, _⟩ := h4 he
    refine ⟨g, z.bp, ?_⟩
    rw [if_pos he]
    exact ⟨⟨_, h5⟩, h.ok.addS n g z.bp, hn⟩
  · refine ⟨0, 0, ?_⟩
    rw [if_neg he]
    exact ⟨⟨_, h3 he⟩, h.ok, h.nx⟩
theorem LS.kill (h : LS W w sb s) (k : Int) : Calls Tryz.prog 35 #[.pointer (some ⟨sb, 0, none⟩), .int .i64 k] w fun e w' => e = .returned (.int .i64 (kilE s k)) ∧ LS W w' sb (if kilE s k = 0 then kilS s k.toNat else s) := by
  have hl := h.len
  obtain ⟨R, b, rfl, h1⟩ := h.at_
  refine (kill_any h1 h.ok k (by omega)).mono ?_
  rintro e w' ⟨rfl, s', h2, h3, h4⟩
  refine ⟨rfl, ?_⟩
  by_cases he : kilE s k = 0
  · rw [if_pos he]
    obtain rfl := h4 he
    exact ⟨⟨_, h2⟩, h.ok.kilS _, h.nx⟩
  · rw [if_neg he]
    obtain rfl := h3 he
    exact ⟨⟨_, h2⟩, h.ok, h.nx⟩
theorem LS.switch (h : LS W w sb s) (k : Int) : Calls Tryz.prog 39 #[.pointer (some ⟨sb, 0, none⟩), .int .i64 k] w fun e w' => e = .returned (.int .i64 (knownE s.all k)) ∧ LS W w' sb (if knownE s.all k = 0 then swiS s k.toNat else s) := by
  have hl := h.len
  obtain ⟨R, b, rfl, h1⟩ := h.at_
  refine (switch_any h1 h.ok k (by omega)).mono ?_
  rintro e w' ⟨rfl, s', h2, h3, h4⟩
  refine ⟨rfl, ?_⟩
  by_cases he : knownE s.all k = 0
  · rw [if_pos he]
    obtain rfl := h4 he
    obtain ⟨j, rfl, hj, _⟩ := known_nat h.ok he
    exact ⟨⟨_, h2⟩, by rw [Int.toNat_natCast]; exact h.ok.swiS hj, h.nx⟩
  · rw [if_neg he]
    obtain rfl := h3 he
    exact ⟨⟨_, h2⟩, h.ok, h.nx⟩
end
theorem empty_ok (p q r : Int) : (⟨[], [], 0, 0, p, q, r⟩ : Bst).Ok := ⟨by simp, fun k => by simp, by simp, fun k hk => by simp at hk⟩
theorem ls_new (W : World) (hT : Tabs W) : Calls Tryz.prog 10 #[.int .i64 1, .int .i64 2, .int .i64 3] W fun e w' => ∃ sb g bp, e = .returned (.pointer (some ⟨sb, 0, none⟩)) ∧ LS W w' sb (start 1 2 3 g bp) := by
  refine (set_new W W [] (Own.refl W) hT 1 2 3).mono ?_
  rintro e w' ⟨sb, rfl, g, z, h, _⟩
  exact ⟨sb, g, z.bp, rfl, ⟨_, h⟩, (empty_ok 1 2 3).addS _ g z.bp, by show 0 + 1 ≤ 500; omega⟩
/-- A list of numbers that the law builds. -/
theorem rd_new (w : World) (cs : Array Value) (n : Nat) (hn : n = cs.size) (hm : n ≤ 1000) : Rd (w.alloc (.cells cs 3)) (.slice (some ⟨w.heap.size, 0, none⟩) n n) 1 n cs.toList := by
  subst hn
  have h := Sl.new w 3 1 cs cs.size cs.size (Nat.le_refl _) (by unfold maxLen; omega) (by simp)
  rw [Nat.mul_one, List.take_of_length_le (by simp)] at h
  exact h.rd
end Go.Proofs.YtnbhejbpofjamaaGreatDoor
namespace Go.Proofs.YtnbhejbpofjamaaGreatDoor
open Go.RowKit

/-- The states of the example. -/
def lv0 (g bp : Nat) : Bst := start 1 2 3 g bp
def lv1 (g bp g1 b1 : Nat) : Bst := addS (lv0 g bp) ⟨#[97]⟩ g1 b1
def lv2 (g bp g1 b1 g2 b2 : Nat) : Bst := addS (lv1 g bp g1 b1) ⟨#[98]⟩ g2 b2
def lv3 (g bp g1 b1 g2 b2 : Nat) : Bst := swiS (lv2 g bp g1 b1 g2 b2) 2
def lv4 (g bp g1 b1 g2 b2 : Nat) : Bst := kilS (lv3 g bp g1 b1 g2 b2) 2
def lv5 (g bp g1 b1 g2 b2 : Nat) : Bst := kilS (lv4 g bp g1 b1 g2 b2) 0
theorem nmB_a2 : nmB ⟨#[97]⟩ 1 = ⟨#[97, 60, 50, 62]⟩ := by
  unfold nmB nmL
  rw [if_neg (by omega), Lib.decDigits_one (by omega)]
  rfl
theorem uniq_a {l : List Nb} {k : Nat} (h0 : hasN l (nmB ⟨#[97]⟩ 0) = true) (h1 : hasN l (nmB ⟨#[97]⟩ 1) = false) (hk : ∀ j, j < k → hasN l (nmB ⟨#[97]⟩ j) = true) (hn : hasN l (nmB ⟨#[97]⟩ k) = false) : k = 1 := by
  rcases Nat.lt_trichotomy k 1 with h | h | h
  · obtain rfl : k = 0 := by omega
    rw [h0] at hn
    cases hn
  · exact h
  · have := hk 1 h
    rw [h1] at this
    cases this
set_option maxRecDepth 100000 in
set_option maxHeartbeats 8000000 in
theorem lives_any (W : World) (hT : Tabs W) (hP : Pow W) : Calls Tryz.prog 8 #[] W fun e w' => e = .returned (.bool true) ∧ Below W.heap.size W w' := by
  have HNEW := hide (ls_new W hT)
  have HT := hide hT
  have HP := hide hP
  clear hT hP
  go_enter Tryz.func8, Tryz.ntmps8
  go_wp2_with fail
  refine (Calls.mono HNEW.out) ?_
  rintro e w0 ⟨sb, g, bp, rfl, h0⟩
  have H0 := hide (h0.create HT.out (by show 0 + 1 < 500; omega) ⟨#[97]⟩ (by show 1 < _; omega))
  rw [show creE (start 1 2 3 g bp) ⟨#[97]⟩ = 0 by kernel_rfl] at H0
  clear h0 HNEW
  go_wp2_with fail
  refine (Calls.mono H0.out) ?_
  rintro e w1 ⟨rfl, g1, b1, h1⟩
  have h1' : LS W w1 sb (lv1 g bp g1 b1) := h1
  have H1 := hide (h1'.create HT.out (by show 0 + 1 + 1 < 500; omega) ⟨#[98]⟩ (by show 1 < _; omega))
  rw [show creE (lv1 g bp g1 b1) ⟨#[98]⟩ = 0 by kernel_rfl, show (lv1 g bp g1 b1).next = 2 from rfl] at H1
  rw [show (start 1 2 3 g bp).next = 1 from rfl]
  simp only [if_true]
  clear h1 h1' H0
  go_wp2_with fail
  refine (Calls.mono H1.out) ?_
  rintro e w2 ⟨rfl, g2, b2, h2⟩
  have h2' : LS W w2 sb (lv2 g bp g1 b1 g2 b2) := h2
  have H2 := hide (show Calls Tryz.prog 12 #[.pointer (some ⟨sb, 0, none⟩)] w2 fun e w' => ∃ A c, e = .returned (.slice A 3 c) ∧ Rd w' (.slice A 3 c) 1 3 (ints [0, 1, 2]) ∧ LS W w' sb (lv2 g bp g1 b1 g2 b2) from h2'.list)
  simp only [if_true]
  clear h2 h2' H1
  go_wp2_with fail
  refine (Calls.mono H2.out) ?_
  rintro e w3 ⟨A3, c3, rfl, r3, h3⟩
  have HS3 := hide (same_ints (w3.alloc (.cells #[.int .i64 0, .int .i64 1, .int .i64 2] 3)) [0, 1, 2] 3 3 A3 (some ⟨w3.heap.size, 0, none⟩) c3 3 rfl rfl (r3.belowN (below_box w3 _)) (rd_new w3 #[.int .i64 0, .int .i64 1, .int .i64 2] 3 rfl (by omega)) (by simp))
  have H3 := hide (h3.below (below_box w3 (.cells #[.int .i64 0, .int .i64 1, .int .i64 2] 3)))
  clear r3 h3 H2
  go_wp2_with fail
  refine (Calls.mono HS3.out) ?_
  rintro e w4 ⟨rfl, b4⟩
  have H4 := hide (H3.out.below b4)
  have HO := hide (show Calls Tryz.prog 26 #[.pointer (some ⟨sb, 0, none⟩)] w4 fun e w' => e = .returned (.int .i64 1) ∧ LS W w' sb (lv2 g bp g1 b1 g2 b2) from H4.out.other)
  clear b4 HS3 H3
  go_wp2_with fail
  refine (Calls.mono HO.out) ?_
  rintro e w5 ⟨rfl, h5⟩
  have HSW := hide (show Calls Tryz.prog 39 #[.pointer (some ⟨sb, 0, none⟩), .int .i64 2] w5 fun e w' => e = .returned (.int .i64 0) ∧ LS W w' sb (lv3 g bp g1 b1 g2 b2) from h5.switch 2)
  clear h5 HO H4
  go_wp2_with fail
  refine (Calls.mono HSW.out) ?_
  rintro e w6 ⟨rfl, h6⟩
  have HU := hide (h6.unique HT.out HP.out ⟨#[97]⟩ (by show 1 < _; omega))
  have HNX := hide (nmB_zero ⟨#[97]⟩)
  clear h6 HSW
  go_wp2_with fail
  refine (Calls.mono HU.out) ?_
  rintro e w7 ⟨h7, _, hu⟩
  obtain ⟨k, hk1, hk2, rfl⟩ := hu (by kernel_rfl)
  obtain rfl := uniq_a (by rw [nmB_zero]; kernel_rfl) (by rw [nmB_a2]; kernel_rfl) hk1 hk2
  rw [nmB_a2]
  have H7 := hide (show Calls Tryz.prog 12 #[.pointer (some ⟨sb, 0, none⟩)] w7 fun e w' => ∃ A c, e = .returned (.slice A 3 c) ∧ Rd w' (.slice A 3 c) 1 3 (ints [2, 0, 1]) ∧ LS W w' sb (lv3 g bp g1 b1 g2 b2) from h7.list)
  clear h7 hu hk1 hk2 HU
  go_wp2_with fail
  refine (Calls.mono H7.out) ?_
  rintro e w8 ⟨A8, c8, rfl, r8, h8⟩
  have HS8 := hide (same_ints (w8.alloc (.cells #[.int .i64 2, .int .i64 0, .int .i64 1] 3)) [2, 0, 1] 3 3 A8 (some ⟨w8.heap.size, 0, none⟩) c8 3 rfl rfl (r8.belowN (below_box w8 _)) (rd_new w8 #[.int .i64 2, .int .i64 0, .int .i64 1] 3 rfl (by omega)) (by simp))
  have H8 := hide (h8.below (below_box w8 (.cells #[.int .i64 2, .int .i64 0, .int .i64 1] 3)))
  clear r8 h8 H7
  go_wp2_with fail
  refine (Calls.mono HS8.out) ?_
  rintro e w9 ⟨rfl, b9⟩
  have HK := hide (show Calls Tryz.prog 35 #[.pointer (some ⟨sb, 0, none⟩), .int .i64 2] w9 fun e w' => e = .returned (.int .i64 0) ∧ LS W w' sb (lv4 g bp g1 b1 g2 b2) from (H8.out.below b9).kill 2)
  clear b9 HS8 H8
  go_wp2_with fail
  refine (Calls.mono HK.out) ?_
  rintro e w10 ⟨rfl, h10⟩
  have HC := hide (show Calls Tryz.prog 21 #[.pointer (some ⟨sb, 0, none⟩)] w10 fun e w' => e = .returned (.int .i64 0) ∧ w10 = w' from h10.current)
  have HK2 := hide (show Calls Tryz.prog 35 #[.pointer (some ⟨sb, 0, none⟩), .int .i64 0] w10 fun e w' => e = .returned (.int .i64 0) ∧ LS W w' sb (lv5 g bp g1 b1 g2 b2) from h10.kill 0)
  clear h10 HK
  go_wp2_with fail
  refine (Calls.mono HC.out) ?_
  rintro e w11 ⟨rfl, rfl⟩
  go_wp2_with fail
  refine (Calls.mono HK2.out) ?_
  rintro e w11 ⟨rfl, h11⟩
  have HK3 := hide (show Calls Tryz.prog 35 #[.pointer (some ⟨sb, 0, none⟩), .int .i64 1] w11 fun e w' => e = .returned (.int .i64 9) ∧ LS W w' sb (lv5 g bp g1 b1 g2 b2) from h11.kill 1)
  clear h11 HK2 HC
  go_wp2_with fail
  refine (Calls.mono HK3.out) ?_
  rintro e w12 ⟨rfl, h12⟩
  have HC4 := hide (show Calls Tryz.prog 21 #[.pointer (some ⟨sb, 0, none⟩)] w12 fun e w' => e = .returned (.int .i64 1) ∧ w12 = w' from h12.current)
  have HB := hide h12.bel
  clear h12 HK3
  go_wp2_with fail
  refine (Calls.mono HC4.out) ?_
  rintro e w13 ⟨rfl, rfl⟩
  go_wp2_with fail
  go_ret
  exact ⟨rfl, HB.out⟩
end Go.Proofs.YtnbhejbpofjamaaGreatDoor
