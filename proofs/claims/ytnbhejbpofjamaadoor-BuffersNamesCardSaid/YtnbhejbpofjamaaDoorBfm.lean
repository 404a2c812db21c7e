/- A set of buffers of the law's own: each method on it. No condition but those written. -/
import Derived.Test.YtnbhejbpofjamaaDoorBfl
namespace Go.Proofs.YtnbhejbpofjamaaDoor
open Go.RowKit

/-- A set at sb, of at most 500 buffers. -/
structure LS (W w : World) (sb : Nat) (s : Bst) : Prop where
  at_ : SAt W w sb s []
  ok : s.Ok
  nx : s.next ≤ 500
section
variable {W w w' : World} {sb : Nat} {s : Bst}
theorem LS.len (h : LS W w sb s) : s.order.length ≤ 500 := by
  have h1 := nodup_len (List.range s.next) s.order h.ok.onod fun k hk => List.mem_range.2 (h.ok.lt k hk)
  have := h.nx
  rw [List.length_range] at h1
  omega
theorem LS.below (h : LS W w sb s) (hb : Below w.heap.size w w') : LS W w' sb s := ⟨h.at_.below hb, h.ok, h.nx⟩
theorem LS.bel (h : LS W w sb s) : Below W.heap.size W w := h.at_.bel
theorem LS.many (h : LS W w sb s) : Calls Tryd.prog 7 #[.pointer (some ⟨sb, 0, none⟩)] w fun e w' => e = .returned (.int .i64 (s.all.length : Int)) ∧ w = w' := by
  obtain ⟨b, rfl, h1⟩ := h.at_
  exact many_any h1
theorem LS.current (h : LS W w sb s) : Calls Tryd.prog 20 #[.pointer (some ⟨sb, 0, none⟩)] w fun e w' => e = .returned (.int .i64 (s.cur : Int)) ∧ w = w' := by
  obtain ⟨b, rfl, h1⟩ := h.at_
  exact current_any h1
theorem LS.other (h : LS W w sb s) : Calls Tryd.prog 21 #[.pointer (some ⟨sb, 0, none⟩)] w fun e w' => e = .returned (.int .i64 (othS s : Int)) ∧ LS W w' sb s := by
  have hl := h.len
  obtain ⟨b, rfl, h1⟩ := h.at_
  refine (other_any h1 (by omega)).mono ?_
  rintro e w' ⟨rfl, hb⟩
  exact ⟨rfl, h.below hb⟩
theorem LS.list (h : LS W w sb s) : Calls Tryd.prog 18 #[.pointer (some ⟨sb, 0, none⟩)] w fun e w' => ∃ A c, e = .returned (.slice A s.order.length c) ∧ Rd w' (.slice A s.order.length c) 1 s.order.length (ints s.order) ∧ LS W w' sb s := by
  have hl := h.len
  obtain ⟨b, rfl, h1⟩ := h.at_
  refine (list_any h1 (by omega)).mono ?_
  rintro e w' ⟨A, c, rfl, hr, hb⟩
  exact ⟨A, c, rfl, hr, h.below hb⟩
theorem LS.unique (h : LS W w sb s) (hT : Tabs W) (hP : Pow W) (n : ByteArray) (hs : n.size < 1000000) : Calls Tryd.prog 8 #[.pointer (some ⟨sb, 0, none⟩), .string n] w fun e w' => LS W w' sb s ∧ (chkE n ≠ 0 → e = .returned (.tuple #[.string ⟨#[]⟩, .int .i64 (chkE n)])) ∧
    (chkE n = 0 → ∃ k, (∀ j, j < k → hasN s.all (nmB n j) = true) ∧ hasN s.all (nmB n k) = false ∧ e = .returned (.tuple #[.string (nmB n k), .int .i64 0])) := by
  have hl := h.len
  rw [h.ok.len] at hl
  obtain ⟨b, rfl, h1⟩ := h.at_
  refine (unique_any h1 (hT.below h.bel) (hP.below h.bel) hl n hs).mono ?_
  rintro e w' ⟨hb, h2, h3⟩
  exact ⟨h.below hb, h2, h3⟩
theorem LS.create (h : LS W w sb s) (hT : Tabs W) (hn : s.next < 500) (n : ByteArray) (hs : n.size < 1000000) : Calls Tryd.prog 9 #[.pointer (some ⟨sb, 0, none⟩), .string n] w fun e w' =>
    e = .returned (.tuple #[.int .i64 (if creE s n = 0 then (s.next : Int) else 0), .int .i64 (creE s n)]) ∧ ∃ g bp, LS W w' sb (if creE s n = 0 then addS s n g bp else s) := by
  have hl := h.len
  obtain ⟨b, rfl, h1⟩ := h.at_
  refine (create_any h1 (hT.below h.bel) h.ok (by omega) (by omega) n (by omega)).mono ?_
  rintro e w' ⟨rfl, s', h2, h3, h4⟩
  refine ⟨rfl, ?_⟩
  by_cases he : creE s n = 0
  · obtain ⟨g, bp, rfl⟩ := h4 he
    refine ⟨g, bp, ?_⟩
    rw [if_pos he]
    exact ⟨h2, h.ok.addS n g bp, hn⟩
  · refine ⟨0, 0, ?_⟩
    rw [if_neg he, ← h3 he]
    exact ⟨h2, by rw [h3 he]; exact h.ok, by rw [h3 he]; exact h.nx⟩
theorem LS.kill (h : LS W w sb s) (k : Int) : Calls Tryd.prog 10 #[.pointer (some ⟨sb, 0, none⟩), .int .i64 k] w fun e w' => e = .returned (.int .i64 (kilE s k)) ∧ LS W w' sb (if kilE s k = 0 then kilS s k.toNat else s) := by
  have hl := h.len
  obtain ⟨b, rfl, h1⟩ := h.at_
  refine (kill_any h1 h.ok k (by omega)).mono ?_
  rintro e w' ⟨rfl, s', h2, h3, h4⟩
  refine ⟨rfl, ?_⟩
  by_cases he : kilE s k = 0
  · rw [if_pos he]
    obtain rfl := h4 he
    exact ⟨h2, h.ok.kilS _, h.nx⟩
  · rw [if_neg he]
    obtain rfl := h3 he
    exact ⟨h2, h.ok, h.nx⟩
theorem LS.switch (h : LS W w sb s) (k : Int) : Calls Tryd.prog 22 #[.pointer (some ⟨sb, 0, none⟩), .int .i64 k] w fun e w' => e = .returned (.int .i64 (knownE s.all k)) ∧ LS W w' sb (if knownE s.all k = 0 then swiS s k.toNat else s) := by
  have hl := h.len
  obtain ⟨b, rfl, h1⟩ := h.at_
  refine (switch_any h1 h.ok k (by omega)).mono ?_
  rintro e w' ⟨rfl, s', h2, h3, h4⟩
  refine ⟨rfl, ?_⟩
  by_cases he : knownE s.all k = 0
  · rw [if_pos he]
    obtain rfl := h4 he
    obtain ⟨j, rfl, hj, _⟩ := known_nat h.ok he
    exact ⟨h2, by rw [Int.toNat_natCast]; exact h.ok.swiS hj, h.nx⟩
  · rw [if_neg he]
    obtain rfl := h3 he
    exact ⟨h2, h.ok, h.nx⟩
end
theorem empty_ok (p q r : Int) : (⟨[], [], 0, 0, p, q, r⟩ : Bst).Ok := ⟨by simp, fun k => by simp, by simp, fun k hk => by simp at hk⟩
theorem ls_new (W : World) (hT : Tabs W) : Calls Tryd.prog 6 #[.int .i64 1, .int .i64 2, .int .i64 3] W fun e w' => ∃ sb g bp, e = .returned (.pointer (some ⟨sb, 0, none⟩)) ∧ LS W w' sb (start 1 2 3 g bp) := by
  refine (set_new W W [] (Own.refl W) hT 1 2 3).mono ?_
  rintro e w' ⟨sb, rfl, g, bp, h⟩
  exact ⟨sb, g, bp, rfl, h, (empty_ok 1 2 3).addS _ g bp, by show 0 + 1 ≤ 500; omega⟩
/-- A list of numbers that the law builds. -/
theorem rd_new (w : World) (cs : Array Value) (n : Nat) (hn : n = cs.size) (hm : n ≤ 1000) : Rd (w.alloc (.cells cs 3)) (.slice (some ⟨w.heap.size, 0, none⟩) n n) 1 n cs.toList := by
  subst hn
  have h := Sl.new w 3 1 cs cs.size cs.size (Nat.le_refl _) (by unfold maxLen; omega) (by simp)
  rw [Nat.mul_one, List.take_of_length_le (by simp)] at h
  exact h.rd
end Go.Proofs.YtnbhejbpofjamaaDoor
