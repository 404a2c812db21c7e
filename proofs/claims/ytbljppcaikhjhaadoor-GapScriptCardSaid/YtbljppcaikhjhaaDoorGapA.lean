/- The walks of a text's methods that only read. No condition but those written. -/
import Derived.Test.YtbljppcaikhjhaaDoorGap
namespace Go.Proofs.YtbljppcaikhjhaaDoor
open Go.RowKit

/-- A plain int behind draws. -/
def DrawsTo (w : World) (v : Value) (e : Ending) (w' : World) : Prop := e = .returned v ∧ ∃ q, w' = w.drewN q
theorem drewN_add (w : World) (a b : Nat) : (w.drewN a).drewN b = w.drewN (a + b) := by
  simp [World.drewN, Nat.add_assoc]
section
variable {W w w' : World} {b : Gb} {L : List Nat} {R : Heap}
theorem TextAt.below (h : TextAt W w b L R) (hb : Below w.heap.size w w') : TextAt W w' b L R := ⟨h.gap.below hb, h.ok⟩
theorem TextAt.drew (h : TextAt W w b L R) : TextAt W w.drew b L R := ⟨h.gap.drew, h.ok⟩
theorem TextAt.drewN (h : TextAt W w b L R) (q : Nat) : TextAt W (w.drewN q) b L R := ⟨h.gap.drewN q, h.ok⟩
theorem TextAt.skip (h : TextAt W w b L R) (o : Obj) : TextAt W (w.alloc o) b L R := ⟨h.gap.skip o, h.ok⟩
theorem TextAt.drewS (h : TextAt W w b L R) (hq : ∃ q, w' = w.drewN q) : TextAt W w' b L R := by
  obtain ⟨q, rfl⟩ := hq
  exact h.drewN q
theorem TextAt.sub {R' : Heap} (h : TextAt W w b L R) (hs : R'.Sublist R) : TextAt W w b L R' := ⟨h.gap.sub hs, h.ok⟩
theorem TextAt.perm {R' : Heap} (h : TextAt W w b L R) (hs : R.Perm R') : TextAt W w b L R' := ⟨h.gap.perm hs, h.ok⟩
theorem TextAt.int32 (h : TextAt W w b L R) {i c : Nat} (hc : L[i]? = some c) : c ≤ 1114111 := (h.ok.okc c (List.mem_of_getElem? hc)).1
set_option maxRecDepth 100000 in
set_option maxHeartbeats 4000000 in
theorem rune_any (h : TextAt W w b L R) {i c : Nat} (hc : L[i]? = some c) : Calls Tryd.prog 45 #[.pointer (some ⟨b.tb, 0, none⟩), .int .i64 (i : Int)] w (DrawsTo w (.int .i32 (c : Int))) := by
  have c0 := h.gap.c0
  have c1 := h.gap.c1
  have c2 := h.gap.c2
  have h1 := h.gap.le1
  have h2 := h.gap.le2
  have h3 := h.gap.lim
  have hat := Gt.at_ h1 h2 i
  rw [h.ok.chars, hc] at hat
  obtain ⟨n, hn⟩ : ∃ n, n = b.g.B.length := ⟨_, rfl⟩
  obtain ⟨s, hs⟩ : ∃ s, s = b.g.st := ⟨_, rfl⟩
  obtain ⟨e, he⟩ : ∃ e, e = b.g.en := ⟨_, rfl⟩
  unfold Gb.bv at c0
  rw [← hn] at c0 h2 h3
  rw [← hs] at c1 hat h1
  rw [← he] at c2 hat h1 h2
  by_cases hlt : i < s
  · have z1 : decide ((s : Int) ≤ (i : Int)) = false := by simp; omega
    have z2 : decide (s ≤ i) = false := by simpa using hlt
    rw [if_pos hlt] at hat
    have r1 := h.gap.rune hat.symm
    have hi1 : (i : Int) < (n : Int) := by omega
    have hi0 : (0 : Int) ≤ (i : Int) := by omega
    clear h hat hn hs he c2
    go_enter Tryd.func45, Tryd.ntmps45
    go_wp2
    go_ret
    exact ⟨rfl, 0, rfl⟩
  · have z1 : decide ((s : Int) ≤ (i : Int)) = true := by simp; omega
    have z2 : decide (s ≤ i) = true := by simp; omega
    rw [if_neg hlt] at hat
    have r1 := h.gap.rune hat.symm
    have hk := (List.getElem?_eq_some_iff.1 hat.symm).1
    obtain ⟨k, hkk⟩ : ∃ k, k = i + (e - s) := ⟨_, rfl⟩
    rw [← hkk, ← hn] at hk
    rw [← hkk] at r1
    have hw1 : IntKind.i64.wrap ((e : Int) - (s : Int)) = (e : Int) - (s : Int) := IntWalk.i64_in _ (by omega)
    have hw2 : IntKind.i64.wrap ((i : Int) + ((e : Int) - (s : Int))) = (k : Int) := by
      rw [show (i : Int) + ((e : Int) - (s : Int)) = (k : Int) by omega]
      exact IntWalk.i64_in _ (by omega)
    have hi1 : (k : Int) < (n : Int) := by omega
    have hi0 : (0 : Int) ≤ (k : Int) := by omega
    clear h hat hn hs he hkk hlt
    go_enter Tryd.func45, Tryd.ntmps45
    go_wp2
    go_quiet (fail)
    go_wp2
    go_ret
    exact ⟨rfl, _, rfl⟩
def charR (L : List Nat) (at' : Int) : Int := if 1 ≤ at' ∧ at' ≤ (L.length : Int) then ((L.getD (at' - 1).toNat 0 : Nat) : Int) else 0
set_option maxRecDepth 100000 in
set_option maxHeartbeats 4000000 in
theorem char_any (h : TextAt W w b L R) (at' : Int) : Calls Tryd.prog 26 #[.pointer (some ⟨b.tb, 0, none⟩), .int .i64 at'] w (DrawsTo w (.tuple #[.int .i64 (charR L at'), .bool (decide (1 ≤ at' ∧ at' ≤ (L.length : Int)))])) := by
  have HS := hide (size_any h)
  have hsz := h.ok.size
  by_cases h1 : at' < 1
  · have z1 : decide (at' < 1) = true := by simpa using h1
    have HE := hide (show charR L at' = 0 ∧ decide (1 ≤ at' ∧ at' ≤ (L.length : Int)) = false from ⟨by unfold charR; rw [if_neg (by omega)], by simp; omega⟩)
    clear h h1
    go_enter Tryd.func26, Tryd.ntmps26
    go_wp2
    go_ret2
    exact ⟨by rw [HE.out.1, HE.out.2]; rfl, 0, rfl⟩
  · have z1 : decide (at' < 1) = false := by simpa using h1
    by_cases h2 : (L.length : Int) < at'
    · have z2 : decide ((L.length : Int) < at') = true := by simpa using h2
      have HE := hide (show charR L at' = 0 ∧ decide (1 ≤ at' ∧ at' ≤ (L.length : Int)) = false from ⟨by unfold charR; rw [if_neg (by omega)], by simp; omega⟩)
      clear h h1 h2
      go_enter Tryd.func26, Tryd.ntmps26
      go_wp2_with fail
      refine (Calls.mono (HS.out)) ?_
      rintro r w2 ⟨rfl, q, rfl⟩
      go_wp2
      go_ret2
      exact ⟨by rw [HE.out.1, HE.out.2]; rfl, q, rfl⟩
    · have z2 : decide ((L.length : Int) < at') = false := by simpa using h2
      obtain ⟨i, rfl⟩ : ∃ i : Nat, at' = (i : Int) + 1 := ⟨(at' - 1).toNat, by omega⟩
      obtain ⟨c, hc⟩ : ∃ c, L[i]? = some c := ⟨_, List.getElem?_eq_getElem (by omega)⟩
      have HE := hide (show charR L ((i : Int) + 1) = (c : Int) ∧ decide (1 ≤ (i : Int) + 1 ∧ (i : Int) + 1 ≤ (L.length : Int)) = true from ⟨by unfold charR; rw [if_pos (by omega), show ((i : Int) + 1 - 1).toNat = i by omega, List.getD, hc]; rfl, by simp; omega⟩)
      have HR := hide (fun q => rune_any (h.drewN q) hc)
      have hc1 := h.int32 hc
      have hil : i < 65536 := by omega
      clear h h1 h2 hc
      go_enter Tryd.func26, Tryd.ntmps26
      go_wp2_with fail
      refine (Calls.mono (HS.out)) ?_
      rintro r w2 ⟨rfl, q, rfl⟩
      go_wp2_with fail
      refine (Calls.mono (HR.out q)) ?_
      rintro r w3 ⟨rfl, q2, rfl⟩
      go_wp2
      go_ret2
      exact ⟨by rw [HE.out.1, HE.out.2]; rfl, q + q2, rfl⟩
/-- Do two positions enclose a part of the text? -/
def spanB (L : List Nat) (a c : Int) : Bool := decide (1 ≤ a ∧ a ≤ c ∧ c ≤ (L.length : Int) + 1)
set_option maxRecDepth 100000 in
set_option maxHeartbeats 4000000 in
theorem span_any (h : TextAt W w b L R) (a c : Int) : Calls Tryd.prog 38 #[.pointer (some ⟨b.tb, 0, none⟩), .int .i64 a, .int .i64 c] w (DrawsTo w (.bool (spanB L a c))) := by
  have HS := hide (size_any h)
  have hsz := h.ok.size
  clear h
  by_cases h1 : 1 ≤ a
  · have z1 : decide (1 ≤ a) = true := by simpa using h1
    by_cases h2 : a ≤ c
    · have z2 : decide (a ≤ c) = true := by simpa using h2
      have HE := hide (show spanB L a c = decide (c ≤ (L.length : Int) + 1) by unfold spanB; rw [Bool.eq_iff_iff]; simp; omega)
      clear h1 h2
      go_enter Tryd.func38, Tryd.ntmps38
      go_wp2_with fail
      refine (Calls.mono (HS.out)) ?_
      rintro r w2 ⟨rfl, q, rfl⟩
      go_wp2
      go_ret
      exact ⟨by rw [HE.out]; rfl, q, rfl⟩
    · have z2 : decide (a ≤ c) = false := by simpa using h2
      have HE := hide (show spanB L a c = false by unfold spanB; simp; omega)
      clear h1 h2
      go_enter Tryd.func38, Tryd.ntmps38
      go_wp2
      go_ret
      exact ⟨by rw [HE.out]; rfl, 0, rfl⟩
  · have z1 : decide (1 ≤ a) = false := by simpa using h1
    have HE := hide (show spanB L a c = false by unfold spanB; simp; omega)
    clear h1
    go_enter Tryd.func38, Tryd.ntmps38
    go_wp2
    go_ret
    exact ⟨by rw [HE.out]; rfl, 0, rfl⟩
/-- The number of lines. -/
def linesN (L : List Nat) : Nat := (feeds 1 L).length + 1
theorem linesN_le (h : L.length ≤ 65536) : linesN L ≤ 65537 := by have := feeds_le 1 L; unfold linesN; omega
set_option maxRecDepth 100000 in
set_option maxHeartbeats 4000000 in
theorem lines_any (h : TextAt W w b L R) : Calls Tryd.prog 27 #[.pointer (some ⟨b.tb, 0, none⟩)] w fun e w' => e = .returned (.int .i64 (linesN L : Int)) ∧ w = w' := by
  have HN := hide (none_any h.gap)
  obtain ⟨A, c, hv, _⟩ := h.gap.slF.form
  have c3 := h.gap.c3
  rw [hv, h.ok.feed] at c3
  have HF := hide (show ((linesN L : Nat) : Int) = ((feeds 1 L).length : Int) + 1 by unfold linesN; omega)
  have hl : (feeds 1 L).length ≤ 65536 := by have := feeds_le 1 L; have := h.ok.size; omega
  clear h hv
  go_enter Tryd.func27, Tryd.ntmps27
  go_wp2_with fail
  refine (Calls.mono (HN.out)) ?_
  rintro r w2 ⟨rfl, rfl⟩
  go_wp2
  go_ret
  exact ⟨by rw [HF.out]; rfl, rfl⟩
/-- The line of a position. -/
def lineOf (L : List Nat) (k : Nat) : Nat := (feeds 1 L).countP (· < k) + 1
set_option maxRecDepth 100000 in
set_option maxHeartbeats 4000000 in
theorem lineat_any (h : TextAt W w b L R) (at' : Int) : Calls Tryd.prog 29 #[.pointer (some ⟨b.tb, 0, none⟩), .int .i64 at'] w (DrawsTo w (if 1 ≤ at' ∧ at' ≤ (L.length : Int) + 1 then .tuple #[.int .i64 (lineOf L at'.toNat : Int), .bool true] else .tuple #[.int .i64 0, .bool false])) := by
  have HN := hide (none_any h.gap)
  have HS := hide (size_any h)
  have hsz := h.ok.size
  by_cases h1 : at' < 1
  · have z1 : decide (at' < 1) = true := by simpa using h1
    rw [if_neg (by omega)]
    clear h h1
    go_enter Tryd.func29, Tryd.ntmps29
    go_wp2_with fail
    refine (Calls.mono (HN.out)) ?_
    rintro r w2 ⟨rfl, rfl⟩
    go_wp2
    go_ret2
    exact ⟨rfl, 0, rfl⟩
  · have z1 : decide (at' < 1) = false := by simpa using h1
    by_cases h2 : (L.length : Int) + 1 < at'
    · have z2 : decide ((L.length : Int) + 1 < at') = true := by simpa using h2
      rw [if_neg (by omega)]
      clear h h1 h2
      go_enter Tryd.func29, Tryd.ntmps29
      go_wp2_with fail
      refine (Calls.mono (HN.out)) ?_
      rintro r w2 ⟨rfl, rfl⟩
      go_wp2_with fail
      refine (Calls.mono (HS.out)) ?_
      rintro r w2 ⟨rfl, q, rfl⟩
      go_wp2
      go_ret2
      exact ⟨rfl, q, rfl⟩
    · have z2 : decide ((L.length : Int) + 1 < at') = false := by simpa using h2
      rw [if_pos (by omega)]
      obtain ⟨k, rfl⟩ : ∃ k : Nat, at' = (k : Int) := ⟨at'.toNat, by omega⟩
      rw [Int.toNat_natCast]
      have HB := hide (fun q => bs_any b.g.F k b.fv (w.drewN q) (h.drewN q).gap.slF (by rw [h.ok.feed]; exact feeds_sorted 1 L) (by rw [h.ok.feed]; have := feeds_le 1 L; omega))
      have HF := hide (show ((lineOf L k : Nat) : Int) = ((b.g.F.countP (· < k) : Nat) : Int) + 1 by unfold lineOf; rw [h.ok.feed]; omega)
      have hl : b.g.F.countP (· < k) ≤ 65536 := by have := List.countP_le_length (p := (· < k)) (l := b.g.F); rw [h.ok.feed] at this ⊢; have := feeds_le 1 L; omega
      obtain ⟨m, hm⟩ : ∃ m, m = b.g.F.countP (· < k) := ⟨_, rfl⟩
      rw [← hm] at HF HB hl
      have c3 := h.gap.c3
      clear h h1 h2 hm
      go_enter Tryd.func29, Tryd.ntmps29
      go_wp2_with fail
      refine (Calls.mono (HN.out)) ?_
      rintro r w2 ⟨rfl, rfl⟩
      go_wp2_with fail
      refine (Calls.mono (HS.out)) ?_
      rintro r w2 ⟨rfl, q, rfl⟩
      go_wp2_with fail
      refine (Calls.mono (HB.out q)) ?_
      rintro r w2 ⟨x, rfl, q2, rfl⟩
      go_wp2
      go_ret2
      exact ⟨by rw [HF.out]; rfl, q + q2, rfl⟩
end
end Go.Proofs.YtbljppcaikhjhaaDoor
