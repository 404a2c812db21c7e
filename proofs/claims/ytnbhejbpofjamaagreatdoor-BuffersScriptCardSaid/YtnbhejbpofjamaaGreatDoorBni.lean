/- The texts of a gap and of a buffer as strings: Slice and All. No condition but those written. -/
import Derived.Test.YtnbhejbpofjamaaGreatDoorBng
import Derived.Laws.Concat
namespace Go.Proofs.YtnbhejbpofjamaaGreatDoor
open Go.RowKit

section
variable {W w w' : World} {b : Gb} {L : List Nat} {R : Heap}
set_option maxRecDepth 100000 in
set_option maxHeartbeats 4000000 in
theorem span_any (h : TextAt W w b L R) (a c : Int) : Calls Tryz.prog 124 #[.pointer (some ⟨b.tb, 0, none⟩), .int .i64 a, .int .i64 c] w (DrawsTo w (.bool (spanB L a c))) := by
  have HS := hide (size_any h)
  have hsz := h.ok.size
  clear h
  by_cases h1 : 1 ≤ a
  · have z1 : decide (1 ≤ a) = true := by simpa using h1
    by_cases h2 : a ≤ c
    · have z2 : decide (a ≤ c) = true := by simpa using h2
      have HE := hide (show spanB L a c = decide (c ≤ (L.length : Int) + 1) by unfold spanB; rw [Bool.eq_iff_iff]; simp; omega)
      clear h1 h2
      go_enter Tryz.func124, Tryz.ntmps124
      go_wp2_with fail
      refine (Calls.mono (HS.out)) ?_
      rintro r w2 ⟨rfl, q, rfl⟩
      go_wp2
      go_ret
      exact ⟨by rw [HE.out]; rfl, q, rfl⟩
    · have z2 : decide (a ≤ c) = false := by simpa using h2
      have HE := hide (show spanB L a c = false by unfold spanB; simp; omega)
      clear h1 h2
      go_enter Tryz.func124, Tryz.ntmps124
      go_wp2
      go_ret
      exact ⟨by rw [HE.out]; rfl, 0, rfl⟩
  · have z1 : decide (1 ≤ a) = false := by simpa using h1
    have HE := hide (show spanB L a c = false by unfold spanB; simp; omega)
    clear h1
    go_enter Tryz.func124, Tryz.ntmps124
    go_wp2
    go_ret
    exact ⟨by rw [HE.out]; rfl, 0, rfl⟩
/-- A part of the row of characters, written as a string. -/
theorem GapAt.conv (h : GapAt W w b R) (X : List Nat) (a : Nat) (A : Addr) (n c : Nat) (hn : n = X.length) (hx : (b.g.B.drop a).take n = X) (hA : 0 < n → A = ⟨b.bb, b.bo + a, none⟩) (hok : ∀ c ∈ X, okc c) :
    (convert 162 9 (.slice (some A) n c)).run Tryz.prog w = .ok (.string (strOf X)) w := by
  have hr := run_convert_runes (P := Tryz.prog) w 162 9 21 A n c (X.map fun c : Nat => (c : Int)) (by simp [hn]) Tryz.underlying162 Tryz.underlying21 Tryz.underlying9 (fun j hj => by
    rw [List.length_map] at hj
    rw [hA (by omega), Addr.add_lit, Nat.add_assoc]
    have hc : b.g.B[a + j]? = some X[j] := by
      have e : ((b.g.B.drop a).take n)[j]? = X[j]? := by rw [hx]
      rw [List.getElem?_take, if_pos (by omega), List.getElem?_drop, List.getElem?_eq_getElem hj] at e
      exact e
    rw [h.rune hc]
    simp [List.getD, hj])
  rw [hr, List.take_of_length_le (by simp [hn]), runesBytes_str hok]
theorem okc_sub {L : List Nat} (h : ∀ c ∈ L, okc c) (a n : Nat) : ∀ c ∈ (L.drop a).take n, okc c := fun c hc => h c (List.mem_of_mem_drop (List.mem_of_mem_take hc))
/-- What Slice returns. -/
def sliceR (L : List Nat) (a c : Int) : Value := if spanB L a c then .tuple #[.string (strOf ((L.drop (a - 1).toNat).take (c - a).toNat)), .int .i64 0] else .tuple #[.string ⟨#[]⟩, .int .i64 3]
set_option maxRecDepth 100000 in
set_option maxHeartbeats 4000000 in
theorem slice_bad (h : TextAt W w b L R) (a c : Int) (hs : spanB L a c = false) : Calls Tryz.prog 80 #[.pointer (some ⟨b.tb, 0, none⟩), .int .i64 a, .int .i64 c] w (DrawsTo w (sliceR L a c)) := by
  have HN := hide (none_any h.gap)
  have HS := hide (span_any h a c)
  have HE := hide (show sliceR L a c = .tuple #[.string ⟨#[]⟩, .int .i64 3] by unfold sliceR; rw [hs]; rfl)
  rw [hs] at HS
  clear h hs
  go_enter Tryz.func80, Tryz.ntmps80
  go_wp2_with fail
  refine (Calls.mono (HN.out)) ?_
  rintro r w2 ⟨rfl, rfl⟩
  go_wp2_with fail
  refine (Calls.mono (HS.out)) ?_
  rintro r w2 ⟨rfl, q, rfl⟩
  go_wp2
  go_ret2
  exact ⟨by rw [HE.out]; rfl, q, rfl⟩
set_option maxRecDepth 100000 in
set_option maxHeartbeats 4000000 in
theorem slice_lo (h : TextAt W w b L R) (x y : Int) (a k : Nat) (hx : x - 1 = (a : Int)) (hy : y - 1 = (k : Int)) (hak : a ≤ k) (hkl : k ≤ L.length) (hm : k ≤ b.g.st) : Calls Tryz.prog 80 #[.pointer (some ⟨b.tb, 0, none⟩), .int .i64 x, .int .i64 y] w (DrawsTo w (.tuple #[.string (strOf ((L.drop a).take (k - a))), .int .i64 0])) := by
  have HN := hide (none_any h.gap)
  have HS := hide (span_any h x y)
  rw [show spanB L x y = true by unfold spanB; simp; omega] at HS
  have hsz := h.ok.size
  have c0 := h.gap.c0
  have c1 := h.gap.c1
  have h1 := h.gap.le1
  have h2 := h.gap.le2
  have h3 := h.gap.lim
  have hlen := b.g.len h1 h2
  rw [h.ok.chars] at hlen
  obtain ⟨hcp1, hcp2⟩ := h.gap.cap
  have hpart := Gt.part_lo h1 h2 hak hm
  rw [h.ok.chars] at hpart
  obtain ⟨X, hX⟩ : ∃ X, X = (L.drop a).take (k - a) := ⟨_, rfl⟩
  have hok : ∀ c ∈ X, okc c := by rw [hX]; exact okc_sub h.ok.okc a _
  have hXl : k - a = X.length := by rw [hX, List.length_take, List.length_drop]; omega
  rw [← hX] at hpart ⊢
  have HCV := hide (fun q (A : Addr) cc hA => (h.drewN q).gap.conv X a A (k - a) cc hXl hpart hA hok)
  obtain ⟨n, hn⟩ : ∃ n, n = b.g.B.length := ⟨_, rfl⟩
  obtain ⟨s, hs'⟩ : ∃ s, s = b.g.st := ⟨_, rfl⟩
  obtain ⟨e, he'⟩ : ∃ e, e = b.g.en := ⟨_, rfl⟩
  obtain ⟨bc, hbc⟩ : ∃ bc, bc = b.bc := ⟨_, rfl⟩
  unfold Gb.bv at c0
  rw [← hn, ← hbc] at c0
  rw [← hn] at h2 h3 hcp1 hlen
  rw [← hbc] at hcp1 hcp2
  rw [← hs'] at c1 hm h1 hlen
  rw [← he'] at h1 h2 hlen
  unfold maxLen at hcp2
  have hi0 : (0 : Int) ≤ (a : Int) := by omega
  have hi1 : (a : Int) ≤ (k : Int) := by omega
  have hx1 : IntKind.i64.wrap (x - 1) = (a : Int) := by rw [hx]; exact IntWalk.i64_in _ (by omega)
  have hy1 : IntKind.i64.wrap (y - 1) = (k : Int) := by rw [hy]; exact IntWalk.i64_in _ (by omega)
  have z1 : decide ((k : Int) ≤ (s : Int)) = true := by simp; omega
  have z1' : decide (k ≤ s) = true := by simpa using hm
  have hi2 : (k : Int) ≤ (bc : Int) := by omega
  clear h hpart hX hok hXl hn hs' he' hbc
  by_cases hcap : a = bc
  · obtain rfl : k = a := by omega
    subst hcap
    rw [Nat.sub_self] at HCV
    go_enter Tryz.func80, Tryz.ntmps80
    go_wp2_with fail
    refine (Calls.mono (HN.out)) ?_
    rintro r w2 ⟨rfl, rfl⟩
    go_wp2_with fail
    refine (Calls.mono (HS.out)) ?_
    rintro r w2 ⟨rfl, q, rfl⟩
    have hcv := fun m cc => HCV.out m ⟨b.bb, b.bo, none⟩ cc (fun h => absurd h (by omega))
    go_wp2
    go_ret2
    exact ⟨rfl, q, rfl⟩
  · go_enter Tryz.func80, Tryz.ntmps80
    go_wp2_with fail
    refine (Calls.mono (HN.out)) ?_
    rintro r w2 ⟨rfl, rfl⟩
    go_wp2_with fail
    refine (Calls.mono (HS.out)) ?_
    rintro r w2 ⟨rfl, q, rfl⟩
    have hcv := fun m cc => HCV.out m ⟨b.bb, b.bo + a, none⟩ cc (fun _ => rfl)
    go_wp2
    go_ret2
    exact ⟨rfl, q, rfl⟩
set_option maxRecDepth 100000 in
set_option maxHeartbeats 4000000 in
theorem slice_hi (h : TextAt W w b L R) (x y : Int) (a k : Nat) (hx : x - 1 = (a : Int)) (hy : y - 1 = (k : Int)) (hak : a ≤ k) (hkl : k ≤ L.length) (hm : b.g.st ≤ a) (hm2 : b.g.st < k) : Calls Tryz.prog 80 #[.pointer (some ⟨b.tb, 0, none⟩), .int .i64 x, .int .i64 y] w (DrawsTo w (.tuple #[.string (strOf ((L.drop a).take (k - a))), .int .i64 0])) := by
  have HN := hide (none_any h.gap)
  have HS := hide (span_any h x y)
  rw [show spanB L x y = true by unfold spanB; simp; omega] at HS
  have hsz := h.ok.size
  have c0 := h.gap.c0
  have c1 := h.gap.c1
  have c2 := h.gap.c2
  have h1 := h.gap.le1
  have h2 := h.gap.le2
  have h3 := h.gap.lim
  have hlen := b.g.len h1 h2
  rw [h.ok.chars] at hlen
  obtain ⟨hcp1, hcp2⟩ := h.gap.cap
  have hpart := Gt.part_hi h1 h2 (a := a) (b := k) hm
  rw [h.ok.chars] at hpart
  obtain ⟨X, hX⟩ : ∃ X, X = (L.drop a).take (k - a) := ⟨_, rfl⟩
  have hok : ∀ c ∈ X, okc c := by rw [hX]; exact okc_sub h.ok.okc a _
  have hXl : k - a = X.length := by rw [hX, List.length_take, List.length_drop]; omega
  rw [← hX] at hpart ⊢
  have HCV := hide (fun q (A : Addr) cc hA => (h.drewN q).gap.conv X _ A (k - a) cc hXl hpart hA hok)
  obtain ⟨n, hn⟩ : ∃ n, n = b.g.B.length := ⟨_, rfl⟩
  obtain ⟨s, hs'⟩ : ∃ s, s = b.g.st := ⟨_, rfl⟩
  obtain ⟨e, he'⟩ : ∃ e, e = b.g.en := ⟨_, rfl⟩
  obtain ⟨bc, hbc⟩ : ∃ bc, bc = b.bc := ⟨_, rfl⟩
  unfold Gb.bv at c0
  rw [← hn, ← hbc] at c0
  rw [← hn] at h2 h3 hcp1 hlen
  rw [← hbc] at hcp1 hcp2
  rw [← hs'] at c1 hm h1 hlen
  rw [← he'] at h1 h2 hlen
  rw [← hs'] at hm2
  rw [← he'] at c2
  rw [← hs', ← he'] at HCV
  unfold maxLen at hcp2
  have hi0 : (0 : Int) ≤ (a : Int) := by omega
  have hi1 : (a : Int) ≤ (k : Int) := by omega
  have hx1 : IntKind.i64.wrap (x - 1) = (a : Int) := by rw [hx]; exact IntWalk.i64_in _ (by omega)
  have hy1 : IntKind.i64.wrap (y - 1) = (k : Int) := by rw [hy]; exact IntWalk.i64_in _ (by omega)
  have z1 : decide ((k : Int) ≤ (s : Int)) = false := by simp; omega
  have z1' : decide (k ≤ s) = false := by simp; omega
  have z2 : decide ((s : Int) ≤ (a : Int)) = true := by simp; omega
  have z2' : decide (s ≤ a) = true := by simpa using hm
  obtain ⟨a1, ha1⟩ : ∃ a1, a1 = a + (e - s) := ⟨_, rfl⟩
  obtain ⟨k1, hk1⟩ : ∃ k1, k1 = k + (e - s) := ⟨_, rfl⟩
  rw [← ha1] at HCV
  have hw1 : IntKind.i64.wrap ((a : Int) + (e : Int)) = (a : Int) + (e : Int) := IntWalk.i64_in _ (by omega)
  have hw2 : IntKind.i64.wrap ((a : Int) + (e : Int) - (s : Int)) = (a1 : Int) := by rw [show (a : Int) + (e : Int) - (s : Int) = (a1 : Int) by omega]; exact IntWalk.i64_in _ (by omega)
  have hw3 : IntKind.i64.wrap ((k : Int) + (e : Int)) = (k : Int) + (e : Int) := IntWalk.i64_in _ (by omega)
  have hw4 : IntKind.i64.wrap ((k : Int) + (e : Int) - (s : Int)) = (k1 : Int) := by rw [show (k : Int) + (e : Int) - (s : Int) = (k1 : Int) by omega]; exact IntWalk.i64_in _ (by omega)
  have hj0 : (0 : Int) ≤ (a1 : Int) := by omega
  have hj1 : (a1 : Int) ≤ (k1 : Int) := by omega
  have hj2 : (k1 : Int) ≤ (bc : Int) := by omega
  rw [show k - a = k1 - a1 by omega] at HCV
  have hka : k1 = a1 → k1 - a1 = 0 := by omega
  have hcc : a1 = bc → k1 = a1 := by omega
  have hb1 : a ≤ 65536 := by omega
  have hb2 : k ≤ 65536 := by omega
  have hb3 : s ≤ 131104 := by omega
  have hb4 : e ≤ 131104 := by omega
  clear h hpart hX hok hXl hn hs' he' hbc ha1 hk1 hlen hcp1 h1 h2 h3 hm hm2 hkl hak
  by_cases hcap : a1 = bc
  · obtain rfl := hcc hcap
    subst hcap
    rw [Nat.sub_self] at HCV
    go_enter Tryz.func80, Tryz.ntmps80
    go_wp2_with fail
    refine (Calls.mono (HN.out)) ?_
    rintro r w2 ⟨rfl, rfl⟩
    go_wp2_with fail
    refine (Calls.mono (HS.out)) ?_
    rintro r w2 ⟨rfl, q, rfl⟩
    have hcv := fun m cc => HCV.out m ⟨b.bb, b.bo, none⟩ cc (fun h => absurd h (by omega))
    clear hka hcc
    go_wp2
    go_quiet (fail)
    go_wp2
    go_ret2
    exact ⟨rfl, q + nq, drewN_add _ _ _⟩
  · have hka' := hide hka
    clear hka hcc
    go_enter Tryz.func80, Tryz.ntmps80
    go_wp2_with fail
    refine (Calls.mono (HN.out)) ?_
    rintro r w2 ⟨rfl, rfl⟩
    go_wp2_with fail
    refine (Calls.mono (HS.out)) ?_
    rintro r w2 ⟨rfl, q, rfl⟩
    have hcv := fun m cc => HCV.out m ⟨b.bb, b.bo + a1, none⟩ cc (fun _ => rfl)
    go_wp2
    go_quiet (fail)
    go_wp2
    go_ret2
    exact ⟨rfl, q + nq, drewN_add _ _ _⟩
set_option maxRecDepth 100000 in
set_option maxHeartbeats 4000000 in
theorem slice_mid (h : TextAt W w b L R) (x y : Int) (a k : Nat) (hx : x - 1 = (a : Int)) (hy : y - 1 = (k : Int)) (hak : a ≤ k) (hkl : k ≤ L.length) (hm : a < b.g.st) (hm2 : b.g.st < k) : Calls Tryz.prog 80 #[.pointer (some ⟨b.tb, 0, none⟩), .int .i64 x, .int .i64 y] w (DrawsTo w (.tuple #[.string (strOf ((L.drop a).take (k - a))), .int .i64 0])) := by
  have HN := hide (none_any h.gap)
  have HS := hide (span_any h x y)
  rw [show spanB L x y = true by unfold spanB; simp; omega] at HS
  have hsz := h.ok.size
  have c0 := h.gap.c0
  have c1 := h.gap.c1
  have c2 := h.gap.c2
  have h1 := h.gap.le1
  have h2 := h.gap.le2
  have h3 := h.gap.lim
  have hlen := b.g.len h1 h2
  rw [h.ok.chars] at hlen
  obtain ⟨hcp1, hcp2⟩ := h.gap.cap
  have hpart := Gt.part_mid h1 h2 (a := a) (b := k) (by omega) (by omega)
  rw [h.ok.chars] at hpart
  have hp1 := Gt.part_lo h1 h2 (a := a) (b := b.g.st) (by omega) (Nat.le_refl _)
  have hp2 := Gt.part_hi h1 h2 (a := b.g.st) (b := k) (Nat.le_refl _)
  rw [h.ok.chars] at hp1 hp2
  rw [show b.g.st + (b.g.en - b.g.st) = b.g.en by omega] at hp2
  rw [← hpart, hp1, hp2, strOf_append]
  obtain ⟨X, hX⟩ : ∃ X, X = (L.drop a).take (b.g.st - a) := ⟨_, rfl⟩
  obtain ⟨Y, hY⟩ : ∃ Y, Y = (L.drop b.g.st).take (k - b.g.st) := ⟨_, rfl⟩
  have hok : ∀ c ∈ X, okc c := by rw [hX]; exact okc_sub h.ok.okc a _
  have hok2 : ∀ c ∈ Y, okc c := by rw [hY]; exact okc_sub h.ok.okc _ _
  have hXl : b.g.st - a = X.length := by rw [hX, List.length_take, List.length_drop]; omega
  have hYl : k - b.g.st = Y.length := by rw [hY, List.length_take, List.length_drop]; omega
  rw [← hX] at hp1 ⊢
  rw [← hY] at hp2 ⊢
  have HCV := hide (fun q (A : Addr) cc hA => (h.drewN q).gap.conv X a A (b.g.st - a) cc hXl hp1 hA hok)
  have HCW := hide (fun q (A : Addr) cc hA => (h.drewN q).gap.conv Y _ A (k - b.g.st) cc hYl hp2 hA hok2)
  obtain ⟨n, hn⟩ : ∃ n, n = b.g.B.length := ⟨_, rfl⟩
  obtain ⟨s, hs'⟩ : ∃ s, s = b.g.st := ⟨_, rfl⟩
  obtain ⟨e, he'⟩ : ∃ e, e = b.g.en := ⟨_, rfl⟩
  obtain ⟨bc, hbc⟩ : ∃ bc, bc = b.bc := ⟨_, rfl⟩
  unfold Gb.bv at c0
  rw [← hn, ← hbc] at c0
  rw [← hn] at h2 h3 hcp1 hlen
  rw [← hbc] at hcp1 hcp2
  rw [← hs'] at c1 hm h1 hlen
  rw [← he'] at h1 h2 hlen
  rw [← hs'] at hm2
  rw [← he'] at c2
  rw [← hs'] at HCV HCW
  rw [← he'] at HCW
  unfold maxLen at hcp2
  have hi0 : (0 : Int) ≤ (a : Int) := by omega
  have hi1 : (a : Int) ≤ (k : Int) := by omega
  have hx1 : IntKind.i64.wrap (x - 1) = (a : Int) := by rw [hx]; exact IntWalk.i64_in _ (by omega)
  have hy1 : IntKind.i64.wrap (y - 1) = (k : Int) := by rw [hy]; exact IntWalk.i64_in _ (by omega)
  have z1 : decide ((k : Int) ≤ (s : Int)) = false := by simp; omega
  have z1' : decide (k ≤ s) = false := by simp; omega
  have z2 : decide ((s : Int) ≤ (a : Int)) = false := by simp; omega
  have z2' : decide (s ≤ a) = false := by simp; omega
  obtain ⟨k1, hk1⟩ : ∃ k1, k1 = k + (e - s) := ⟨_, rfl⟩
  have hw3 : IntKind.i64.wrap ((k : Int) + (e : Int)) = (k : Int) + (e : Int) := IntWalk.i64_in _ (by omega)
  have hw4 : IntKind.i64.wrap ((k : Int) + (e : Int) - (s : Int)) = (k1 : Int) := by rw [show (k : Int) + (e : Int) - (s : Int) = (k1 : Int) by omega]; exact IntWalk.i64_in _ (by omega)
  have hj0 : (0 : Int) ≤ (e : Int) := by omega
  have hj1 : (e : Int) ≤ (k1 : Int) := by omega
  have hj2 : (k1 : Int) ≤ (bc : Int) := by omega
  have hj3 : (a : Int) ≤ (s : Int) := by omega
  have hj4 : (s : Int) ≤ (bc : Int) := by omega
  have hcap : ¬ a = bc := by omega
  have hcap2 : ¬ e = bc := by omega
  have hcap3 : ¬ bc = a := by omega
  have hss : ¬ (9223372036854775807 < (strOf X).size + (strOf Y).size) := by have h1 := strOf_size X; have h2 := strOf_size Y; omega
  have hcap4 : ¬ bc = e := by omega
  rw [show k - s = k1 - e by omega] at HCW
  have hb1 : a ≤ 65536 := by omega
  have hb2 : k ≤ 65536 := by omega
  have hb3 : s ≤ 131104 := by omega
  have hb4 : e ≤ 131104 := by omega
  clear h hpart hX hY hok hok2 hXl hYl hp1 hp2 hn hs' he' hbc hk1 hlen hcp1 h1 h2 h3 hm hm2 hkl hak
  go_enter Tryz.func80, Tryz.ntmps80
  go_wp2_with fail
  refine (Calls.mono (HN.out)) ?_
  rintro r w2 ⟨rfl, rfl⟩
  go_wp2_with fail
  refine (Calls.mono (HS.out)) ?_
  rintro r w2 ⟨rfl, q, rfl⟩
  have hcv := fun m cc => HCV.out m ⟨b.bb, b.bo + a, none⟩ cc (fun _ => rfl)
  have hcw := fun m cc => HCW.out m ⟨b.bb, b.bo + e, none⟩ cc (fun _ => rfl)
  go_wp2
  go_quiet (fail)
  go_wp2
  go_ret2
  exact ⟨rfl, q + nq, drewN_add _ _ _⟩
theorem slice_any (h : TextAt W w b L R) (x y : Int) : Calls Tryz.prog 80 #[.pointer (some ⟨b.tb, 0, none⟩), .int .i64 x, .int .i64 y] w (DrawsTo w (sliceR L x y)) := by
  cases hs : spanB L x y with
  | false => exact slice_bad h x y hs
  | true =>
    have hb : 1 ≤ x ∧ x ≤ y ∧ y ≤ (L.length : Int) + 1 := by simpa [spanB] using hs
    obtain ⟨a, ha⟩ : ∃ a : Nat, x - 1 = (a : Int) := ⟨(x - 1).toNat, by omega⟩
    obtain ⟨k, hk⟩ : ∃ k : Nat, y - 1 = (k : Int) := ⟨(y - 1).toNat, by omega⟩
    have he : sliceR L x y = .tuple #[.string (strOf ((L.drop a).take (k - a))), .int .i64 0] := by
      unfold sliceR
      rw [hs, if_pos rfl, show (x - 1).toNat = a by omega, show (y - x).toNat = k - a by omega]
    rw [he]
    by_cases h1 : k ≤ b.g.st
    · exact slice_lo h x y a k ha hk (by omega) (by omega) h1
    · by_cases h2 : b.g.st ≤ a
      · exact slice_hi h x y a k ha hk (by omega) (by omega) h2 (by omega)
      · exact slice_mid h x y a k ha hk (by omega) (by omega) (by omega) (by omega)
set_option maxRecDepth 100000 in
set_option maxHeartbeats 4000000 in
theorem gall_any (h : TextAt W w b L R) : Calls Tryz.prog 63 #[.pointer (some ⟨b.tb, 0, none⟩)] w (DrawsTo w (.string (strOf L))) := by
  have HS := hide (size_any h)
  have HL := hide (fun q => slice_any (h.drewN q) 1 ((L.length : Int) + 1))
  have hr : sliceR L 1 ((L.length : Int) + 1) = .tuple #[.string (strOf L), .int .i64 0] := by
    unfold sliceR
    rw [show spanB L 1 ((L.length : Int) + 1) = true by unfold spanB; simp; omega, if_pos rfl, show ((1 : Int) - 1).toNat = 0 by rfl, List.drop_zero, List.take_of_length_le (by omega)]
  rw [hr] at HL
  have hsz := h.ok.size
  clear h hr
  go_enter Tryz.func63, Tryz.ntmps63
  go_wp2_with fail
  refine (Calls.mono (HS.out)) ?_
  rintro r w2 ⟨rfl, q, rfl⟩
  go_wp2_with fail
  refine (Calls.mono (HL.out q)) ?_
  rintro r w3 ⟨rfl, q2, rfl⟩
  go_wp2
  go_ret
  exact ⟨rfl, q + q2, rfl⟩
end
section
variable {W w w' : World} {z : Zb} {s : Bz} {R X : Heap}
set_option maxRecDepth 100000 in
set_option maxHeartbeats 4000000 in
theorem ball_any (k : ZOk z s) (ho : Own W w (zHeap z s ++ X)) : Calls Tryz.prog 32 #[.pointer (some ⟨z.bp, 0, none⟩)] w (DrawsTo w (.string (strOf s.L))) := by
  have hb : Blk w z.bp 104 (zCells z s) := ho.blk (by simp [zHeap])
  have HN := hide (znone_any w hb)
  have c9 : w.cell? ⟨z.bp, 9, none⟩ = some (.pointer (some ⟨z.gb.tb, 0, none⟩)) := (hb.cell 9).trans rfl
  have HA := hide (gall_any (k.at_ ho).at_.text)
  clear k ho hb
  go_enter Tryz.func32, Tryz.ntmps32
  go_wp2_with fail
  refine (Calls.mono HN.out) ?_
  rintro r w2 ⟨rfl, rfl⟩
  go_wp2_with fail
  refine (Calls.mono HA.out) ?_
  rintro r w3 ⟨rfl, q, rfl⟩
  go_wp2_with fail
  go_ret
  exact ⟨rfl, q, rfl⟩
set_option maxRecDepth 100000 in
set_option maxHeartbeats 4000000 in
theorem bpoint_any (ho : Own W w (zHeap z s ++ X)) : Calls Tryz.prog 41 #[.pointer (some ⟨z.bp, 0, none⟩)] w (DrawsTo w (.int .i64 ((s.L.length + 1 : Nat) : Int))) := by
  have hb : Blk w z.bp 104 (zCells z s) := ho.blk (by simp [zHeap])
  have HN := hide (znone_any w hb)
  have c0 : w.cell? ⟨z.bp, 0, none⟩ = some (.int .i64 ((s.L.length + 1 : Nat) : Int)) := (hb.cell 0).trans rfl
  clear ho hb
  go_enter Tryz.func41, Tryz.ntmps41
  go_wp2_with fail
  refine (Calls.mono HN.out) ?_
  rintro r w2 ⟨rfl, rfl⟩
  go_wp2_with fail
  go_ret
  exact ⟨rfl, 0, rfl⟩
end
end Go.Proofs.YtnbhejbpofjamaaGreatDoor
namespace Go.Proofs.YtnbhejbpofjamaaGreatDoor
open Go.RowKit

/-- What holds of a set whose blocks are H beside where they lie. -/
structure SetH (sb : Nat) (s : Bst) (tx : Nat → Bz) (k : Nat) (H : Heap) : Prop where
  at_ : ∃ (b : Bb) (D : List (Zb × Bz)), b.sb = sb ∧ H = s.heap b ++ zsHeap D ∧ RowOk b.ov s.order.length ∧ (∀ y ∈ D, ZOk y.1 y.2) ∧ ∀ x ∈ s.all, ∃ z, (z, tx x.b) ∈ D ∧ z.bp = x.b
  ok : s.Ok
  bn : (s.all.map Nb.b).Nodup
  nn : (s.all.map Nb.name).Nodup
  nv : ∀ x ∈ s.all, chkE x.name = 0
  nz : ∀ x ∈ s.all, x.name.size ≤ 1000000
  nx : s.next ≤ k + 1
  tk : ∀ x ∈ s.all, (tx x.b).tick ≤ k
  cu : s.cur ∈ s.order
section
variable {W w w' : World} {sb ob : Nat} {s s2 : Bst} {tx tx2 : Nat → Bz} {k k2 : Nat} {R H H2 : Heap}
theorem BAt.of_own {b : Bb} (ho : Own W w (s.heap b ++ R)) (hr : RowOk b.ov s.order.length) : BAt W w b s R :=
  ⟨ho, ho.slOf (fun x hx => List.mem_append_left _ (List.mem_cons_of_mem _ (List.mem_cons_of_mem _ (List.mem_append_right _ hx)))) (by rw [ints_size, Nat.mul_one]) hr⟩
theorem SetH.lz (h : SetH sb s tx k H) (ho : Own W w (H ++ R)) : LZ W w sb s tx k R := by
  obtain ⟨b, D, rfl, rfl, hr, hD, hZ⟩ := h.at_
  rw [List.append_assoc] at ho
  exact ⟨⟨D, ⟨b, rfl, BAt.of_own ho hr⟩, hD, hZ⟩, h.ok, h.bn, h.nn, h.nv, h.nz, h.nx, h.tk, h.cu⟩
theorem LZ.setH (h : LZ W w sb s tx k R) : ∃ H, SetH sb s tx k H ∧ Own W w (H ++ R) := by
  obtain ⟨D, ⟨b, rfl, hb⟩, hD, hZ⟩ := h.at_
  exact ⟨s.heap b ++ zsHeap D, ⟨⟨b, D, rfl, rfl, hb.sl.rowOk, hD, hZ⟩, h.ok, h.bn, h.nn, h.nv, h.nz, h.nx, h.tk, h.cu⟩, by rw [List.append_assoc]; exact hb.own⟩
theorem LZ.flip (h : LZ W w sb s tx k (H2 ++ R)) (h2 : SetH ob s2 tx2 k2 H2) : ∃ H, SetH sb s tx k H ∧ LZ W w ob s2 tx2 k2 (H ++ R) := by
  obtain ⟨H, h1, ho⟩ := h.setH
  exact ⟨H, h1, h2.lz (ho.perm (List.perm_append_comm_assoc _ _ _))⟩
theorem SetH.bp (h : SetH sb s tx k H) {x : Nb} (hx : x ∈ s.all) : x.b ∈ Heap.blocks H := by
  obtain ⟨b, D, _, rfl, _, _, hZ⟩ := h.at_
  obtain ⟨z, hz, e⟩ := hZ x hx
  rw [← e, Heap.blocks_append]
  exact List.mem_append_right _ (zsHeap_bp hz)
/-- The buffers of two sets are not the same. -/
theorem LZ.apart (h : LZ W w sb s tx k (H2 ++ R)) (h2 : SetH ob s2 tx2 k2 H2) {x y : Nb} (hx : x ∈ s.all) (hy : y ∈ s2.all) : x.b ≠ y.b := by
  obtain ⟨H, h1, ho⟩ := h.setH
  have hn := ho.nod
  rw [← List.append_assoc, Heap.blocks_append, List.nodup_append] at hn
  have hn2 := hn.1
  rw [Heap.blocks_append, List.nodup_append] at hn2
  exact hn2.2.2 _ (h1.bp hx) _ (h2.bp hy)
theorem zs_take {D : List (Zb × Bz)} {y : Zb × Bz} (h : y ∈ D) : ∃ E, (zsHeap D).Perm (zHeap y.1 y.2 ++ E) := by
  obtain ⟨A, B, rfl⟩ := List.append_of_mem h
  refine ⟨zsHeap A ++ zsHeap B, ?_⟩
  rw [zsHeap_app, zsHeap_cons]
  exact List.perm_append_comm_assoc _ _ _
/-- A buffer of the set is read. -/
theorem LZ.buf (h : LZ W w sb s tx k R) {x : Nb} (hx : x ∈ s.all) : ∃ z E, z.bp = x.b ∧ ZOk z (tx x.b) ∧ Own W w (zHeap z (tx x.b) ++ E) := by
  obtain ⟨D, ⟨b, rfl, hb⟩, hD, hZ⟩ := h.at_
  obtain ⟨z, hz, e⟩ := hZ x hx
  obtain ⟨E, hE⟩ := zs_take hz
  refine ⟨z, s.heap b ++ (E ++ R), e, hD _ hz, hb.own.perm ?_⟩
  refine (List.Perm.append_left _ (hE.append_right R)).trans ?_
  rw [List.append_assoc]
  exact List.perm_append_comm_assoc _ _ _
theorem LZ.text (h : LZ W w sb s tx k R) {x : Nb} (hx : x ∈ s.all) : Calls Tryz.prog 32 #[.pointer (some ⟨x.b, 0, none⟩)] w (DrawsTo w (.string (strOf (tx x.b).L))) := by
  obtain ⟨z, E, e, hk, ho⟩ := h.buf hx
  rw [← e]
  rw [← e] at hk ho
  exact ball_any hk ho
theorem LZ.point (h : LZ W w sb s tx k R) {x : Nb} (hx : x ∈ s.all) : Calls Tryz.prog 41 #[.pointer (some ⟨x.b, 0, none⟩)] w (DrawsTo w (.int .i64 (((tx x.b).L.length + 1 : Nat) : Int))) := by
  obtain ⟨z, E, e, hk, ho⟩ := h.buf hx
  rw [← e]
  rw [← e] at hk ho
  exact bpoint_any ho
end
theorem find_nodup {α β : Type} [DecidableEq β] (f : α → β) : ∀ {T : List α}, (T.map f).Nodup → ∀ t ∈ T, T.find? (fun u => decide (f u = f t)) = some t
  | [], _, t, ht => by cases ht
  | a :: T, hn, t, ht => by
    rw [List.map_cons, List.nodup_cons] at hn
    rcases List.mem_cons.1 ht with rfl | ht
    · simp
    · have hne : f a ≠ f t := fun e => hn.1 (e ▸ List.mem_map.2 ⟨t, ht, rfl⟩)
      rw [List.find?_cons, decide_eq_false hne]
      exact find_nodup f hn.2 t ht
theorem id_uniq {l : List Nb} (h : (l.map Nb.id).Nodup) {x y : Nb} (hx : x ∈ l) (hy : y ∈ l) (e : x.id = y.id) : x = y := by
  have h1 := find_nodup Nb.id h x hx
  have h2 := find_nodup Nb.id h y hy
  rw [e, h2] at h1
  exact (Option.some.inj h1).symm
/-! ### A copy in the making -/
/-- What is copied: a buffer of the set, its box's block and its blocks. -/
abbrev Ct := Nb × Nat × Zb
def cpAll (T : List Ct) : List Nb := T.map fun t => ⟨t.1.id, t.2.1, t.2.2.bp, t.1.name⟩
def cpD (tx : Nat → Bz) (T : List Ct) : List (Zb × Bz) := T.map fun t => (t.2.2, tx t.1.b)
def cpTx (tx : Nat → Bz) (T : List Ct) (q : Nat) : Bz := match T.find? fun t => decide (t.2.2.bp = q) with
  | some t => tx t.1.b
  | none => ⟨[], 0, 1, 2, 3⟩
def CpAt (W y : World) (b2 : Bb) (s : Bst) (tx : Nat → Bz) (r : Nat) (it : Obj) (T : List Ct) (Base : Heap) : Prop := BAt W y b2 (s.withAll (cpAll T)) ((r, .obj it) :: (zsHeap (cpD tx T) ++ Base))
/-- What a set and its copy have in common. -/
structure CopyOf (s : Bst) (tx : Nat → Bz) (s2 : Bst) (tx2 : Nat → Bz) : Prop where
  ord : s2.order = s.order
  cur : s2.cur = s.cur
  get : ∀ i : Int, (fndB s.all i = none ∧ fndB s2.all i = none) ∨ ∃ x y, fndB s.all i = some x ∧ fndB s2.all i = some y ∧ y.name = x.name ∧ tx2 y.b = tx x.b
section
variable {W y w' : World} {b b2 : Bb} {s : Bst} {tx : Nat → Bz} {k r : Nat} {it : Obj} {T : List Ct} {D : List (Zb × Bz)} {R Base : Heap}
theorem cp_call (h : CpAt W y b2 s tx r it T (s.heap b ++ (zsHeap D ++ R))) {z : Zb} {st : Bz} (hz : (z, st) ∈ D) (hk : ZOk z st) : Calls Tryz.prog 65 #[.pointer (some ⟨z.bp, 0, none⟩)] y fun e w' =>
    ∃ z2 : Zb, e = .returned (.pointer (some ⟨z2.bp, 0, none⟩)) ∧ BAt W w' b2 (s.withAll (cpAll T)) ((r, .obj it) :: (zHeap z2 st ++ (zsHeap (cpD tx T) ++ (s.heap b ++ (zsHeap D ++ R))))) ∧ ZOk z2 st ∧ Below y.heap.size y w' := by
  obtain ⟨E, hE⟩ := zs_take hz
  have h1 : Own W y (zHeap z st ++ ((s.withAll (cpAll T)).heap b2 ++ ((r, .obj it) :: (zsHeap (cpD tx T) ++ (s.heap b ++ (E ++ R)))))) := h.own.perm (by
    classical
    rw [List.perm_iff_count]
    intro x
    have := hE.count_eq x
    simp only [List.count_append, List.count_cons] at this ⊢
    omega)
  refine (zcopy_any hk h1).mono ?_
  rintro e w' ⟨z2, rfl, h2, h3, h4⟩
  refine ⟨z2, rfl, h.reR (h2.perm ?_), h3, h4⟩
  classical
  rw [List.perm_iff_count]
  intro x
  have := hE.count_eq x
  simp only [List.count_append, List.count_cons] at this ⊢
  omega
theorem cpAll_snoc (T : List Ct) (t : Ct) : cpAll (T ++ [t]) = cpAll T ++ [⟨t.1.id, t.2.1, t.2.2.bp, t.1.name⟩] := by simp [cpAll]
theorem cpD_snoc (tx : Nat → Bz) (T : List Ct) (t : Ct) : cpD tx (T ++ [t]) = cpD tx T ++ [(t.2.2, tx t.1.b)] := by simp [cpD]
theorem cp_add {rest : List (Value × Value)} {x : Nb} {z2 : Zb} (h : BAt W y b2 (s.withAll (cpAll T)) ((r, .obj it) :: (zHeap z2 (tx x.b) ++ (zsHeap (cpD tx T) ++ (s.heap b ++ (zsHeap D ++ R))))))
    (hr : MapRg y b.mb r (nbPairs s.all) rest) (hx : ∀ t ∈ T, t.1.id ≠ x.id) :
    ∃ w8, (Instr.mapUpdate 69 (.map (some b2.mb)) (.int .i64 (x.id : Int)) (.pointer (some ⟨y.heap.size, 0, none⟩))).run Tryz.prog (y.alloc (.cells #[.pointer (some ⟨z2.bp, 0, none⟩), .string x.name] 77)) = .ok () w8 ∧
      CpAt W w8 b2 s tx r it (T ++ [(x, y.heap.size, z2)]) (s.heap b ++ (zsHeap D ++ R)) ∧ MapRg w8 b.mb r (nbPairs s.all) rest ∧ Only (· = b2.mb) (y.alloc (.cells #[.pointer (some ⟨z2.bp, 0, none⟩), .string x.name] 77)) w8 := by
  have h7 := h.box 77 #[.pointer (some ⟨z2.bp, 0, none⟩), .string x.name]
  obtain ⟨w8, hru, hm, ho⟩ := (h7.mb).update (P := Tryz.prog) (nb_keys _) Tryz.underlying69 Tryz.underlying3 (.int _ (x.id : Int)) (.pointer (some ⟨y.heap.size, 0, none⟩))
  have hf : fndB (cpAll T) (x.id : Int) = none := by
    unfold fndB
    rw [List.find?_eq_none]
    intro q hq
    obtain ⟨t, ht, rfl⟩ := List.mem_map.1 hq
    have := hx t ht
    simp only [beq_iff_eq]
    omega
  rw [show (s.withAll (cpAll T)).all = cpAll T from rfl, nb_put ⟨x.id, y.heap.size, z2.bp, x.name⟩ (cpAll T) hf] at hm
  have h8 := BAt.addNb (x := ⟨x.id, y.heap.size, z2.bp, x.name⟩) h7 ho hm
  have hsep : b.mb ≠ b2.mb ∧ r ≠ b2.mb := by
    have hn := h.own.nod
    have h2 : b2.mb ∈ Heap.blocks ((s.withAll (cpAll T)).heap b2) := by simp [Bst.heap, Heap.blocks]
    constructor
    · intro e
      refine nodup_sep hn h2 ?_
      rw [← e]
      simp [Bst.heap, Heap.blocks]
    · intro e
      refine nodup_sep hn h2 ?_
      rw [← e]
      simp [Heap.blocks]
  have hr2 : MapRg (y.alloc (.cells #[.pointer (some ⟨z2.bp, 0, none⟩), .string x.name] 77)) b.mb r (nbPairs s.all) rest := hr.below (below_box y _)
  refine ⟨w8, hru, ?_, hr2.same (ho.block _ hr2.is.lt hsep.1) (ho.block _ hr2.lt hsep.2), ho⟩
  unfold CpAt
  rw [cpAll_snoc, cpD_snoc]
  refine h8.reR (h8.own.perm ?_)
  rw [zsHeap_app, zsHeap_cons]
  show List.Perm (((s.withAll (cpAll T)).withAll (cpAll T ++ [⟨x.id, y.heap.size, z2.bp, x.name⟩])).heap b2 ++ ((r, Ast.obj it) :: (zHeap z2 (tx x.b) ++ (zsHeap (cpD tx T) ++ (s.heap b ++ (zsHeap D ++ R)))))) ((s.withAll (cpAll T ++ [⟨x.id, y.heap.size, z2.bp, x.name⟩])).heap b2 ++ ((r, Ast.obj it) :: (zsHeap (cpD tx T) ++ (zHeap z2 (tx x.b) ++ zsHeap []) ++ (s.heap b ++ (zsHeap D ++ R)))))
  rw [show (s.withAll (cpAll T)).withAll (cpAll T ++ [⟨x.id, y.heap.size, z2.bp, x.name⟩]) = s.withAll (cpAll T ++ [⟨x.id, y.heap.size, z2.bp, x.name⟩]) from rfl, show zsHeap [] = [] from rfl]
  classical
  rw [List.perm_iff_count]
  intro x
  simp only [List.count_append, List.count_cons, List.count_nil]
  omega
theorem zs_nodup : ∀ {D : List (Zb × Bz)}, (Heap.blocks (zsHeap D)).Nodup → (D.map fun y => y.1.bp).Nodup
  | [], _ => by simp
  | a :: D, h => by
    rw [zsHeap_cons, Heap.blocks_append, List.nodup_append] at h
    rw [List.map_cons, List.nodup_cons]
    refine ⟨fun hm => ?_, zs_nodup h.2.1⟩
    obtain ⟨q, hq, e⟩ := List.mem_map.1 hm
    exact h.2.2 _ (zHeap_bp a.1 a.2) _ (zsHeap_bp hq) e.symm
theorem cpTx_at {T : List Ct} (hn : (T.map fun t => t.2.2.bp).Nodup) {t : Ct} (ht : t ∈ T) : cpTx tx T t.2.2.bp = tx t.1.b := by
  unfold cpTx
  rw [find_nodup (fun t : Ct => t.2.2.bp) hn t ht]
/-- The copy is done. -/
theorem cp_done {W0 w0 : World} {R0 : Heap} {sb : Nat} (h : CpAt W y b2 s tx r it T (s.heap b ++ (zsHeap D ++ R))) (hp : (T.map fun t => t.1).Perm s.all) (hT : ∀ t ∈ T, ZOk t.2.2 (tx t.1.b)) (hz : LZ W0 w0 sb s tx k R0) :
    ∃ s2 tx2 H2, SetH b2.sb s2 tx2 k H2 ∧ Own W y (H2 ++ (s.heap b ++ (zsHeap D ++ R))) ∧ CopyOf s tx s2 tx2 := by
  have hown := h.own
  have hbn : (T.map fun t => t.2.2.bp).Nodup := by
    have h1 := hown.right.tail.left.nod
    have h2 := zs_nodup h1
    rwa [cpD, List.map_map] at h2
  have hid : (cpAll T).map Nb.id = (T.map fun t => t.1).map Nb.id := by simp [cpAll]
  have hnm : (cpAll T).map Nb.name = (T.map fun t => t.1).map Nb.name := by simp [cpAll]
  have hbb : (cpAll T).map Nb.b = T.map fun t => t.2.2.bp := by simp [cpAll]
  have hmem : ∀ {t : Ct}, t ∈ T → t.1 ∈ s.all := fun {t} ht => hp.mem_iff.1 (List.mem_map.2 ⟨t, ht, rfl⟩)
  refine ⟨s.withAll (cpAll T), cpTx tx T, (s.withAll (cpAll T)).heap b2 ++ zsHeap (cpD tx T), ⟨⟨b2, cpD tx T, rfl, rfl, h.sl.rowOk, ?_, ?_⟩, ⟨?_, ?_, hz.ok.onod, hz.ok.lt⟩, ?_, ?_, ?_, ?_, hz.nx, ?_, hz.cu⟩, ?_, ⟨rfl, rfl, ?_⟩⟩
  · intro q hq
    obtain ⟨t, ht, rfl⟩ := List.mem_map.1 hq
    exact hT t ht
  · intro x hx
    obtain ⟨t, ht, rfl⟩ := List.mem_map.1 hx
    refine ⟨t.2.2, ?_, rfl⟩
    show (t.2.2, cpTx tx T t.2.2.bp) ∈ _
    rw [cpTx_at hbn ht]
    exact List.mem_map.2 ⟨t, ht, rfl⟩
  · show ((cpAll T).map Nb.id).Nodup
    rw [hid]
    exact (hp.map Nb.id).nodup_iff.2 hz.ok.nod
  · intro q
    show q ∈ s.order ↔ q ∈ (cpAll T).map Nb.id
    rw [hid, (hp.map Nb.id).mem_iff]
    exact hz.ok.mem q
  · show ((cpAll T).map Nb.b).Nodup
    rw [hbb]
    exact hbn
  · show ((cpAll T).map Nb.name).Nodup
    rw [hnm]
    exact (hp.map Nb.name).nodup_iff.2 hz.nn
  · intro x hx
    obtain ⟨t, ht, rfl⟩ := List.mem_map.1 hx
    exact hz.nv t.1 (hmem ht)
  · intro x hx
    obtain ⟨t, ht, rfl⟩ := List.mem_map.1 hx
    exact hz.nz t.1 (hmem ht)
  · intro x hx
    obtain ⟨t, ht, rfl⟩ := List.mem_map.1 hx
    show (cpTx tx T t.2.2.bp).tick ≤ k
    rw [cpTx_at hbn ht]
    exact hz.tk t.1 (hmem ht)
  · refine (hown.sub (R := (s.withAll (cpAll T)).heap b2 ++ (zsHeap (cpD tx T) ++ (s.heap b ++ (zsHeap D ++ R)))) ?_).perm (by rw [List.append_assoc])
    exact List.Sublist.append (List.Sublist.refl _) (List.sublist_cons_self ..)
  · intro i
    cases hf : fndB s.all i with
    | none =>
      refine .inl ⟨rfl, ?_⟩
      unfold fndB
      rw [List.find?_eq_none]
      intro q hq
      obtain ⟨t, ht, rfl⟩ := List.mem_map.1 hq
      have := fndB_none hf _ (hmem ht)
      simp only [beq_iff_eq]
      exact fun e => this e.symm
    | some x =>
      obtain ⟨hx, hxi⟩ := fndB_mem hf
      have hxT : x.id ∈ (cpAll T).map Nb.id := by
        rw [hid, (hp.map Nb.id).mem_iff]
        exact List.mem_map.2 ⟨x, hx, rfl⟩
      obtain ⟨q, hq, hqm, hqi⟩ := fndB_of hxT
      rw [hxi] at hq
      obtain ⟨t, ht, rfl⟩ := List.mem_map.1 hqm
      have e : t.1 = x := id_uniq hz.ok.nod (hmem ht) hx hqi
      refine .inr ⟨x, _, rfl, hq, ?_, ?_⟩
      · show t.1.name = x.name
        rw [e]
      · show cpTx tx T t.2.2.bp = tx x.b
        rw [cpTx_at hbn ht, e]
end
end Go.Proofs.YtnbhejbpofjamaaGreatDoor
