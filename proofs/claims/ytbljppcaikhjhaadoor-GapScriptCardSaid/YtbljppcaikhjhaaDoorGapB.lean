/- The walk of Slice. No condition but those written. -/
import Derived.Test.YtbljppcaikhjhaaDoorGapA
import Derived.Laws.Concat
namespace Go.Proofs.YtbljppcaikhjhaaDoor
open Go.RowKit

section
variable {W w w' : World} {b : Gb} {L : List Nat} {R : Heap}
/-- A part of the row of characters, written as a string. -/
theorem GapAt.conv (h : GapAt W w b R) (X : List Nat) (a : Nat) (A : Addr) (n c : Nat) (hn : n = X.length) (hx : (b.g.B.drop a).take n = X) (hA : 0 < n → A = ⟨b.bb, b.bo + a, none⟩) (hok : ∀ c ∈ X, okc c) :
    (convert 62 9 (.slice (some A) n c)).run Tryd.prog w = .ok (.string (strOf X)) w := by
  have hr := run_convert_runes (P := Tryd.prog) w 62 9 21 A n c (X.map fun c : Nat => (c : Int)) (by simp [hn]) Tryd.underlying62 Tryd.underlying21 Tryd.underlying9 (fun j hj => by
    rw [List.length_map] at hj
    rw [hA (by omega), Addr.add_lit, Nat.add_assoc]
    have hc : b.g.B[a + j]? = some X[j] := by
      have e : ((b.g.B.drop a).take n)[j]? = X[j]? := by rw [hx]
      rw [List.getElem?_take, if_pos (by omega), List.getElem?_drop, List.getElem?_eq_getElem hj] at e
      exact e
    rw [h.rune hc]
    simp [List.getD, hj])
  rw [hr, List.take_of_length_le (by simp [hn]), runesBytes_str hok]
theorem okc_sub {L : List Nat} (h : ∀ c ∈ L, okc c) (a n : Nat) : ∀ c ∈ (L.drop a).take n, okc c := fun c hc => h c (List.mem_of_mem_drop (List.mem_of_mem_take hc))
/-- What Slice returns. -/
def sliceR (L : List Nat) (a c : Int) : Value := if spanB L a c then .tuple #[.string (strOf ((L.drop (a - 1).toNat).take (c - a).toNat)), .int .i64 0] else .tuple #[.string ⟨#[]⟩, .int .i64 3]
set_option maxRecDepth 100000 in
set_option maxHeartbeats 4000000 in
theorem slice_bad (h : TextAt W w b L R) (a c : Int) (hs : spanB L a c = false) : Calls Tryd.prog 15 #[.pointer (some ⟨b.tb, 0, none⟩), .int .i64 a, .int .i64 c] w (DrawsTo w (sliceR L a c)) := by
  have HN := hide (none_any h.gap)
  have HS := hide (span_any h a c)
  have HE := hide (show sliceR L a c = .tuple #[.string ⟨#[]⟩, .int .i64 3] by unfold sliceR; rw [hs]; rfl)
  rw [hs] at HS
  clear h hs
  go_enter Tryd.func15, Tryd.ntmps15
  go_wp2_with fail
  refine (Calls.mono (HN.out)) ?_
  rintro r w2 ⟨rfl, rfl⟩
  go_wp2_with fail
  refine (Calls.mono (HS.out)) ?_
  rintro r w2 ⟨rfl, q, rfl⟩
  go_wp2
  go_ret2
  exact ⟨by rw [HE.out]; rfl, q, rfl⟩
set_option maxRecDepth 100000 in
set_option maxHeartbeats 4000000 in
theorem slice_lo (h : TextAt W w b L R) (x y : Int) (a k : Nat) (hx : x - 1 = (a : Int)) (hy : y - 1 = (k : Int)) (hak : a ≤ k) (hkl : k ≤ L.length) (hm : k ≤ b.g.st) : Calls Tryd.prog 15 #[.pointer (some ⟨b.tb, 0, none⟩), .int .i64 x, .int .i64 y] w (DrawsTo w (.tuple #[.string (strOf ((L.drop a).take (k - a))), .int .i64 0])) := by
  have HN := hide (none_any h.gap)
  have HS := hide (span_any h x y)
  rw [show spanB L x y = true by unfold spanB; simp; omega] at HS
  have hsz := h.ok.size
  have c0 := h.gap.c0
  have c1 := h.gap.c1
  have h1 := h.gap.le1
  have h2 := h.gap.le2
  have h3 := h.gap.lim
  have hlen := b.g.len h1 h2
  rw [h.ok.chars] at hlen
  obtain ⟨hcp1, hcp2⟩ := h.gap.cap
  have hpart := Gt.part_lo h1 h2 hak hm
  rw [h.ok.chars] at hpart
  obtain ⟨X, hX⟩ : ∃ X, X = (L.drop a).take (k - a) := ⟨_, rfl⟩
  have hok : ∀ c ∈ X, okc c := by rw [hX]; exact okc_sub h.ok.okc a _
  have hXl : k - a = X.length := by rw [hX, List.length_take, List.length_drop]; omega
  rw [← hX] at hpart ⊢
  have HCV := hide (fun q (A : Addr) cc hA => (h.drewN q).gap.conv X a A (k - a) cc hXl hpart hA hok)
  obtain ⟨n, hn⟩ : ∃ n, n = b.g.B.length := ⟨_, rfl⟩
  obtain ⟨s, hs'⟩ : ∃ s, s = b.g.st := ⟨_, rfl⟩
  obtain ⟨e, he'⟩ : ∃ e, e = b.g.en := ⟨_, rfl⟩
  obtain ⟨bc, hbc⟩ : ∃ bc, bc = b.bc := ⟨_, rfl⟩
  unfold Gb.bv at c0
  rw [← hn, ← hbc] at c0
  rw [← hn] at h2 h3 hcp1 hlen
  rw [← hbc] at hcp1 hcp2
  rw [← hs'] at c1 hm h1 hlen
  rw [← he'] at h1 h2 hlen
  unfold maxLen at hcp2
  have hi0 : (0 : Int) ≤ (a : Int) := by omega
  have hi1 : (a : Int) ≤ (k : Int) := by omega
  have hx1 : IntKind.i64.wrap (x - 1) = (a : Int) := by rw [hx]; exact IntWalk.i64_in _ (by omega)
  have hy1 : IntKind.i64.wrap (y - 1) = (k : Int) := by rw [hy]; exact IntWalk.i64_in _ (by omega)
  have z1 : decide ((k : Int) ≤ (s : Int)) = true := by simp; omega
  have z1' : decide (k ≤ s) = true := by simpa using hm
  have hi2 : (k : Int) ≤ (bc : Int) := by omega
  clear h hpart hX hok hXl hn hs' he' hbc
  by_cases hcap : a = bc
  · obtain rfl : k = a := by omega
    subst hcap
    rw [Nat.sub_self] at HCV
    go_enter Tryd.func15, Tryd.ntmps15
    go_wp2_with fail
    refine (Calls.mono (HN.out)) ?_
    rintro r w2 ⟨rfl, rfl⟩
    go_wp2_with fail
    refine (Calls.mono (HS.out)) ?_
    rintro r w2 ⟨rfl, q, rfl⟩
    have hcv := fun m cc => HCV.out m ⟨b.bb, b.bo, none⟩ cc (fun h => absurd h (by omega))
    go_wp2
    go_ret2
    exact ⟨rfl, q, rfl⟩
  · go_enter Tryd.func15, Tryd.ntmps15
    go_wp2_with fail
    refine (Calls.mono (HN.out)) ?_
    rintro r w2 ⟨rfl, rfl⟩
    go_wp2_with fail
    refine (Calls.mono (HS.out)) ?_
    rintro r w2 ⟨rfl, q, rfl⟩
    have hcv := fun m cc => HCV.out m ⟨b.bb, b.bo + a, none⟩ cc (fun _ => rfl)
    go_wp2
    go_ret2
    exact ⟨rfl, q, rfl⟩
set_option maxRecDepth 100000 in
set_option maxHeartbeats 4000000 in
theorem slice_hi (h : TextAt W w b L R) (x y : Int) (a k : Nat) (hx : x - 1 = (a : Int)) (hy : y - 1 = (k : Int)) (hak : a ≤ k) (hkl : k ≤ L.length) (hm : b.g.st ≤ a) (hm2 : b.g.st < k) : Calls Tryd.prog 15 #[.pointer (some ⟨b.tb, 0, none⟩), .int .i64 x, .int .i64 y] w (DrawsTo w (.tuple #[.string (strOf ((L.drop a).take (k - a))), .int .i64 0])) := by
  have HN := hide (none_any h.gap)
  have HS := hide (span_any h x y)
  rw [show spanB L x y = true by unfold spanB; simp; omega] at HS
  have hsz := h.ok.size
  have c0 := h.gap.c0
  have c1 := h.gap.c1
  have c2 := h.gap.c2
  have h1 := h.gap.le1
  have h2 := h.gap.le2
  have h3 := h.gap.lim
  have hlen := b.g.len h1 h2
  rw [h.ok.chars] at hlen
  obtain ⟨hcp1, hcp2⟩ := h.gap.cap
  have hpart := Gt.part_hi h1 h2 (a := a) (b := k) hm
  rw [h.ok.chars] at hpart
  obtain ⟨X, hX⟩ : ∃ X, X = (L.drop a).take (k - a) := ⟨_, rfl⟩
  have hok : ∀ c ∈ X, okc c := by rw [hX]; exact okc_sub h.ok.okc a _
  have hXl : k - a = X.length := by rw [hX, List.length_take, List.length_drop]; omega
  rw [← hX] at hpart ⊢
  have HCV := hide (fun q (A : Addr) cc hA => (h.drewN q).gap.conv X _ A (k - a) cc hXl hpart hA hok)
  obtain ⟨n, hn⟩ : ∃ n, n = b.g.B.length := ⟨_, rfl⟩
  obtain ⟨s, hs'⟩ : ∃ s, s = b.g.st := ⟨_, rfl⟩
  obtain ⟨e, he'⟩ : ∃ e, e = b.g.en := ⟨_, rfl⟩
  obtain ⟨bc, hbc⟩ : ∃ bc, bc = b.bc := ⟨_, rfl⟩
  unfold Gb.bv at c0
  rw [← hn, ← hbc] at c0
  rw [← hn] at h2 h3 hcp1 hlen
  rw [← hbc] at hcp1 hcp2
  rw [← hs'] at c1 hm h1 hlen
  rw [← he'] at h1 h2 hlen
  rw [← hs'] at hm2
  rw [← he'] at c2
  rw [← hs', ← he'] at HCV
  unfold maxLen at hcp2
  have hi0 : (0 : Int) ≤ (a : Int) := by omega
  have hi1 : (a : Int) ≤ (k : Int) := by omega
  have hx1 : IntKind.i64.wrap (x - 1) = (a : Int) := by rw [hx]; exact IntWalk.i64_in _ (by omega)
  have hy1 : IntKind.i64.wrap (y - 1) = (k : Int) := by rw [hy]; exact IntWalk.i64_in _ (by omega)
  have z1 : decide ((k : Int) ≤ (s : Int)) = false := by simp; omega
  have z1' : decide (k ≤ s) = false := by simp; omega
  have z2 : decide ((s : Int) ≤ (a : Int)) = true := by simp; omega
  have z2' : decide (s ≤ a) = true := by simpa using hm
  obtain ⟨a1, ha1⟩ : ∃ a1, a1 = a + (e - s) := ⟨_, rfl⟩
  obtain ⟨k1, hk1⟩ : ∃ k1, k1 = k + (e - s) := ⟨_, rfl⟩
  rw [← ha1] at HCV
  have hw1 : IntKind.i64.wrap ((a : Int) + (e : Int)) = (a : Int) + (e : Int) := IntWalk.i64_in _ (by omega)
  have hw2 : IntKind.i64.wrap ((a : Int) + (e : Int) - (s : Int)) = (a1 : Int) := by rw [show (a : Int) + (e : Int) - (s : Int) = (a1 : Int) by omega]; exact IntWalk.i64_in _ (by omega)
  have hw3 : IntKind.i64.wrap ((k : Int) + (e : Int)) = (k : Int) + (e : Int) := IntWalk.i64_in _ (by omega)
  have hw4 : IntKind.i64.wrap ((k : Int) + (e : Int) - (s : Int)) = (k1 : Int) := by rw [show (k : Int) + (e : Int) - (s : Int) = (k1 : Int) by omega]; exact IntWalk.i64_in _ (by omega)
  have hj0 : (0 : Int) ≤ (a1 : Int) := by omega
  have hj1 : (a1 : Int) ≤ (k1 : Int) := by omega
  have hj2 : (k1 : Int) ≤ (bc : Int) := by omega
  rw [show k - a = k1 - a1 by omega] at HCV
  have hka : k1 = a1 → k1 - a1 = 0 := by omega
  have hcc : a1 = bc → k1 = a1 := by omega
  have hb1 : a ≤ 65536 := by omega
  have hb2 : k ≤ 65536 := by omega
  have hb3 : s ≤ 131104 := by omega
  have hb4 : e ≤ 131104 := by omega
  clear h hpart hX hok hXl hn hs' he' hbc ha1 hk1 hlen hcp1 h1 h2 h3 hm hm2 hkl hak
  by_cases hcap : a1 = bc
  · obtain rfl := hcc hcap
    subst hcap
    rw [Nat.sub_self] at HCV
    go_enter Tryd.func15, Tryd.ntmps15
    go_wp2_with fail
    refine (Calls.mono (HN.out)) ?_
    rintro r w2 ⟨rfl, rfl⟩
    go_wp2_with fail
    refine (Calls.mono (HS.out)) ?_
    rintro r w2 ⟨rfl, q, rfl⟩
    have hcv := fun m cc => HCV.out m ⟨b.bb, b.bo, none⟩ cc (fun h => absurd h (by omega))
    clear hka hcc
    go_wp2
    go_quiet (fail)
    go_wp2
    go_ret2
    exact ⟨rfl, q + nq, drewN_add _ _ _⟩
  · have hka' := hide hka
    clear hka hcc
    go_enter Tryd.func15, Tryd.ntmps15
    go_wp2_with fail
    refine (Calls.mono (HN.out)) ?_
    rintro r w2 ⟨rfl, rfl⟩
    go_wp2_with fail
    refine (Calls.mono (HS.out)) ?_
    rintro r w2 ⟨rfl, q, rfl⟩
    have hcv := fun m cc => HCV.out m ⟨b.bb, b.bo + a1, none⟩ cc (fun _ => rfl)
    go_wp2
    go_quiet (fail)
    go_wp2
    go_ret2
    exact ⟨rfl, q + nq, drewN_add _ _ _⟩
set_option maxRecDepth 100000 in
set_option maxHeartbeats 4000000 in
theorem slice_mid (h : TextAt W w b L R) (x y : Int) (a k : Nat) (hx : x - 1 = (a : Int)) (hy : y - 1 = (k : Int)) (hak : a ≤ k) (hkl : k ≤ L.length) (hm : a < b.g.st) (hm2 : b.g.st < k) : Calls Tryd.prog 15 #[.pointer (some ⟨b.tb, 0, none⟩), .int .i64 x, .int .i64 y] w (DrawsTo w (.tuple #[.string (strOf ((L.drop a).take (k - a))), .int .i64 0])) := by
  have HN := hide (none_any h.gap)
  have HS := hide (span_any h x y)
  rw [show spanB L x y = true by unfold spanB; simp; omega] at HS
  have hsz := h.ok.size
  have c0 := h.gap.c0
  have c1 := h.gap.c1
  have c2 := h.gap.c2
  have h1 := h.gap.le1
  have h2 := h.gap.le2
  have h3 := h.gap.lim
  have hlen := b.g.len h1 h2
  rw [h.ok.chars] at hlen
  obtain ⟨hcp1, hcp2⟩ := h.gap.cap
  have hpart := Gt.part_mid h1 h2 (a := a) (b := k) (by omega) (by omega)
  rw [h.ok.chars] at hpart
  have hp1 := Gt.part_lo h1 h2 (a := a) (b := b.g.st) (by omega) (Nat.le_refl _)
  have hp2 := Gt.part_hi h1 h2 (a := b.g.st) (b := k) (Nat.le_refl _)
  rw [h.ok.chars] at hp1 hp2
  rw [show b.g.st + (b.g.en - b.g.st) = b.g.en by omega] at hp2
  rw [← hpart, hp1, hp2, strOf_append]
  obtain ⟨X, hX⟩ : ∃ X, X = (L.drop a).take (b.g.st - a) := ⟨_, rfl⟩
  obtain ⟨Y, hY⟩ : ∃ Y, Y = (L.drop b.g.st).take (k - b.g.st) := ⟨_, rfl⟩
  have hok : ∀ c ∈ X, okc c := by rw [hX]; exact okc_sub h.ok.okc a _
  have hok2 : ∀ c ∈ Y, okc c := by rw [hY]; exact okc_sub h.ok.okc _ _
  have hXl : b.g.st - a = X.length := by rw [hX, List.length_take, List.length_drop]; omega
  have hYl : k - b.g.st = Y.length := by rw [hY, List.length_take, List.length_drop]; omega
  rw [← hX] at hp1 ⊢
  rw [← hY] at hp2 ⊢
  have HCV := hide (fun q (A : Addr) cc hA => (h.drewN q).gap.conv X a A (b.g.st - a) cc hXl hp1 hA hok)
  have HCW := hide (fun q (A : Addr) cc hA => (h.drewN q).gap.conv Y _ A (k - b.g.st) cc hYl hp2 hA hok2)
  obtain ⟨n, hn⟩ : ∃ n, n = b.g.B.length := ⟨_, rfl⟩
  obtain ⟨s, hs'⟩ : ∃ s, s = b.g.st := ⟨_, rfl⟩
  obtain ⟨e, he'⟩ : ∃ e, e = b.g.en := ⟨_, rfl⟩
  obtain ⟨bc, hbc⟩ : ∃ bc, bc = b.bc := ⟨_, rfl⟩
  unfold Gb.bv at c0
  rw [← hn, ← hbc] at c0
  rw [← hn] at h2 h3 hcp1 hlen
  rw [← hbc] at hcp1 hcp2
  rw [← hs'] at c1 hm h1 hlen
  rw [← he'] at h1 h2 hlen
  rw [← hs'] at hm2
  rw [← he'] at c2
  rw [← hs'] at HCV HCW
  rw [← he'] at HCW
  unfold maxLen at hcp2
  have hi0 : (0 : Int) ≤ (a : Int) := by omega
  have hi1 : (a : Int) ≤ (k : Int) := by omega
  have hx1 : IntKind.i64.wrap (x - 1) = (a : Int) := by rw [hx]; exact IntWalk.i64_in _ (by omega)
  have hy1 : IntKind.i64.wrap (y - 1) = (k : Int) := by rw [hy]; exact IntWalk.i64_in _ (by omega)
  have z1 : decide ((k : Int) ≤ (s : Int)) = false := by simp; omega
  have z1' : decide (k ≤ s) = false := by simp; omega
  have z2 : decide ((s : Int) ≤ (a : Int)) = false := by simp; omega
  have z2' : decide (s ≤ a) = false := by simp; omega
  obtain ⟨k1, hk1⟩ : ∃ k1, k1 = k + (e - s) := ⟨_, rfl⟩
  have hw3 : IntKind.i64.wrap ((k : Int) + (e : Int)) = (k : Int) + (e : Int) := IntWalk.i64_in _ (by omega)
  have hw4 : IntKind.i64.wrap ((k : Int) + (e : Int) - (s : Int)) = (k1 : Int) := by rw [show (k : Int) + (e : Int) - (s : Int) = (k1 : Int) by omega]; exact IntWalk.i64_in _ (by omega)
  have hj0 : (0 : Int) ≤ (e : Int) := by omega
  have hj1 : (e : Int) ≤ (k1 : Int) := by omega
  have hj2 : (k1 : Int) ≤ (bc : Int) := by omega
  have hj3 : (a : Int) ≤ (s : Int) := by omega
  have hj4 : (s : Int) ≤ (bc : Int) := by omega
  have hcap : ¬ a = bc := by omega
  have hcap2 : ¬ e = bc := by omega
  have hcap3 : ¬ bc = a := by omega
  have hss : ¬ (9223372036854775807 < (strOf X).size + (strOf Y).size) := by have h1 := strOf_size X; have h2 := strOf_size Y; omega
  have hcap4 : ¬ bc = e := by omega
  rw [show k - s = k1 - e by omega] at HCW
  have hb1 : a ≤ 65536 := by omega
  have hb2 : k ≤ 65536 := by omega
  have hb3 : s ≤ 131104 := by omega
  have hb4 : e ≤ 131104 := by omega
  clear h hpart hX hY hok hok2 hXl hYl hp1 hp2 hn hs' he' hbc hk1 hlen hcp1 h1 h2 h3 hm hm2 hkl hak
  go_enter Tryd.func15, Tryd.ntmps15
  go_wp2_with fail
  refine (Calls.mono (HN.out)) ?_
  rintro r w2 ⟨rfl, rfl⟩
  go_wp2_with fail
  refine (Calls.mono (HS.out)) ?_
  rintro r w2 ⟨rfl, q, rfl⟩
  have hcv := fun m cc => HCV.out m ⟨b.bb, b.bo + a, none⟩ cc (fun _ => rfl)
  have hcw := fun m cc => HCW.out m ⟨b.bb, b.bo + e, none⟩ cc (fun _ => rfl)
  go_wp2
  go_quiet (fail)
  go_wp2
  go_ret2
  exact ⟨rfl, q + nq, drewN_add _ _ _⟩
theorem slice_any (h : TextAt W w b L R) (x y : Int) : Calls Tryd.prog 15 #[.pointer (some ⟨b.tb, 0, none⟩), .int .i64 x, .int .i64 y] w (DrawsTo w (sliceR L x y)) := by
  cases hs : spanB L x y with
  | false => exact slice_bad h x y hs
  | true =>
    have hb : 1 ≤ x ∧ x ≤ y ∧ y ≤ (L.length : Int) + 1 := by simpa [spanB] using hs
    obtain ⟨a, ha⟩ : ∃ a : Nat, x - 1 = (a : Int) := ⟨(x - 1).toNat, by omega⟩
    obtain ⟨k, hk⟩ : ∃ k : Nat, y - 1 = (k : Int) := ⟨(y - 1).toNat, by omega⟩
    have he : sliceR L x y = .tuple #[.string (strOf ((L.drop a).take (k - a))), .int .i64 0] := by
      unfold sliceR
      rw [hs, if_pos rfl, show (x - 1).toNat = a by omega, show (y - x).toNat = k - a by omega]
    rw [he]
    by_cases h1 : k ≤ b.g.st
    · exact slice_lo h x y a k ha hk (by omega) (by omega) h1
    · by_cases h2 : b.g.st ≤ a
      · exact slice_hi h x y a k ha hk (by omega) (by omega) h2 (by omega)
      · exact slice_mid h x y a k ha hk (by omega) (by omega) (by omega) (by omega)
end
end Go.Proofs.YtbljppcaikhjhaaDoor
