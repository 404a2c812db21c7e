/- The reference: Slice, All. No condition but those written. -/
import Derived.Test.YtghcmakhfdnimaaDoorUbt
import Derived.Test.YtghcmakhfdnimaaDoorUbu
namespace Go.Proofs.YtghcmakhfdnimaaDoor
open Go.RowKit

theorem rd_zero (w : World) (A : Option Addr) : Rd w (.slice A 0 0) 1 0 [] := ⟨A, 0, rfl, rfl, fun h => by omega⟩
theorem ints_mid (L : List Nat) (i k : Nat) : ((ints L).drop i).take k = ints ((L.drop i).take k) := by simp [ints]
section
variable {w : World} {rb n c : Nat} {A : Option Addr} {L : List Nat}
set_option maxRecDepth 100000 in
set_option maxHeartbeats 8000000 in
theorem rslice_any (h : RtIn w rb A n c L) (hok : ∀ x ∈ L, okc x) (hnc : n ≤ c) (hc : c ≤ maxLen) (hA : (A = none ∧ c = 0) ∨ ∃ g off, A = some ⟨g, off, none⟩) (a d : Int) : Calls Tryd.prog 42 #[.pointer (some ⟨rb, 0, none⟩), .int .i64 a, .int .i64 d] w fun e w' => e = .returned (sliceR L a d) ∧ Below w.heap.size w w' := by
  have hl := h.len
  have hle := h.le
  have c0 := h.c0
  have HR := hide (right_any h a d)
  unfold maxLen at hc
  cases hs : spanB L a d with
  | false =>
    have HE := hide (show sliceR L a d = .tuple #[.string ⟨#[]⟩, .int .i64 3] by unfold sliceR; rw [hs]; rfl)
    rw [hs] at HR
    clear h hs
    go_enter Tryd.func42, Tryd.ntmps42
    go_wp2_with fail
    refine Calls.mono HR.out ?_
    rintro r w2 ⟨rfl, rfl⟩
    go_wp2
    go_ret2
    exact ⟨by rw [HE.out]; rfl, Below.refl _ _⟩
  | true =>
    have hb : 1 ≤ a ∧ a ≤ d ∧ d ≤ (L.length : Int) + 1 := by simpa [spanB] using hs
    obtain ⟨i, rfl⟩ : ∃ i : Nat, a = (i : Int) + 1 := ⟨(a - 1).toNat, by omega⟩
    obtain ⟨j, rfl⟩ : ∃ j : Nat, d = (j : Int) + 1 := ⟨(d - 1).toNat, by omega⟩
    have HE := hide (show sliceR L ((i : Int) + 1) ((j : Int) + 1) = .tuple #[.string (strOf ((L.drop i).take (j - i))), .int .i64 0] by
      unfold sliceR
      rw [if_pos hs, show ((i : Int) + 1 - 1).toNat = i by omega, show ((j : Int) + 1 - ((i : Int) + 1)).toNat = j - i by omega])
    rw [hs] at HR
    have hij : i ≤ j := by omega
    have hjn : j ≤ n := by omega
    have hw1 : IntKind.i64.wrap ((i : Int) + 1 - 1) = (i : Int) := by
      rw [show (i : Int) + 1 - 1 = (i : Int) by omega]
      exact IntWalk.i64_in _ (by omega)
    have hw2 : IntKind.i64.wrap ((j : Int) + 1 - 1) = (j : Int) := by
      rw [show (j : Int) + 1 - 1 = (j : Int) by omega]
      exact IntWalk.i64_in _ (by omega)
    have kb1 : (0 : Int) ≤ (i : Int) := by omega
    have kb2 : (i : Int) ≤ (j : Int) := by omega
    have kb3 : (j : Int) ≤ (c : Int) := by omega
    have HT := hide (fun v (hv : Rd w v 1 (j - i) (ints ((L.drop i).take (j - i)))) => hv)
    have HOK := hide (fun x (hx : x ∈ (L.drop i).take (j - i)) => hok x (List.mem_of_mem_drop (List.mem_of_mem_take hx)))
    have HRD := hide h.rd
    rcases hA with ⟨rfl, rfl⟩ | ⟨g, off, rfl⟩
    · obtain rfl : n = 0 := by omega
      obtain rfl : j = 0 := by omega
      obtain rfl : i = 0 := by omega
      have HTX := hide (rtext_any (w := w) (A := none) (n := 0) (c := 0) (L := (L.drop 0).take (0 - 0)) (by simpa [ints] using Rd.nil w 1) (by omega) HOK.out)
      clear h hs hb hok hl
      go_enter Tryd.func42, Tryd.ntmps42
      go_wp2_with fail
      refine Calls.mono HR.out ?_
      rintro r w2 ⟨rfl, rfl⟩
      go_wp2_with fail
      refine Calls.mono HTX.out ?_
      rintro r w3 ⟨rfl, hb3⟩
      have HB := hide hb3
      clear hb3
      go_wp2
      go_ret2
      exact ⟨by rw [HE.out]; rfl, HB.out⟩
    · clear h hs hb hok hl
      have HR2 := hide HRD.out
      by_cases hci : c = i
      · subst hci
        obtain rfl : j = c := by omega
        obtain rfl : n = j := by omega
        clear hij hjn hnc kb2 kb3
        go_enter Tryd.func42, Tryd.ntmps42
        go_wp2_with fail
        refine Calls.mono HR.out ?_
        rintro r w2 ⟨rfl, rfl⟩
        go_wp2_with fail
        refine Calls.mono (rtext_any (L := (L.drop n).take (n - n)) (by simpa [ints] using rd_zero w (some ⟨g, off, none⟩)) (by omega) HOK.out) ?_
        rintro r w3 ⟨rfl, hb3⟩
        have HB := hide hb3
        clear hb3
        go_wp2
        go_ret2
        exact ⟨by rw [HE.out, show (L.drop n).take (n - n) = [] by simp]; rfl, HB.out⟩
      · clear HRD
        go_enter Tryd.func42, Tryd.ntmps42
        go_wp2_with fail
        refine Calls.mono HR.out ?_
        rintro r w2 ⟨rfl, rfl⟩
        go_wp2_with fail
        refine Calls.mono (rtext_any (L := (L.drop i).take (j - i)) (by
          have h1 := (HR2.out.back (k := i) (by omega) c).front (k := j - i) (by omega) (c - i)
          rw [Nat.mul_one, Nat.mul_one, ints_mid] at h1
          exact h1) (by omega) HOK.out) ?_
        rintro r w3 ⟨rfl, hb3⟩
        have HB := hide hb3
        clear hb3
        go_wp2
        go_ret2
        exact ⟨by rw [HE.out]; rfl, HB.out⟩
theorem slice_all (L : List Nat) : sliceR L 1 ((L.length : Int) + 1) = .tuple #[.string (strOf L), .int .i64 0] := by
  unfold sliceR
  rw [show spanB L 1 ((L.length : Int) + 1) = true by unfold spanB; simp; omega, if_pos rfl, show ((1 : Int) - 1).toNat = 0 by rfl, List.drop_zero, List.take_of_length_le (by omega)]
set_option maxRecDepth 100000 in
set_option maxHeartbeats 8000000 in
theorem rall_any (h : RtIn w rb A n c L) (hok : ∀ x ∈ L, okc x) (hnc : n ≤ c) (hc : c ≤ maxLen) (hA : (A = none ∧ c = 0) ∨ ∃ g off, A = some ⟨g, off, none⟩) : Calls Tryd.prog 12 #[.pointer (some ⟨rb, 0, none⟩)] w fun e w' => e = .returned (.string (strOf L)) ∧ Below w.heap.size w w' := by
  have hl := h.len
  have hle := h.le
  have c0 := h.c0
  have HS := hide (rslice_any h hok hnc hc hA 1 ((L.length : Int) + 1))
  rw [slice_all, hl] at HS
  have hw : IntKind.i64.wrap ((n : Int) + 1) = (n : Int) + 1 := IntWalk.i64_in _ (by omega)
  clear h hok hnc hc hA hl
  go_enter Tryd.func12, Tryd.ntmps12
  go_wp2_with fail
  refine Calls.mono HS.out ?_
  rintro r w3 ⟨rfl, hb3⟩
  have HB := hide hb3
  clear hb3
  go_wp2
  go_ret
  exact ⟨rfl, HB.out⟩
end
end Go.Proofs.YtghcmakhfdnimaaDoor
