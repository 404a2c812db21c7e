/- The walks of All, Line, Find and FindBack. No condition but those written. -/
import Derived.Test.YtbljppcaikhjhaaDoorGapB
namespace Go.Proofs.YtbljppcaikhjhaaDoor
open Go.RowKit

/-- Some draws later. -/
def Later (w w' : World) : Prop := ∃ q, w' = w.drewN q
theorem Later.refl (w : World) : Later w w := ⟨0, rfl⟩
theorem Later.step {w w1 : World} (h : Later w w1) (q : Nat) : Later w (w1.drewN q) := by
  obtain ⟨k, rfl⟩ := h
  exact ⟨k + q, drewN_add _ _ _⟩
theorem Later.trans {a c d : World} (h : Later a c) (k : Later c d) : Later a d := by
  obtain ⟨q, rfl⟩ := k
  exact h.step q
section
variable {W w w' : World} {b : Gb} {L : List Nat} {R : Heap}
theorem TextAt.later (h : TextAt W w b L R) (hq : Later w w') : TextAt W w' b L R := h.drewS hq
set_option maxRecDepth 100000 in
set_option maxHeartbeats 4000000 in
theorem all_any (h : TextAt W w b L R) : Calls Tryd.prog 20 #[.pointer (some ⟨b.tb, 0, none⟩)] w (DrawsTo w (.string (strOf L))) := by
  have HS := hide (size_any h)
  have HL := hide (fun q => slice_any (h.drewN q) 1 ((L.length : Int) + 1))
  have hr : sliceR L 1 ((L.length : Int) + 1) = .tuple #[.string (strOf L), .int .i64 0] := by
    unfold sliceR
    rw [show spanB L 1 ((L.length : Int) + 1) = true by unfold spanB; simp; omega, if_pos rfl, show ((1 : Int) - 1).toNat = 0 by rfl, List.drop_zero, List.take_of_length_le (by omega)]
  rw [hr] at HL
  have hsz := h.ok.size
  clear h hr
  go_enter Tryd.func20, Tryd.ntmps20
  go_wp2_with fail
  refine (Calls.mono (HS.out)) ?_
  rintro r w2 ⟨rfl, q, rfl⟩
  go_wp2_with fail
  refine (Calls.mono (HL.out q)) ?_
  rintro r w3 ⟨rfl, q2, rfl⟩
  go_wp2
  go_ret
  exact ⟨rfl, q + q2, rfl⟩
/-- Where line n begins and ends. -/
def lineA (L : List Nat) (n : Nat) : Nat := if n = 1 then 1 else (feeds 1 L).getD (n - 2) 0 + 1
def lineZ (L : List Nat) (n : Nat) : Nat := (feeds 1 L).getD (n - 1) (L.length + 1)
def lineR (L : List Nat) (n : Int) : Value := if 1 ≤ n ∧ n ≤ (linesN L : Int) then .tuple #[.int .i64 (lineA L n.toNat : Int), .int .i64 (lineZ L n.toNat : Int), .bool true] else .tuple #[.int .i64 0, .int .i64 0, .bool false]
set_option maxRecDepth 100000 in
set_option maxHeartbeats 4000000 in
theorem line_any (h : TextAt W w b L R) (n : Int) : Calls Tryd.prog 28 #[.pointer (some ⟨b.tb, 0, none⟩), .int .i64 n] w (DrawsTo w (lineR L n)) := by
  have HN := hide (lines_any h)
  have HS := hide (size_any h)
  have hsz := h.ok.size
  have hln := linesN_le hsz
  by_cases h1 : n < 1
  · have z1 : decide (n < 1) = true := by simpa using h1
    have HE := hide (show lineR L n = .tuple #[.int .i64 0, .int .i64 0, .bool false] by unfold lineR; rw [if_neg (by omega)])
    clear h h1
    go_enter Tryd.func28, Tryd.ntmps28
    go_wp2
    go_ret3
    exact ⟨by rw [HE.out]; rfl, 0, rfl⟩
  · have z1 : decide (n < 1) = false := by simpa using h1
    by_cases h2 : (linesN L : Int) < n
    · have z2 : decide ((linesN L : Int) < n) = true := by simpa using h2
      have HE := hide (show lineR L n = .tuple #[.int .i64 0, .int .i64 0, .bool false] by unfold lineR; rw [if_neg (by omega)])
      clear h h1 h2
      go_enter Tryd.func28, Tryd.ntmps28
      go_wp2_with fail
      refine (Calls.mono (HN.out)) ?_
      rintro r w2 ⟨rfl, rfl⟩
      go_wp2
      go_ret3
      exact ⟨by rw [HE.out]; rfl, 0, rfl⟩
    · have z2 : decide ((linesN L : Int) < n) = false := by simpa using h2
      obtain ⟨k, rfl⟩ : ∃ k : Nat, n = (k : Int) := ⟨n.toNat, by omega⟩
      have HE := hide (show lineR L (k : Int) = .tuple #[.int .i64 (lineA L k : Int), .int .i64 (lineZ L k : Int), .bool true] by unfold lineR; rw [if_pos (by omega), Int.toNat_natCast])
      obtain ⟨F, hF⟩ : ∃ F, F = feeds 1 L := ⟨_, rfl⟩
      have hbF : b.g.F = F := by rw [h.ok.feed, hF]
      have hfl : F.length + 1 = linesN L := by rw [hF]; rfl
      obtain ⟨A, cc, hv, _⟩ := h.gap.slF.form
      have c3 := h.gap.c3
      rw [hv, hbF] at c3
      have hF1 := h.gap.slF
      rw [hbF] at hF1
      unfold lineA lineZ at HE
      rw [← hF] at HE
      have hmem : ∀ x ∈ F, x ≤ 65536 := fun x hx => by have := feeds_mem 1 L x (by rw [← hF]; exact hx); omega
      have hcell : ∀ (i x : Nat), F[i]? = some x → ∃ g off, A = some ⟨g, off, none⟩ ∧ w.cell? ⟨g, off + i, none⟩ = some (.int .i64 (x : Int)) := fun i x hx => by
        have hi := (List.getElem?_eq_some_iff.1 hx).1
        obtain ⟨g, off, c', hv', _, _, hc', _, _⟩ := hF1.at_ (by omega)
        rw [hv, hbF] at hv'
        injection hv' with e1 _ _
        exact ⟨g, off, e1, hc' i _ (by simp [ints, hx])⟩
      have hkl : k ≤ F.length + 1 := by omega
      have hk0 : 1 ≤ k := by omega
      obtain ⟨m, hm⟩ : ∃ m, m = F.length := ⟨_, rfl⟩
      have hm6 : m ≤ 65536 := by omega
      have hfl2 : (linesN L : Int) = (F.length : Int) + 1 := by omega
      clear h h1 h2 hv hF1 hbF hF hfl
      by_cases hk1 : k = 1
      · subst hk1
        by_cases hm0 : m = 0
        · have hF0 : F = [] := List.eq_nil_of_length_eq_zero (by omega)
          subst hF0
          clear hcell hk0 hfl2
          go_enter Tryd.func28, Tryd.ntmps28
          go_wp2_with fail
          refine (Calls.mono (HN.out)) ?_
          rintro r w2 ⟨rfl, rfl⟩
          go_wp2_with fail
          refine (Calls.mono (HS.out)) ?_
          rintro r w2 ⟨rfl, q, rfl⟩
          go_wp2
          go_ret3
          exact ⟨by rw [HE.out]; rfl, q, rfl⟩
        · obtain ⟨x, hx⟩ : ∃ x, F[0]? = some x := ⟨_, List.getElem?_eq_getElem (by omega)⟩
          obtain ⟨g, off, rfl, hc⟩ := hcell 0 x hx
          rw [Nat.add_zero] at hc
          have HX := hide (show F.getD (1 - 1) (L.length + 1) = x by rw [List.getD, show 1 - 1 = 0 from rfl, hx]; rfl)
          have hx6 := hmem x (List.mem_of_getElem? hx)
          rw [← hm] at c3
          have y1 : decide ((1 : Int) ≤ (m : Int)) = true := by simp; omega
          have y2 : decide (1 ≤ m) = true := by simp; omega
          have hi1 : (0 : Int) < (m : Int) := by omega
          clear hcell hx hm hmem hkl hk0 hfl2
          go_enter Tryd.func28, Tryd.ntmps28
          go_wp2_with fail
          refine (Calls.mono (HN.out)) ?_
          rintro r w2 ⟨rfl, rfl⟩
          go_wp2_with fail
          refine (Calls.mono (HS.out)) ?_
          rintro r w2 ⟨rfl, q, rfl⟩
          go_wp2
          go_ret3
          exact ⟨by rw [HE.out, HX.out]; rfl, q, rfl⟩
      · obtain ⟨j, rfl⟩ : ∃ j, k = j + 2 := ⟨k - 2, by omega⟩
        obtain ⟨x, hx⟩ : ∃ x, F[j]? = some x := ⟨_, List.getElem?_eq_getElem (by omega)⟩
        obtain ⟨g, off, rfl, hc⟩ := hcell j x hx
        have HX := hide (show F.getD (j + 2 - 2) 0 = x by rw [List.getD, show j + 2 - 2 = j from rfl, hx]; rfl)
        have hx6 := hmem x (List.mem_of_getElem? hx)
        have y0 : decide ((1 : Int) < (j : Int) + 2) = true := by simp; omega
        have z1 : decide ((j : Int) + 2 < 1) = false := by simp; omega
        have z2 : decide ((linesN L : Int) < (j : Int) + 2) = false := by simp; omega
        have hj0 : (0 : Int) ≤ (j : Int) := by omega
        have hj1 : (j : Int) < (m : Int) := by omega
        have hj3 : j < m := by omega
        by_cases hlast : j + 2 ≤ m
        · obtain ⟨y, hy⟩ : ∃ y, F[j + 1]? = some y := ⟨_, List.getElem?_eq_getElem (by omega)⟩
          obtain ⟨g', off', he, hc'⟩ := hcell (j + 1) y hy
          injection he with he
          injection he with e1 e2
          subst e1 e2
          have HY := hide (show F.getD (j + 2 - 1) (L.length + 1) = y by rw [List.getD, show j + 2 - 1 = j + 1 from rfl, hy]; rfl)
          have y1 : decide ((j : Int) + 2 ≤ (m : Int)) = true := by simp; omega
          have hj2 : (j : Int) + 1 < (m : Int) := by omega
          have hj4 : (0 : Int) ≤ (j : Int) + 1 := by omega
          rw [← hm] at c3
          clear hcell hx hm hmem hkl hy hk1 hk0 hfl2
          go_enter Tryd.func28, Tryd.ntmps28
          go_wp2_with fail
          refine (Calls.mono (HN.out)) ?_
          rintro r w2 ⟨rfl, rfl⟩
          go_wp2_with fail
          refine (Calls.mono (HS.out)) ?_
          rintro r w2 ⟨rfl, q, rfl⟩
          go_wp2
          go_ret3
          exact ⟨by rw [HE.out, if_neg (by omega), HX.out, HY.out]; rfl, q, rfl⟩
        · have HY := hide (show F.getD (j + 2 - 1) (L.length + 1) = L.length + 1 by rw [List.getD, List.getElem?_eq_none (by omega)]; rfl)
          have y1 : decide ((j : Int) + 2 ≤ (m : Int)) = false := by simp; omega
          have y2 : decide (j + 2 ≤ m) = false := by simp; omega
          rw [← hm] at c3
          clear hcell hx hm hmem hkl hk1 hk0 hfl2
          go_enter Tryd.func28, Tryd.ntmps28
          go_wp2_with fail
          refine (Calls.mono (HN.out)) ?_
          rintro r w2 ⟨rfl, rfl⟩
          go_wp2_with fail
          refine (Calls.mono (HS.out)) ?_
          rintro r w2 ⟨rfl, q, rfl⟩
          go_wp2
          go_ret3
          exact ⟨by rw [HE.out, if_neg (by omega), HX.out, HY.out]; rfl, q, rfl⟩
end
end Go.Proofs.YtbljppcaikhjhaaDoor
