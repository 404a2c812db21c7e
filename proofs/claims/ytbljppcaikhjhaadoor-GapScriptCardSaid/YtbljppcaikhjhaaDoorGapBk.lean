/- GapBack: the walk. No condition but those written. -/
import Derived.Test.YtbljppcaikhjhaaDoorGapFi
namespace Go.Proofs.YtbljppcaikhjhaaDoor
open Go.RowKit

theorem insL_ok {L : List Nat} {x : Int} {s : ByteArray} (h : insErr L x s = 0) : 1 ≤ x ∧ x ≤ (L.length : Int) + 1 ∧ validS s = true ∧ insL L x s = L.take (x - 1).toNat ++ charsOf s ++ L.drop (x - 1).toNat := by
  have h2 := h
  unfold insErr at h2
  split at h2
  · cases h2
  · split at h2
    · cases h2
    · rename_i h3 h4
      refine ⟨by omega, by omega, by simpa using h4, ?_⟩
      unfold insL
      rw [if_pos h]
theorem insL_bad {L : List Nat} {x : Int} {s : ByteArray} (h : insErr L x s ≠ 0) : insL L x s = L := by
  unfold insL
  rw [if_neg h]
/-- The string of a string's characters is the string. -/
theorem str_of_chars {s : ByteArray} (h : validS s = true) : strOf (charsOf s) = s := str_chars (charsOf_eq h)
theorem chars_of_str {L : List Nat} (h : ∀ c ∈ L, okc c) : charsOf (strOf L) = L := by
  unfold charsOf
  rw [chars_str h]
  rfl
theorem valid_str {L : List Nat} (h : ∀ c ∈ L, okc c) : validS (strOf L) = true := by
  unfold validS
  rw [chars_str h]
  rfl
/-- What was inserted reads back, and taken out leaves the text. -/
theorem back_in {L X : List Nat} {x : Int} (h1 : 1 ≤ x) (h2 : x ≤ (L.length : Int) + 1) (n : Int) (hn : n = x + ((L.take (x - 1).toNat ++ X ++ L.drop (x - 1).toNat).length : Int) - (L.length : Int)) :
    sliceR (L.take (x - 1).toNat ++ X ++ L.drop (x - 1).toNat) x n = .tuple #[.string (strOf X), .int .i64 0] ∧ delErr (L.take (x - 1).toNat ++ X ++ L.drop (x - 1).toNat) x n = 0 ∧ delL (L.take (x - 1).toNat ++ X ++ L.drop (x - 1).toNat) x n = L := by
  obtain ⟨a, rfl⟩ : ∃ a : Nat, x = (a : Int) + 1 := ⟨(x - 1).toNat, by omega⟩
  have ea : ((a : Int) + 1 - 1).toNat = a := by omega
  rw [ea] at hn ⊢
  have hl : (L.take a ++ X ++ L.drop a).length = L.length + X.length := by
    simp
    omega
  rw [hl] at hn
  have hla : (L.take a).length = a := by rw [List.length_take]; omega
  have en : n = (a : Int) + 1 + (X.length : Int) := by rw [hn]; omega
  have hs : spanB (L.take a ++ X ++ L.drop a) ((a : Int) + 1) n = true := by
    unfold spanB
    rw [hl]
    simp
    omega
  refine ⟨?_, ?_, ?_⟩
  · unfold sliceR
    rw [hs, if_pos rfl, ea, show (n - ((a : Int) + 1)).toNat = X.length by omega, List.append_assoc, List.drop_left' hla, List.take_left]
  · unfold delErr
    rw [hs, if_pos rfl]
  · unfold delL
    rw [hs, if_pos rfl, ea, show (n - 1).toNat = a + X.length by omega, List.append_assoc, List.take_left' hla, ← List.drop_drop, List.drop_left' hla, List.drop_left, List.take_append_drop]
/-- What was taken out and put in again is the text. -/
theorem back_out {L : List Nat} {x y : Int} (hs : spanB L x y = true) (hok : ∀ c ∈ L, okc c) (h6 : L.length ≤ 65536) : ∃ D, sliceR L x y = .tuple #[.string (strOf D), .int .i64 0] ∧ (strOf D).size < 9223372036854775807 ∧ delErr L x y = 0 ∧ ((delL L x y).length : Int) = (L.length : Int) - (y - x) ∧ insErr (delL L x y) x (strOf D) = 0 ∧ insL (delL L x y) x (strOf D) = L := by
  have hb : 1 ≤ x ∧ x ≤ y ∧ y ≤ (L.length : Int) + 1 := by simpa [spanB] using hs
  obtain ⟨a, rfl⟩ : ∃ a : Nat, x = (a : Int) + 1 := ⟨(x - 1).toNat, by omega⟩
  obtain ⟨d, rfl⟩ : ∃ d : Nat, y = (a : Int) + 1 + (d : Int) := ⟨(y - ((a : Int) + 1)).toNat, by omega⟩
  have ea : ((a : Int) + 1 - 1).toNat = a := by omega
  have ed : ((a : Int) + 1 + (d : Int) - 1).toNat = a + d := by omega
  have edd : ((a : Int) + 1 + (d : Int) - ((a : Int) + 1)).toNat = d := by omega
  have hD : ∀ c ∈ (L.drop a).take d, okc c := fun c hc => hok c (List.mem_of_mem_drop (List.mem_of_mem_take hc))
  have hla : (L.take a).length = a := by rw [List.length_take]; omega
  have hld : ((L.drop a).take d).length = d := by rw [List.length_take, List.length_drop]; omega
  have hdl : delL L ((a : Int) + 1) ((a : Int) + 1 + (d : Int)) = L.take a ++ L.drop (a + d) := by
    unfold delL
    rw [hs, if_pos rfl, ea, ed]
  have hll : (L.take a ++ L.drop (a + d)).length = L.length - d := by rw [List.length_append, List.length_drop, hla]; omega
  have hi : insErr (L.take a ++ L.drop (a + d)) ((a : Int) + 1) (strOf ((L.drop a).take d)) = 0 := by
    unfold insErr
    rw [hll, valid_str hD, lenS_eq, chars_of_str hD, hld, if_neg (by omega), if_neg (by simp), if_neg (by omega)]
  refine ⟨(L.drop a).take d, ?_, ?_, ?_, ?_, ?_, ?_⟩
  · unfold sliceR
    rw [hs, if_pos rfl, ea, edd]
  · have := strOf_size ((L.drop a).take d)
    omega
  · unfold delErr
    rw [hs, if_pos rfl]
  · rw [hdl, hll]
    omega
  · rw [hdl]
    exact hi
  · rw [hdl]
    unfold insL
    rw [if_pos hi, ea, chars_of_str hD, List.take_left' hla, List.drop_left' hla, List.append_assoc, ← List.drop_drop, List.take_append_drop, List.take_append_drop]
theorem ref_valid (s : ByteArray) (w0 w : World) (h : Own w0 w []) (hs : s.size ≤ 300) (hv : validS s = false) : Calls Tryd.prog 13 #[.string s] w fun e w' => e = .returned (.bool false) ∧ Own w0 w' [] := by
  refine (refvalid_any s w (by omega)).mono ?_
  rintro e w' ⟨rfl, hb⟩
  exact ⟨by rw [hv], h.below hb⟩
end Go.Proofs.YtbljppcaikhjhaaDoor
