/- The walks of Find and FindBack. No condition but those written. -/
import Derived.Test.YtbljppcaikhjhaaDoorGapC
namespace Go.Proofs.YtbljppcaikhjhaaDoor
open Go.RowKit

/-- The first place of a character in a range, or none. -/
def FirstAt (L : List Nat) (c lo hi : Int) (v : Value) : Prop :=
  (∃ p : Int, v = .tuple #[.int .i64 p, .bool true] ∧ lo ≤ p ∧ p < hi ∧ charR L p = c ∧ ∀ q, lo ≤ q → q < p → charR L q ≠ c) ∨
  (v = .tuple #[.int .i64 0, .bool false] ∧ ∀ q, lo ≤ q → q < hi → charR L q ≠ c)
/-- The last place of a character in a range, or none. -/
def LastAt (L : List Nat) (c lo hi : Int) (v : Value) : Prop :=
  (∃ p : Int, v = .tuple #[.int .i64 p, .bool true] ∧ lo ≤ p ∧ p < hi ∧ charR L p = c ∧ ∀ q, p < q → q < hi → charR L q ≠ c) ∨
  (v = .tuple #[.int .i64 0, .bool false] ∧ ∀ q, lo ≤ q → q < hi → charR L q ≠ c)
def FindRes (w : World) (P : Value → Prop) (e : Ending) (w' : World) : Prop := ∃ v, e = .returned v ∧ P v ∧ Later w w'
theorem charR_at {L : List Nat} {i c : Nat} (h : L[i]? = some c) : charR L ((i : Int) + 1) = (c : Int) := by
  have := (List.getElem?_eq_some_iff.1 h).1
  unfold charR
  rw [if_pos (by omega), show ((i : Int) + 1 - 1).toNat = i by omega, List.getD, h]
  rfl
section
variable {W w w' : World} {b : Gb} {L : List Nat} {R : Heap}
set_option maxRecDepth 100000 in
set_option maxHeartbeats 4000000 in
theorem find_any (h : TextAt W w b L R) (c lo hi : Int) : Calls Tryd.prog 24 #[.pointer (some ⟨b.tb, 0, none⟩), .int .i64 c, .int .i64 lo, .int .i64 hi] w (FindRes w (FirstAt L c (max lo 1) (min hi ((L.length : Int) + 1)))) := by
  have HS := hide (fun w' (hl : Later w w') => size_any (h.later hl))
  have HR := hide (fun w' (hl : Later w w') i c hc => rune_any (w := w') (i := i) (c := c) (h.later hl) hc)
  have hsz := h.ok.size
  have HC := hide (fun i c hc => h.int32 (i := i) (c := c) hc)
  clear h
  obtain ⟨A, hA⟩ : ∃ A, A = max lo 1 := ⟨_, rfl⟩
  obtain ⟨Z, hZ⟩ : ∃ Z, Z = min hi ((L.length : Int) + 1) := ⟨_, rfl⟩
  have hA1 : 1 ≤ A := by omega
  have hZ1 : Z ≤ (L.length : Int) + 1 := by omega
  rw [← hA, ← hZ]
  go_enter Tryd.func24, Tryd.ntmps24
  go_wp2
  rw [← hA]
  have HZ := hide hZ
  have HA := hide hA
  clear hA hZ
  go_loopw [10] (fun at' wr => ∃ p : Int, at' = .int .i64 p ∧ A ≤ p ∧ (p ≤ Z ∨ p = A) ∧ (∀ q, A ≤ q → q < p → charR L q ≠ c) ∧ Later w wr) (fun at' _ => (Z - intOf at').toNat)
  case atStart => exact ⟨A, rfl, Int.le_refl _, .inr rfl, fun q h1 h2 => by omega, Later.refl _⟩
  case round =>
    obtain ⟨p, rfl, hp1, hp2, hno, hl⟩ := hrel
    have HNO := hide hno
    have HL := hide hl
    clear hno hl
    by_cases hlt : p < Z
    · have z1 : decide (p < min hi ((L.length : Int) + 1)) = true := by rw [← HZ.out]; simpa using hlt
      obtain ⟨i, rfl⟩ : ∃ i : Nat, p = (i : Int) + 1 := ⟨(p - 1).toNat, by omega⟩
      obtain ⟨x, hx⟩ : ∃ x, L[i]? = some x := ⟨_, List.getElem?_eq_getElem (by omega)⟩
      have hx6 := HC.out i x hx
      have HX := hide (charR_at hx)
      have HXX := hide hx
      have hil : i < 65536 := by omega
      have HLT := hide hlt
      have HP1 := hide hp1
      clear hlt hx hp1 hp2
      by_cases heq : (x : Int) = c
      · have z2 : ((x : Int) == c) = true := by simpa using heq
        have HEQ := hide heq
        clear heq
        go_wp2_with fail
        refine (Calls.mono (HS.out _ HL.out)) ?_
        rintro r w2 ⟨rfl, q, rfl⟩
        have HL2 := hide (HL.out.step q)
        go_wp2_with fail
        refine (Calls.mono (HR.out _ HL2.out i x HXX.out)) ?_
        rintro r w3 ⟨rfl, q2, rfl⟩
        have HL3 := hide (HL2.out.step q2)
        go_wp2
        go_ret2
        exact ⟨_, rfl, .inl ⟨(i : Int) + 1, rfl, HP1.out, HLT.out, by rw [HX.out, HEQ.out], HNO.out⟩, HL.out.step (q + q2)⟩
      · have z2 : ((x : Int) == c) = false := by simpa using heq
        have HEQ := hide heq
        clear heq
        go_wp2_with fail
        refine (Calls.mono (HS.out _ HL.out)) ?_
        rintro r w2 ⟨rfl, q, rfl⟩
        have HL2 := hide (HL.out.step q)
        go_wp2_with fail
        refine (Calls.mono (HR.out _ HL2.out i x HXX.out)) ?_
        rintro r w3 ⟨rfl, q2, rfl⟩
        have HL3 := hide (HL2.out.step q2)
        go_wp2
        go_roundw
        case rel => exact ⟨(i : Int) + 1 + 1, rfl, by have := HP1.out; omega, .inl (by have := HLT.out; omega), fun k h1 h2 => (by
          by_cases hk : k < (i : Int) + 1
          · exact HNO.out k h1 hk
          · rw [show k = (i : Int) + 1 by omega, HX.out]; exact HEQ.out), HL.out.step (q + q2)⟩
        case measure => have := HLT.out; simp [intOf]; omega
    · have z1 : decide (p < min hi ((L.length : Int) + 1)) = false := by rw [← HZ.out]; simpa using hlt
      have HNL := hide hlt
      clear hlt
      go_wp2_with fail
      refine (Calls.mono (HS.out _ HL.out)) ?_
      rintro r w2 ⟨rfl, q, rfl⟩
      have HL2 := hide (HL.out.step q)
      go_wp2
      go_ret2
      exact ⟨_, rfl, .inr ⟨rfl, fun k h1 h2 => HNO.out k h1 (by have := HNL.out; omega)⟩, HL2.out⟩
set_option maxRecDepth 100000 in
set_option maxHeartbeats 4000000 in
theorem findback_any (h : TextAt W w b L R) (c lo hi : Int) : Calls Tryd.prog 25 #[.pointer (some ⟨b.tb, 0, none⟩), .int .i64 c, .int .i64 lo, .int .i64 hi] w (FindRes w (LastAt L c (max lo 1) (min (max hi 1) ((L.length : Int) + 1)))) := by
  have HS := hide (size_any h)
  have HR := hide (fun w' (hl : Later w w') i c hc => rune_any (w := w') (i := i) (c := c) (h.later hl) hc)
  have hsz := h.ok.size
  have HC := hide (fun i c hc => h.int32 (i := i) (c := c) hc)
  clear h
  obtain ⟨A, hA⟩ : ∃ A, A = max lo 1 := ⟨_, rfl⟩
  obtain ⟨Z, hZ⟩ : ∃ Z, Z = min (max hi 1) ((L.length : Int) + 1) := ⟨_, rfl⟩
  have hA1 : 1 ≤ A := by omega
  have hZ1 : Z ≤ (L.length : Int) + 1 := by omega
  have hZ2 : 1 ≤ Z := by omega
  rw [← hA, ← hZ]
  have HZ := hide hZ
  have HA := hide hA
  have hm1 : 1 ≤ min (max hi 1) ((L.length : Int) + 1) := by omega
  have hm2 : min (max hi 1) ((L.length : Int) + 1) ≤ 65537 := by omega
  clear hA hZ
  go_enter Tryd.func25, Tryd.ntmps25
  go_wp2_with fail
  refine (Calls.mono (HS.out)) ?_
  rintro r w2 ⟨rfl, q0, rfl⟩
  go_wp2
  rw [← HZ.out]
  clear hm1 hm2
  go_loopw [10] (fun at' wr => ∃ p : Int, at' = .int .i64 p ∧ 0 ≤ p ∧ p < Z ∧ (∀ q, p < q → q < Z → charR L q ≠ c) ∧ Later w wr) (fun at' _ => (intOf at' + 1).toNat)
  case atStart => exact ⟨Z - 1, rfl, by omega, by omega, fun q h1 h2 => by omega, (Later.refl _).step _⟩
  case round =>
    obtain ⟨p, rfl, hp1, hp2, hno, hl⟩ := hrel
    have HNO := hide hno
    have HL := hide hl
    clear hno hl
    by_cases hlt : A ≤ p
    · have z1 : decide (max lo 1 ≤ p) = true := by rw [← HA.out]; simpa using hlt
      obtain ⟨i, rfl⟩ : ∃ i : Nat, p = (i : Int) + 1 := ⟨(p - 1).toNat, by omega⟩
      obtain ⟨x, hx⟩ : ∃ x, L[i]? = some x := ⟨_, List.getElem?_eq_getElem (by omega)⟩
      have hx6 := HC.out i x hx
      have HX := hide (charR_at hx)
      have HXX := hide hx
      have hil : i < 65536 := by omega
      have HLT := hide hlt
      have HP2 := hide hp2
      clear hlt hx hp1 hp2
      by_cases heq : (x : Int) = c
      · have z2 : ((x : Int) == c) = true := by simpa using heq
        have HEQ := hide heq
        clear heq
        go_wp2_with fail
        refine (Calls.mono (HR.out _ HL.out i x HXX.out)) ?_
        rintro r w3 ⟨rfl, q2, rfl⟩
        have HL3 := hide (HL.out.step q2)
        go_wp2
        go_ret2
        exact ⟨_, rfl, .inl ⟨(i : Int) + 1, rfl, HLT.out, HP2.out, by rw [HX.out, HEQ.out], HNO.out⟩, HL3.out⟩
      · have z2 : ((x : Int) == c) = false := by simpa using heq
        have HEQ := hide heq
        clear heq
        go_wp2_with fail
        refine (Calls.mono (HR.out _ HL.out i x HXX.out)) ?_
        rintro r w3 ⟨rfl, q2, rfl⟩
        have HL3 := hide (HL.out.step q2)
        go_wp2
        go_roundw
        case rel => exact ⟨(i : Int), rfl, by omega, by have := HP2.out; omega, fun k h1 h2 => (by
          by_cases hk : (i : Int) + 1 < k
          · exact HNO.out k hk h2
          · rw [show k = (i : Int) + 1 by omega, HX.out]; exact HEQ.out), HL3.out⟩
        case measure => simp only [intOf]; omega
    · have z1 : decide (max lo 1 ≤ p) = false := by rw [← HA.out]; simpa using hlt
      have HNL := hide hlt
      clear hlt
      go_wp2
      go_ret2
      exact ⟨_, rfl, .inr ⟨rfl, fun k h1 h2 => HNO.out k (by have := HNL.out; omega) h2⟩, HL.out⟩
end
end Go.Proofs.YtbljppcaikhjhaaDoor
