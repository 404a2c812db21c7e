/- The reference: where it lies; Size, right, Char, Find, FindBack. No condition but those written. -/
import Derived.Test.YtbljppcaikhjhaaDoorGapNa
namespace Go.Proofs.YtbljppcaikhjhaaDoor
open Go.RowKit

/-- The reference's characters can be read. -/
structure RtIn (w : World) (rb : Nat) (A : Option Addr) (n c : Nat) (L : List Nat) : Prop where
  c0 : w.cell? ⟨rb, 0, none⟩ = some (.slice A n c)
  rd : Rd w (.slice A n c) 1 n (ints L)
  le : n ≤ 65536
section
variable {w : World} {rb n c : Nat} {A : Option Addr} {L : List Nat}
theorem RtIn.len (h : RtIn w rb A n c L) : L.length = n := by
  obtain ⟨_, _, _, hl, _⟩ := h.rd
  rw [ints_size] at hl
  omega
theorem rd_ints {m : Nat} (h : Rd w (.slice A m c) 1 n (ints L)) {i x : Nat} (hx : L[i]? = some x) : ∃ g off, A = some ⟨g, off, none⟩ ∧ w.cell? ⟨g, off + i, none⟩ = some (.int .i64 (x : Int)) := by
  obtain ⟨A', c', e, hl, hc⟩ := h
  injection e with e1 _ _
  have hk : i < L.length := (List.getElem?_eq_some_iff.1 hx).1
  have hn : 0 < n := by rw [ints_size] at hl; omega
  obtain ⟨b, off, e2, h2⟩ := hc hn
  exact ⟨b, off, e1.trans e2, h2 i _ (by simp [ints, hx])⟩
theorem RtIn.at_ (h : RtIn w rb A n c L) {i x : Nat} (hx : L[i]? = some x) : ∃ g off, A = some ⟨g, off, none⟩ ∧ w.cell? ⟨g, off + i, none⟩ = some (.int .i64 (x : Int)) := rd_ints h.rd hx
theorem RtIn.some_ (h : RtIn w rb A n c L) {i : Nat} (hi : i < n) : ∃ x, L[i]? = some x := ⟨_, List.getElem?_eq_getElem (by rw [h.len]; exact hi)⟩
set_option maxRecDepth 100000 in
theorem rsize_any (h : RtIn w rb A n c L) : Calls Tryd.prog 54 #[.pointer (some ⟨rb, 0, none⟩)] w fun e w' => e = .returned (.int .i64 (L.length : Int)) ∧ w = w' := by
  have hl := h.len
  have c0 := h.c0
  rw [hl]
  clear h hl
  go_enter Tryd.func54, Tryd.ntmps54
  go_wp2
  go_ret
  exact ⟨rfl, rfl⟩
set_option maxRecDepth 100000 in
set_option maxHeartbeats 4000000 in
theorem right_any (h : RtIn w rb A n c L) (a d : Int) : Calls Tryd.prog 46 #[.pointer (some ⟨rb, 0, none⟩), .int .i64 a, .int .i64 d] w fun e w' => e = .returned (.bool (spanB L a d)) ∧ w = w' := by
  have hl := h.len
  have hle := h.le
  have c0 := h.c0
  have hw : IntKind.i64.wrap ((n : Int) + 1) = (n : Int) + 1 := IntWalk.i64_in _ (by omega)
  have HE := hide (show spanB L a d = (decide (1 ≤ a) && decide (a ≤ d) && decide (d ≤ (n : Int) + 1)) by unfold spanB; rw [hl, Bool.eq_iff_iff]; simp [and_assoc])
  clear h hl
  by_cases h1 : 1 ≤ a
  · have z1 : decide (1 ≤ a) = true := by simpa using h1
    rw [z1] at HE
    clear h1
    by_cases h2 : a ≤ d
    · have z2 : decide (a ≤ d) = true := by simpa using h2
      rw [z2] at HE
      clear h2
      go_enter Tryd.func46, Tryd.ntmps46
      go_wp2
      go_ret
      exact ⟨by rw [HE.out]; rfl, rfl⟩
    · have z2 : decide (a ≤ d) = false := by simpa using h2
      rw [z2] at HE
      clear h2
      go_enter Tryd.func46, Tryd.ntmps46
      go_wp2
      go_ret
      exact ⟨by rw [HE.out]; rfl, rfl⟩
  · have z1 : decide (1 ≤ a) = false := by simpa using h1
    rw [z1] at HE
    clear h1
    go_enter Tryd.func46, Tryd.ntmps46
    go_wp2
    go_ret
    exact ⟨by rw [HE.out]; rfl, rfl⟩
set_option maxRecDepth 100000 in
set_option maxHeartbeats 4000000 in
theorem rchar_any (h : RtIn w rb A n c L) (p : Int) : Calls Tryd.prog 47 #[.pointer (some ⟨rb, 0, none⟩), .int .i64 p] w fun e w' => e = .returned (.tuple #[.int .i64 (charR L p), .bool (decide (1 ≤ p ∧ p ≤ (L.length : Int)))]) ∧ w = w' := by
  have hl := h.len
  have hle := h.le
  have c0 := h.c0
  by_cases h1 : p < 1
  · have z1 : decide (p < 1) = true := by simpa using h1
    have HE := hide (show charR L p = 0 ∧ decide (1 ≤ p ∧ p ≤ (L.length : Int)) = false from ⟨by unfold charR; rw [if_neg (by omega)], by simp; omega⟩)
    clear h h1
    go_enter Tryd.func47, Tryd.ntmps47
    go_wp2
    go_ret2
    exact ⟨by rw [HE.out.1, HE.out.2]; rfl, rfl⟩
  · have z1 : decide (p < 1) = false := by simpa using h1
    by_cases h2 : (n : Int) < p
    · have z2 : decide ((n : Int) < p) = true := by simpa using h2
      have HE := hide (show charR L p = 0 ∧ decide (1 ≤ p ∧ p ≤ (L.length : Int)) = false from ⟨by unfold charR; rw [if_neg (by omega)], by simp; omega⟩)
      clear h h1 h2 hl
      go_enter Tryd.func47, Tryd.ntmps47
      go_wp2
      go_ret2
      exact ⟨by rw [HE.out.1, HE.out.2]; rfl, rfl⟩
    · have z2 : decide ((n : Int) < p) = false := by simpa using h2
      obtain ⟨i, rfl⟩ : ∃ i : Nat, p = (i : Int) + 1 := ⟨(p - 1).toNat, by omega⟩
      obtain ⟨x, hx⟩ := h.some_ (i := i) (by omega)
      obtain ⟨g, off, rfl, hcell⟩ := h.at_ hx
      have HE := hide (show charR L ((i : Int) + 1) = (x : Int) ∧ decide (1 ≤ (i : Int) + 1 ∧ (i : Int) + 1 ≤ (L.length : Int)) = true from ⟨charR_at hx, by simp; omega⟩)
      have hw : IntKind.i64.wrap ((i : Int) + 1 - 1) = (i : Int) := by
        rw [show (i : Int) + 1 - 1 = (i : Int) by omega]
        exact IntWalk.i64_in _ (by omega)
      have hi0 : (0 : Int) ≤ (i : Int) := by omega
      have hi1 : (i : Int) < (n : Int) := by omega
      clear h h1 h2 hl hx
      go_enter Tryd.func47, Tryd.ntmps47
      go_wp2
      go_ret2
      exact ⟨by rw [HE.out.1, HE.out.2]; rfl, rfl⟩
set_option maxRecDepth 100000 in
set_option maxHeartbeats 4000000 in
theorem rfind_any (h : RtIn w rb A n c L) (x lo hi : Int) : Calls Tryd.prog 49 #[.pointer (some ⟨rb, 0, none⟩), .int .i64 x, .int .i64 lo, .int .i64 hi] w fun e w' => ∃ v, e = .returned v ∧ FirstAt L x (max lo 1) (min hi ((L.length : Int) + 1)) v ∧ w = w' := by
  have hl := h.len
  have hle := h.le
  have c0 := h.c0
  have H := hide h
  rw [hl]
  clear h hl
  obtain ⟨B, hB⟩ : ∃ B, B = max lo 1 := ⟨_, rfl⟩
  have hB1 : 1 ≤ B := by omega
  have hB2 : max 1 lo = B := by omega
  rw [← hB]
  clear hB
  go_enter Tryd.func49, Tryd.ntmps49
  go_wp2
  go_loop [10] (fun t => ∃ p : Int, t = .int .i64 p ∧ B ≤ p ∧ (p ≤ (n : Int) + 1 ∨ p = B) ∧ ∀ q, B ≤ q → q < p → charR L q ≠ x) (fun t => ((n : Int) + 1 - intOf t).toNat)
  case atStart => exact ⟨B, by simp [hB2], Int.le_refl _, .inr rfl, fun q h1 h2 => by omega⟩
  case round =>
    obtain ⟨p, rfl, hp1, hp2, hno⟩ := hrel
    have HNO := hide hno
    clear hno
    by_cases h1 : p < hi
    · have z1 : decide (p < hi) = true := by simpa using h1
      by_cases h2 : p ≤ (n : Int)
      · have z2 : decide (p ≤ (n : Int)) = true := by simpa using h2
        obtain ⟨i, rfl⟩ : ∃ i : Nat, p = (i : Int) + 1 := ⟨(p - 1).toNat, by omega⟩
        obtain ⟨y, hy⟩ := H.out.some_ (i := i) (by omega)
        obtain ⟨g, off, rfl, hcell⟩ := H.out.at_ hy
        have HY := hide (charR_at hy)
        have hw : IntKind.i64.wrap ((i : Int) + 1 - 1) = (i : Int) := by
          rw [show (i : Int) + 1 - 1 = (i : Int) by omega]
          exact IntWalk.i64_in _ (by omega)
        have hi0 : (0 : Int) ≤ (i : Int) := by omega
        have hi1 : (i : Int) < (n : Int) := by omega
        have HB := hide (And.intro hp1 (And.intro h1 h2))
        clear hp1 hp2 h1 h2 hy
        by_cases heq : (y : Int) = x
        · have z3 : ((y : Int) == x) = true := by simpa using heq
          have HEQ := hide (show charR L ((i : Int) + 1) = x by rw [HY.out, heq])
          clear heq
          go_wp2
          go_ret2
          exact ⟨_, rfl, .inl ⟨(i : Int) + 1, rfl, HB.out.1, by have := HB.out.2; omega, HEQ.out, HNO.out⟩, rfl⟩
        · have z3 : ((y : Int) == x) = false := by simpa using heq
          have HEQ := hide (show charR L ((i : Int) + 1) ≠ x by rw [HY.out]; exact heq)
          clear heq
          go_wp2
          go_round
          case rel => exact ⟨(i : Int) + 1 + 1, rfl, by have := HB.out.1; omega, .inl (by have := HB.out.2; omega), fun q k1 k2 => (by
            by_cases hk : q < (i : Int) + 1
            · exact HNO.out q k1 hk
            · rw [show q = (i : Int) + 1 by omega]; exact HEQ.out)⟩
          case measure => have := HB.out.2; simp [intOf]; omega
      · have z2 : decide (p ≤ (n : Int)) = false := by simpa using h2
        have HB := hide h2
        clear h1 h2 hp1 hp2
        go_wp2
        go_ret2
        exact ⟨_, rfl, .inr ⟨rfl, fun q k1 k2 => HNO.out q k1 (by have := HB.out; omega)⟩, rfl⟩
    · have z1 : decide (p < hi) = false := by simpa using h1
      have HB := hide h1
      clear h1 hp1 hp2
      go_wp2
      go_ret2
      exact ⟨_, rfl, .inr ⟨rfl, fun q k1 k2 => HNO.out q k1 (by have := HB.out; omega)⟩, rfl⟩
set_option maxRecDepth 100000 in
set_option maxHeartbeats 4000000 in
theorem rfindback_any (h : RtIn w rb A n c L) (x lo hi : Int) : Calls Tryd.prog 50 #[.pointer (some ⟨rb, 0, none⟩), .int .i64 x, .int .i64 lo, .int .i64 hi] w fun e w' => ∃ v, e = .returned v ∧ LastAt L x (max lo 1) (min (max hi 1) ((L.length : Int) + 1)) v ∧ w = w' := by
  have hl := h.len
  have hle := h.le
  have c0 := h.c0
  have H := hide h
  rw [hl]
  clear h hl
  obtain ⟨Z, hZ⟩ : ∃ Z, Z = min (max hi 1) ((n : Int) + 1) := ⟨_, rfl⟩
  rw [← hZ]
  have HZ := hide hZ
  clear hZ
  go_enter Tryd.func50, Tryd.ntmps50
  go_wp2
  go_loop [10] (fun t => ∃ p : Int, t = .int .i64 p ∧ 0 ≤ p ∧ p ≤ (n : Int) ∧ ∀ q, 1 ≤ q → p < q → q < Z → charR L q ≠ x) (fun t => (intOf t + 1).toNat)
  case atStart => exact ⟨(n : Int), rfl, by omega, Int.le_refl _, fun q h0 h1 h2 => by have := HZ.out; omega⟩
  case round =>
    obtain ⟨p, rfl, hp1, hp2, hno⟩ := hrel
    have HNO := hide hno
    clear hno
    by_cases h1 : 1 ≤ p
    · have z1 : decide (1 ≤ p) = true := by simpa using h1
      by_cases h2 : lo ≤ p
      · have z2 : decide (lo ≤ p) = true := by simpa using h2
        obtain ⟨i, rfl⟩ : ∃ i : Nat, p = (i : Int) + 1 := ⟨(p - 1).toNat, by omega⟩
        obtain ⟨y, hy⟩ := H.out.some_ (i := i) (by omega)
        obtain ⟨g, off, rfl, hcell⟩ := H.out.at_ hy
        have HY := hide (charR_at hy)
        have hw : IntKind.i64.wrap ((i : Int) + 1 - 1) = (i : Int) := by
          rw [show (i : Int) + 1 - 1 = (i : Int) by omega]
          exact IntWalk.i64_in _ (by omega)
        have hi0 : (0 : Int) ≤ (i : Int) := by omega
        have hi1 : (i : Int) < (n : Int) := by omega
        have HB := hide (And.intro hp2 (And.intro h1 h2))
        clear hp1 hp2 h1 h2 hy
        by_cases h3 : (i : Int) + 1 < hi
        · have z3 : decide ((i : Int) + 1 < hi) = true := by simpa using h3
          have HH := hide h3
          clear h3
          by_cases heq : (y : Int) = x
          · have z4 : ((y : Int) == x) = true := by simpa using heq
            have HEQ := hide (show charR L ((i : Int) + 1) = x by rw [HY.out, heq])
            clear heq
            go_wp2
            go_ret2
            exact ⟨_, rfl, .inl ⟨(i : Int) + 1, rfl, by have := HB.out.2.2; omega, by have := HZ.out; have := HH.out; have := HB.out.1; omega, HEQ.out, fun q k1 k2 => HNO.out q (by omega) k1 k2⟩, rfl⟩
          · have z4 : ((y : Int) == x) = false := by simpa using heq
            have HEQ := hide (show charR L ((i : Int) + 1) ≠ x by rw [HY.out]; exact heq)
            clear heq
            go_wp2
            go_round
            case rel => exact ⟨(i : Int), rfl, by omega, by have := HB.out.1; omega, fun q k0 k1 k2 => (by
              by_cases hk : (i : Int) + 1 < q
              · exact HNO.out q k0 hk k2
              · rw [show q = (i : Int) + 1 by omega]; exact HEQ.out)⟩
            case measure => simp only [intOf]; omega
        · have z3 : decide ((i : Int) + 1 < hi) = false := by simpa using h3
          have HH := hide h3
          clear h3
          go_wp2
          go_round
          case rel => exact ⟨(i : Int), rfl, by omega, by have := HB.out.1; omega, fun q k0 k1 k2 => (by
            by_cases hk : (i : Int) + 1 < q
            · exact HNO.out q k0 hk k2
            · have := HZ.out; have := HH.out; omega)⟩
          case measure => simp only [intOf]; omega
      · have z2 : decide (lo ≤ p) = false := by simpa using h2
        have HB := hide h2
        clear h1 h2 hp1 hp2
        go_wp2
        go_ret2
        exact ⟨_, rfl, .inr ⟨rfl, fun q k1 k2 => HNO.out q (by omega) (by have := HB.out; omega) k2⟩, rfl⟩
    · have z1 : decide (1 ≤ p) = false := by simpa using h1
      have HB := hide h1
      clear h1 hp1 hp2
      go_wp2
      go_ret2
      exact ⟨_, rfl, .inr ⟨rfl, fun q k1 k2 => HNO.out q (by omega) (by have := HB.out; omega) k2⟩, rfl⟩
end
end Go.Proofs.YtbljppcaikhjhaaDoor
