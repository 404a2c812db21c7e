/- The reference: where it lies; Size, right, Char, Find, FindBack. No condition but those written. -/
import Derived.Test.YtghcmakhfdnimaaDoorUba
namespace Go.Proofs.YtghcmakhfdnimaaDoor
open Go.RowKit

/-- The reference's characters can be read. -/
structure RtIn (w : World) (rb : Nat) (A : Option Addr) (n c : Nat) (L : List Nat) : Prop where
  c0 : w.cell? ⟨rb, 0, none⟩ = some (.slice A n c)
  rd : Rd w (.slice A n c) 1 n (ints L)
  le : n ≤ 65536
section
variable {w : World} {rb n c : Nat} {A : Option Addr} {L : List Nat}
theorem RtIn.len (h : RtIn w rb A n c L) : L.length = n := by
  obtain ⟨_, _, _, hl, _⟩ := h.rd
  rw [ints_size] at hl
  omega
theorem rd_ints {m : Nat} (h : Rd w (.slice A m c) 1 n (ints L)) {i x : Nat} (hx : L[i]? = some x) : ∃ g off, A = some ⟨g, off, none⟩ ∧ w.cell? ⟨g, off + i, none⟩ = some (.int .i64 (x : Int)) := by
  obtain ⟨A', c', e, hl, hc⟩ := h
  injection e with e1 _ _
  have hk : i < L.length := (List.getElem?_eq_some_iff.1 hx).1
  have hn : 0 < n := by rw [ints_size] at hl; omega
  obtain ⟨b, off, e2, h2⟩ := hc hn
  exact ⟨b, off, e1.trans e2, h2 i _ (by simp [ints, hx])⟩
theorem RtIn.at_ (h : RtIn w rb A n c L) {i x : Nat} (hx : L[i]? = some x) : ∃ g off, A = some ⟨g, off, none⟩ ∧ w.cell? ⟨g, off + i, none⟩ = some (.int .i64 (x : Int)) := rd_ints h.rd hx
theorem RtIn.some_ (h : RtIn w rb A n c L) {i : Nat} (hi : i < n) : ∃ x, L[i]? = some x := ⟨_, List.getElem?_eq_getElem (by rw [h.len]; exact hi)⟩
set_option maxRecDepth 100000 in
theorem rsize_any (h : RtIn w rb A n c L) : Calls Tryd.prog 15 #[.pointer (some ⟨rb, 0, none⟩)] w fun e w' => e = .returned (.int .i64 (L.length : Int)) ∧ w = w' := by
  have hl := h.len
  have c0 := h.c0
  rw [hl]
  clear h hl
  go_enter Tryd.func15, Tryd.ntmps15
  go_wp2
  go_ret
  exact ⟨rfl, rfl⟩
set_option maxRecDepth 100000 in
set_option maxHeartbeats 4000000 in
theorem right_any (h : RtIn w rb A n c L) (a d : Int) : Calls Tryd.prog 57 #[.pointer (some ⟨rb, 0, none⟩), .int .i64 a, .int .i64 d] w fun e w' => e = .returned (.bool (spanB L a d)) ∧ w = w' := by
  have hl := h.len
  have hle := h.le
  have c0 := h.c0
  have hw : IntKind.i64.wrap ((n : Int) + 1) = (n : Int) + 1 := IntWalk.i64_in _ (by omega)
  have HE := hide (show spanB L a d = (decide (1 ≤ a) && decide (a ≤ d) && decide (d ≤ (n : Int) + 1)) by unfold spanB; rw [hl, Bool.eq_iff_iff]; simp [and_assoc])
  clear h hl
  by_cases h1 : 1 ≤ a
  · have z1 : decide (1 ≤ a) = true := by simpa using h1
    rw [z1] at HE
    clear h1
    by_cases h2 : a ≤ d
    · have z2 : decide (a ≤ d) = true := by simpa using h2
      rw [z2] at HE
      clear h2
      go_enter Tryd.func57, Tryd.ntmps57
      go_wp2
      go_ret
      exact ⟨by rw [HE.out]; rfl, rfl⟩
    · have z2 : decide (a ≤ d) = false := by simpa using h2
      rw [z2] at HE
      clear h2
      go_enter Tryd.func57, Tryd.ntmps57
      go_wp2
      go_ret
      exact ⟨by rw [HE.out]; rfl, rfl⟩
  · have z1 : decide (1 ≤ a) = false := by simpa using h1
    rw [z1] at HE
    clear h1
    go_enter Tryd.func57, Tryd.ntmps57
    go_wp2
    go_ret
    exact ⟨by rw [HE.out]; rfl, rfl⟩
end
end Go.Proofs.YtghcmakhfdnimaaDoor
