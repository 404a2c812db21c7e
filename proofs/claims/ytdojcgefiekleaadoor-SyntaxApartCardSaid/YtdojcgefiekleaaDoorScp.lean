/- Words over and over: plain laws. No condition but those written. -/
import Derived.Test.YtdojcgefiekleaaDoorScn
namespace Go.Proofs.YtdojcgefiekleaaDoor
open Go.RowKit

section
variable {T : Tb} {L : List Nat} {i : Nat}
theorem words_more1 {st m : Int} {x : Nat} {o : Bool} (h : st = 1 ∨ st = -1) (hm : 0 < m * st) (h1 : words T L st i = (x, o)) : words T L m i = if o then words T L (m - st) x else (x, false) := by
  rcases h with rfl | rfl
  · have h2 : wordsF T L 1 i = (x, o) := h1
    unfold words
    rw [if_neg (show ¬ m < 0 by omega), if_neg (show ¬ m - 1 < 0 by omega), show m.toNat = (m - 1).toNat + 1 by omega, wordsF_more, h2]
    cases o <;> rfl
  · have h2 : wordsB T L 1 i = (x, o) := h1
    have e : words T L m i = wordsB T L ((-(m + 1)).toNat + 1) i := by
      unfold words
      rw [if_pos (by omega), show (-m).toNat = (-(m + 1)).toNat + 1 by omega]
    rw [e, wordsB_more, h2]
    cases o
    · rfl
    · simp only [if_true]
      unfold words
      by_cases h3 : m - -1 < 0
      · rw [if_pos h3, show (-(m - -1)).toNat = (-(m + 1)).toNat by omega]
      · rw [if_neg h3, show (-(m + 1)).toNat = 0 by omega, show (m - -1).toNat = 0 by omega]
        rfl
theorem words_zero : words T L 0 i = (i, true) := rfl
/-- What a move over one word passes. -/
theorem word1_all {st : Int} {x : Nat} {o : Bool} (h : st = 1 ∨ st = -1) (hi : i ≤ L.length) (h1 : words T L st i = (x, o)) : x ≤ L.length ∧ (st = 1 → i ≤ x) ∧ (st = -1 → x ≤ i) ∧
    (o = false → (runs T L (max i x - min i x) (min i x) (0, false)).1 = 0 ∧ (x = 0 ∨ x = L.length)) ∧
    (o = true → (runs T L (max i x - min i x) (min i x) (0, false)).1 = 1 ∧ (st = 1 → 0 < x ∧ T.at_ L (x - 1) = 1 ∧ (x < L.length → T.at_ L x ≠ 1)) ∧ (st = -1 → x < L.length ∧ T.at_ L x = 1 ∧ (0 < x → T.at_ L (x - 1) ≠ 1))) := by
  rcases h with rfl | rfl
  · have h2 := word1_F (T := T) hi (show wordsF T L 1 i = (x, o) from h1)
    rw [Nat.max_eq_right h2.1, Nat.min_eq_left h2.1]
    exact ⟨h2.2.1, fun _ => h2.1, fun h => absurd h (by decide), fun h => ⟨(h2.2.2.1 h).1, .inr (h2.2.2.1 h).2⟩, fun h => ⟨(h2.2.2.2 h).1, fun _ => (h2.2.2.2 h).2, fun h => absurd h (by decide)⟩⟩
  · have h2 := word1_B (T := T) hi (show wordsB T L 1 i = (x, o) from h1)
    rw [Nat.max_eq_left h2.1, Nat.min_eq_right h2.1]
    exact ⟨by omega, fun h => absurd h (by decide), fun _ => h2.1, fun h => ⟨(h2.2.1 h).1, .inl (h2.2.1 h).2⟩, fun h => ⟨(h2.2.2 h).1, fun h => absurd h (by decide), fun _ => (h2.2.2 h).2⟩⟩
theorem runs_snoc {a q : Nat} {s : Nat × Bool} {c : Nat} {b : Bool} (h : runs T L q a s = (c, b)) : runs T L (q + 1) a s = (if T.at_ L (a + q) = 1 ∧ b = false then c + 1 else c, decide (T.at_ L (a + q) = 1)) := by
  rw [runs_add, h]
  rfl
end
/-- The table and the reference's list of the characters. -/
structure NSt (w0 w : World) (p : TL) (T : Tb) (v : Value) (L : List Nat) : Prop where
  bel : Below w0.heap.size w0 w
  scan : Scan w p T v L
theorem NSt.below {w0 w w' : World} {p : TL} {T : Tb} {v : Value} {L : List Nat} (h : NSt w0 w p T v L) (hb : Below w.heap.size w w') : NSt w0 w' p T v L := ⟨h.bel.trans (hb.mono h.bel.size), h.scan.below hb⟩
/-- What the reference's List answers, parted. -/
theorem rl_none {s : ByteArray} {w : World} (hs : s.size * 8 ≤ 140737488355328) (hc : charsL s.data.toList = none) : Calls Tryd.prog 12 #[.string s] w fun e w' => e = .returned (.tuple #[.slice none 0 0, .int .i64 5]) ∧ Below w.heap.size w w' := by
  refine (list_any s w hs).mono ?_
  rintro e w' ⟨hb, hm⟩
  rw [hc] at hm
  exact ⟨hm, hb⟩
theorem rl_some {s : ByteArray} {w : World} (hs : s.size * 8 ≤ 140737488355328) {L : List Nat} (hc : charsL s.data.toList = some L) : Calls Tryd.prog 12 #[.string s] w fun e w' => ∃ A c, e = .returned (.tuple #[.slice A L.length c, .int .i64 0]) ∧ Below w.heap.size w w' ∧ Rd w' (.slice A L.length c) 1 L.length (ints L) := by
  refine (list_any s w hs).mono ?_
  rintro e w' ⟨hb, hm⟩
  rw [hc] at hm
  obtain ⟨v, he, hs, _⟩ := hm
  obtain ⟨A, c, rfl, _⟩ := hs.form
  exact ⟨A, c, he, hb, hs.rd⟩
/-- The class of a character of the list, by its index. -/
theorem NSt.class_ {w0 w : World} {p : TL} {T : Tb} {v : Value} {L : List Nat} (h : NSt w0 w p T v L) (j : Nat) (c : Int) (hc : c = ((L.getD j 0 : Nat) : Int)) : Calls Tryd.prog 16 #[.pointer (some ⟨p.t, 0, none⟩), .int .i64 c] w fun e w' => e = .returned (.int .i64 (T.at_ L j)) ∧ Below w.heap.size w w' := by
  subst hc
  exact class_any h.scan.tab _
end Go.Proofs.YtdojcgefiekleaaDoor
