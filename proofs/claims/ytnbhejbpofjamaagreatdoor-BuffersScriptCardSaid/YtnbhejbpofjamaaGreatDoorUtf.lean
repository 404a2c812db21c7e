/- Plain lemmas on the characters of a string: what the reference's list of characters is, and that it agrees with the decoder of the model. No condition. -/
import Derived.Test.YtnbhejbpofjamaaGreatDoorBase
import Derived.Lib.ValidLaws
import Derived.Lib.TrimUEq
import Derived.Lib.RuneCount
namespace Go.Proofs.YtnbhejbpofjamaaGreatDoor
open Go.RowKit

/-- The character at the head of n bytes that begin b0 b1 b2 b3, and its length; (0, 0): there is none. -/
def pointN (n b0 b1 b2 b3 : Nat) : Nat × Nat :=
  if b0 < 128 then (b0, 1)
  else if 194 ≤ b0 ∧ b0 < 224 ∧ (1 < n ∧ 128 ≤ b1 ∧ b1 < 192) then ((b0 - 192) * 64 + b1 - 128, 2)
  else if 224 ≤ b0 ∧ b0 < 240 ∧ (1 < n ∧ 128 ≤ b1 ∧ b1 < 192) ∧ (2 < n ∧ 128 ≤ b2 ∧ b2 < 192) then
    (if 2048 ≤ (b0 - 224) * 4096 + (b1 - 128) * 64 + (b2 - 128) ∧ ((b0 - 224) * 4096 + (b1 - 128) * 64 + (b2 - 128) < 55296 ∨ 57343 < (b0 - 224) * 4096 + (b1 - 128) * 64 + (b2 - 128)) then ((b0 - 224) * 4096 + (b1 - 128) * 64 + (b2 - 128), 3) else (0, 0))
  else if 240 ≤ b0 ∧ b0 < 245 ∧ (1 < n ∧ 128 ≤ b1 ∧ b1 < 192) ∧ (2 < n ∧ 128 ≤ b2 ∧ b2 < 192) ∧ (3 < n ∧ 128 ≤ b3 ∧ b3 < 192) then
    (if 65536 ≤ (b0 - 240) * 262144 + (b1 - 128) * 4096 + (b2 - 128) * 64 + (b3 - 128) ∧ (b0 - 240) * 262144 + (b1 - 128) * 4096 + (b2 - 128) * 64 + (b3 - 128) ≤ 1114111 then ((b0 - 240) * 262144 + (b1 - 128) * 4096 + (b2 - 128) * 64 + (b3 - 128), 4) else (0, 0))
  else (0, 0)

set_option maxHeartbeats 4000000 in
theorem pointN_eq (n b0 b1 b2 b3 : Nat) (h0 : b0 < 256) (h1 : b1 < 256) (h2 : b2 < 256) (h3 : b3 < 256) :
    pointN n b0 b1 b2 b3 = if (Lib.decodeN n b0 b1 b2 b3).1 = 65533 ∧ (Lib.decodeN n b0 b1 b2 b3).2 = 1 then (0, 0) else Lib.decodeN n b0 b1 b2 b3 := by
  have d1 : b1 / 64 = 2 ↔ 128 ≤ b1 ∧ b1 < 192 := by omega
  have d2 : b2 / 64 = 2 ↔ 128 ≤ b2 ∧ b2 < 192 := by omega
  have d3 : b3 / 64 = 2 ↔ 128 ≤ b3 ∧ b3 < 192 := by omega
  by_cases c0 : b0 < 128
  · have : ¬ b0 = 65533 := by omega
    simp [pointN, Lib.decodeN, c0, this]
  by_cases c2 : 192 ≤ b0 ∧ b0 < 224
  · have e1 : b0 / 32 = 6 := by omega
    have e2 : ¬ (224 ≤ b0) := by omega
    have e3 : ¬ (240 ≤ b0) := by omega
    have e4 : ¬ b0 / 16 = 14 := by omega
    have e5 : ¬ b0 / 8 = 30 := by omega
    by_cases t1 : 1 < n ∧ 128 ≤ b1 ∧ b1 < 192
    · by_cases c : 194 ≤ b0
      · have k1 : b0 % 32 * 64 + b1 % 64 = (b0 - 192) * 64 + b1 - 128 := by omega
        have k2 : 128 ≤ (b0 - 192) * 64 + b1 - 128 := by omega
        simp [pointN, Lib.decodeN, c0, c, c2.2, t1, e1, d1, k1, k2]
      · have k2 : ¬ (128 ≤ b0 % 32 * 64 + b1 % 64) := by omega
        simp [pointN, Lib.decodeN, c0, c, t1, e1, e2, e3, d1, k2]
    · simp only [pointN, Lib.decodeN, c0, e1, e2, e3, e4, e5, d1, t1, if_false, false_and, and_false]
      simp
  by_cases c3 : 224 ≤ b0 ∧ b0 < 240
  · have e1 : ¬ b0 / 32 = 6 := by omega
    have e2 : ¬ (b0 < 224) := by omega
    have e3 : ¬ (240 ≤ b0) := by omega
    have e4 : b0 / 16 = 14 := by omega
    have e5 : ¬ b0 / 8 = 30 := by omega
    by_cases t : (1 < n ∧ 128 ≤ b1 ∧ b1 < 192) ∧ (2 < n ∧ 128 ≤ b2 ∧ b2 < 192)
    · have k1 : b0 % 16 * 4096 + b1 % 64 * 64 + b2 % 64 = (b0 - 224) * 4096 + (b1 - 128) * 64 + (b2 - 128) := by omega
      have k2 : (b0 - 224) * 4096 + (b1 - 128) * 64 + (b2 - 128) ≤ 65535 := by omega
      simp only [pointN, Lib.decodeN, c0, e1, e2, e3, e4, e5, d1, d2, t, c3, k1, if_false, if_true, false_and, and_false, true_and, and_true]
      generalize (b0 - 224) * 4096 + (b1 - 128) * 64 + (b2 - 128) = c at k2
      by_cases x : 2048 ≤ c ∧ (c < 55296 ∨ 57343 < c)
      · have y : c ≥ 2048 ∧ (c < 55296 ∨ 57344 ≤ c ∧ c ≤ 1114111) := by omega
        rw [if_pos x, if_pos y]
        simp
      · have y : ¬ (c ≥ 2048 ∧ (c < 55296 ∨ 57344 ≤ c ∧ c ≤ 1114111)) := by omega
        rw [if_neg x, if_neg y]
        simp
    · simp only [pointN, Lib.decodeN, c0, e1, e2, e3, e4, e5, d1, d2, t, c3, if_false, false_and, and_false]
      simp
  by_cases c4 : 240 ≤ b0 ∧ b0 < 245
  · have e1 : ¬ b0 / 32 = 6 := by omega
    have e2 : ¬ (b0 < 224) := by omega
    have e3 : ¬ (b0 < 240) := by omega
    have e4 : ¬ b0 / 16 = 14 := by omega
    have e5 : b0 / 8 = 30 := by omega
    by_cases t : (1 < n ∧ 128 ≤ b1 ∧ b1 < 192) ∧ (2 < n ∧ 128 ≤ b2 ∧ b2 < 192) ∧ (3 < n ∧ 128 ≤ b3 ∧ b3 < 192)
    · have k1 : b0 % 8 * 262144 + b1 % 64 * 4096 + b2 % 64 * 64 + b3 % 64 = (b0 - 240) * 262144 + (b1 - 128) * 4096 + (b2 - 128) * 64 + (b3 - 128) := by omega
      simp only [pointN, Lib.decodeN, c0, e1, e2, e3, e4, e5, d1, d2, d3, t, c4, k1, if_false, if_true, and_false, and_true]
      generalize (b0 - 240) * 262144 + (b1 - 128) * 4096 + (b2 - 128) * 64 + (b3 - 128) = c
      by_cases x : 65536 ≤ c ∧ c ≤ 1114111
      · have y : c ≥ 65536 ∧ (c < 55296 ∨ 57344 ≤ c ∧ c ≤ 1114111) := by omega
        rw [if_pos x, if_pos y]
        simp
      · have y : ¬ (c ≥ 65536 ∧ (c < 55296 ∨ 57344 ≤ c ∧ c ≤ 1114111)) := by omega
        rw [if_neg x, if_neg y]
        simp
    · simp only [pointN, Lib.decodeN, c0, e1, e2, e3, e4, e5, d1, d2, d3, t, c4, if_false, false_and, and_false]
      simp
  · have e1 : ¬ b0 / 32 = 6 := by omega
    have e2 : ¬ (194 ≤ b0 ∧ b0 < 224 ∧ (1 < n ∧ 128 ≤ b1 ∧ b1 < 192)) := by omega
    have e3 : ¬ (224 ≤ b0 ∧ b0 < 240 ∧ (1 < n ∧ 128 ≤ b1 ∧ b1 < 192) ∧ (2 < n ∧ 128 ≤ b2 ∧ b2 < 192)) := by omega
    have e4 : ¬ (240 ≤ b0 ∧ b0 < 245 ∧ (1 < n ∧ 128 ≤ b1 ∧ b1 < 192) ∧ (2 < n ∧ 128 ≤ b2 ∧ b2 < 192) ∧ (3 < n ∧ 128 ≤ b3 ∧ b3 < 192)) := by omega
    have e5 : ¬ b0 / 16 = 14 := by omega
    simp only [pointN, if_neg c0, if_neg e2, if_neg e3, if_neg e4]
    by_cases e6 : b0 / 8 = 30 ∧ (1 < n ∧ b1 / 64 = 2) ∧ (2 < n ∧ b2 / 64 = 2) ∧ (3 < n ∧ b3 / 64 = 2)
    · have y : ¬ (b0 % 8 * 262144 + b1 % 64 * 4096 + b2 % 64 * 64 + b3 % 64 ≥ 65536 ∧ (b0 % 8 * 262144 + b1 % 64 * 4096 + b2 % 64 * 64 + b3 % 64 < 55296 ∨ (57344 ≤ b0 % 8 * 262144 + b1 % 64 * 4096 + b2 % 64 * 64 + b3 % 64 ∧ b0 % 8 * 262144 + b1 % 64 * 4096 + b2 % 64 * 64 + b3 % 64 ≤ 1114111))) := by omega
      simp only [Lib.decodeN, if_neg c0, e1, e5, false_and, if_false, if_pos e6, if_neg y]
      simp
    · simp only [Lib.decodeN, if_neg c0, e1, e5, false_and, if_false, if_neg e6]
      simp

/-- The character at the head of a list of bytes, as the reference has it. -/
def pointL (l : List UInt8) : Nat × Nat := pointN l.length (l.getD 0 0).toNat (l.getD 1 0).toNat (l.getD 2 0).toNat (l.getD 3 0).toNat
theorem pointL_eq (l : List UInt8) : pointL l = if (Lib.decodeL l).1 = 65533 ∧ (Lib.decodeL l).2 = 1 then (0, 0) else Lib.decodeL l := by
  rw [Lib.decodeL_N]
  exact pointN_eq _ _ _ _ _ (UInt8.toNat_lt _) (UInt8.toNat_lt _) (UInt8.toNat_lt _) (UInt8.toNat_lt _)
theorem pointL_zero (l : List UInt8) : (pointL l).2 = 0 ↔ ((Lib.decodeL l).1 = 65533 ∧ (Lib.decodeL l).2 = 1) := by
  rw [pointL_eq]
  have := Lib.decodeL_width l
  split
  · rename_i h
    simp [h]
  · rename_i h
    constructor
    · intro e
      omega
    · intro e
      exact absurd e h
theorem pointL_rune (l : List UInt8) : (pointL l).1 ≤ 1114111 := by
  rw [pointL_eq]
  split
  · simp
  · exact Lib.decodeL_rune l
theorem pointN_width (n b0 b1 b2 b3 : Nat) (hn : 0 < n) : (pointN n b0 b1 b2 b3).2 ≤ n ∧ (pointN n b0 b1 b2 b3).2 ≤ 4 := by
  unfold pointN
  repeat' split
  all_goals (simp only; omega)
theorem pointL_width (l : List UInt8) (h : l ≠ []) : (pointL l).2 ≤ l.length ∧ (pointL l).2 ≤ 4 :=
  pointN_width _ _ _ _ _ (List.length_pos_iff.2 h)

/-- The characters of bytes, or none where they are not valid; the first argument is at least the number of bytes. -/
def listU : Nat → List UInt8 → Option (List Nat)
  | 0, l => if l = [] then some [] else none
  | f + 1, l => if l = [] then some [] else if (pointL l).2 = 0 then none else (listU f (l.drop (pointL l).2)).map ((pointL l).1 :: ·)
def charsL (l : List UInt8) : Option (List Nat) := listU l.length l
theorem listU_fuel : ∀ (f g : Nat) (l : List UInt8), l.length ≤ f → l.length ≤ g → listU f l = listU g l
  | 0, 0, _, _, _ => rfl
  | 0, g + 1, l, hf, _ => by
    have : l = [] := List.eq_nil_of_length_eq_zero (by omega)
    simp [listU, this]
  | f + 1, 0, l, _, hg => by
    have : l = [] := List.eq_nil_of_length_eq_zero (by omega)
    simp [listU, this]
  | f + 1, g + 1, l, hf, hg => by
    unfold listU
    split
    · rfl
    split
    · rfl
    · rw [listU_fuel f g (l.drop (pointL l).2) (by simp; omega) (by simp; omega)]
theorem charsL_nil : charsL [] = some [] := rfl
theorem charsL_step (l : List UInt8) (h : l ≠ []) : charsL l = if (pointL l).2 = 0 then none else (charsL (l.drop (pointL l).2)).map ((pointL l).1 :: ·) := by
  have hl := List.length_pos_iff.2 h
  obtain ⟨n, hn⟩ : ∃ n, l.length = n + 1 := ⟨l.length - 1, by omega⟩
  have e : charsL l = listU (n + 1) l := by unfold charsL; rw [hn]
  rw [e, listU, if_neg h]
  split
  · rfl
  · rw [listU_fuel n (l.drop (pointL l).2).length (l.drop (pointL l).2) (by simp; omega) (Nat.le_refl _)]
    rfl

/-- Lists go by the length of what is left. -/
theorem bytes_ind {p : List UInt8 → Prop} (h0 : p []) (h1 : ∀ l, l ≠ [] → (pointL l).2 = 0 → p l) (h2 : ∀ l, l ≠ [] → (pointL l).2 ≠ 0 → p (l.drop (pointL l).2) → p l) : ∀ l, p l := by
  intro l
  generalize hn : l.length = n
  induction n using Nat.strongRecOn generalizing l with
  | _ n ih =>
    by_cases h : l = []
    · subst h
      exact h0
    · by_cases hp : (pointL l).2 = 0
      · exact h1 l h hp
      · refine h2 l h hp (ih (l.drop (pointL l).2).length ?_ _ rfl)
        have := List.length_pos_iff.2 h
        simp
        omega

theorem valid_iff : ∀ l : List UInt8, Lib.validD l = (charsL l).isSome := by
  apply bytes_ind
  · rfl
  · intro l h hp
    rw [Lib.validD_step l h, charsL_step l h, if_pos ((pointL_zero l).1 hp), if_pos hp]
    rfl
  · intro l h hp ih
    have hd : ¬ ((Lib.decodeL l).1 = 65533 ∧ (Lib.decodeL l).2 = 1) := fun e => hp ((pointL_zero l).2 e)
    have he : pointL l = Lib.decodeL l := by rw [pointL_eq, if_neg hd]
    rw [Lib.validD_step l h, charsL_step l h, if_neg hd, if_neg hp, ← he, ih]
    cases charsL (l.drop (pointL l).2) <;> rfl

theorem count_iff (s : ByteArray) : ∀ (f pos : Nat), s.size - pos ≤ f → ∀ c, charsL (s.data.toList.drop pos) = some c → Lib.runeCountFrom s f pos = c.length
  | 0, pos, hf, c, hc => by
    have h2 : s.size = s.data.size := rfl
    have : s.data.toList.drop pos = [] := List.drop_eq_nil_of_le (by simp; omega)
    rw [this, charsL_nil] at hc
    cases hc
    rfl
  | f + 1, pos, hf, c, hc => by
    unfold Lib.runeCountFrom
    by_cases hp : pos < s.size
    · rw [if_pos hp]
      have hne : s.data.toList.drop pos ≠ [] := by
        intro e
        have := List.drop_eq_nil_iff.1 e
        simp at this
        have h2 : s.size = s.data.size := rfl
        omega
      rw [charsL_step _ hne] at hc
      split at hc
      · cases hc
      · rename_i hz
        have hd : ¬ ((Lib.decodeL (s.data.toList.drop pos)).1 = 65533 ∧ (Lib.decodeL (s.data.toList.drop pos)).2 = 1) := fun e => hz ((pointL_zero _).2 e)
        have he : pointL (s.data.toList.drop pos) = Utf8.decode s pos := by rw [pointL_eq, if_neg hd, Lib.decodeL_drop]
        obtain ⟨c', hc', rfl⟩ := Option.map_eq_some_iff.1 hc
        rw [List.drop_drop, he] at hc'
        have hw := Lib.width_pos s pos
        rw [count_iff s f _ (by omega) c' hc', List.length_cons]
        omega
    · rw [if_neg hp]
      have h2 : s.size = s.data.size := rfl
      have : s.data.toList.drop pos = [] := List.drop_eq_nil_of_le (by simp; omega)
      rw [this, charsL_nil] at hc
      cases hc
      rfl
theorem count_chars {s : ByteArray} {c : List Nat} (h : charsL s.data.toList = some c) : Lib.runeCount s = c.length :=
  count_iff s s.size 0 (by omega) c (by simpa using h)
theorem chars_le : ∀ (l : List UInt8) (c : List Nat), charsL l = some c → c.length ≤ l.length := by
  apply bytes_ind
  · intro c h
    rw [charsL_nil] at h
    cases h
    simp
  · intro l h hp c hc
    rw [charsL_step l h, if_pos hp] at hc
    cases hc
  · intro l h hp ih c hc
    rw [charsL_step l h, if_neg hp] at hc
    obtain ⟨c', hc', rfl⟩ := Option.map_eq_some_iff.1 hc
    have := ih c' hc'
    have := List.length_pos_iff.2 h
    simp at *
    omega
/-- Joining valid texts. -/
theorem pointL_append (l r : List UInt8) (h : l ≠ []) (hp : (pointL l).2 ≠ 0) : pointL (l ++ r) = pointL l := by
  have hl := List.length_pos_iff.2 h
  have g0 : (l ++ r).getD 0 0 = l.getD 0 0 := by simp [List.getD, List.getElem?_append_left hl]
  unfold pointL at hp ⊢
  rw [g0]
  have hle : l.length ≤ (l ++ r).length := by simp
  have g : ∀ i, i < l.length → (l ++ r).getD i 0 = l.getD i 0 := fun i hi => by simp [List.getD, List.getElem?_append_left hi]
  by_cases l1 : 1 < l.length
  · rw [g 1 l1]
    by_cases l2 : 2 < l.length
    · rw [g 2 l2]
      by_cases l3 : 3 < l.length
      · rw [g 3 l3]
        have a1 : 1 < (l ++ r).length := by omega
        have a2 : 2 < (l ++ r).length := by omega
        have a3 : 3 < (l ++ r).length := by omega
        simp only [pointN, l1, l2, l3, a1, a2, a3]
      · have a1 : 1 < (l ++ r).length := by omega
        have a2 : 2 < (l ++ r).length := by omega
        revert hp
        simp only [pointN, l1, l2, l3, a1, a2, true_and, false_and, and_false, if_false]
        repeat' split
        all_goals (try simp)
        all_goals (try omega)
    · have a1 : 1 < (l ++ r).length := by omega
      revert hp
      simp only [pointN, l1, l2, a1, true_and, false_and, and_false, if_false]
      repeat' split
      all_goals (try simp)
      all_goals (try omega)
  · revert hp
    simp only [pointN, l1, false_and, and_false, if_false]
    repeat' split
    all_goals (try simp)
    all_goals (try omega)
theorem chars_append (r : List UInt8) : ∀ (l : List UInt8) (c : List Nat), charsL l = some c → charsL (l ++ r) = (charsL r).map (c ++ ·) := by
  apply bytes_ind
  · intro c h
    rw [charsL_nil] at h
    cases h
    simp
  · intro l h hp c hc
    rw [charsL_step l h, if_pos hp] at hc
    cases hc
  · intro l h hp ih c hc
    rw [charsL_step l h, if_neg hp] at hc
    obtain ⟨c', hc', rfl⟩ := Option.map_eq_some_iff.1 hc
    have hne : l ++ r ≠ [] := by simp [h]
    have hw := (pointL_width l h).1
    rw [charsL_step _ hne, pointL_append l r h hp, if_neg hp, List.drop_append_of_le_length hw, ih c' hc', Option.map_map]
    rfl
theorem chars_ascii : ∀ l : List UInt8, (∀ b ∈ l, b.toNat < 128) → charsL l = some (l.map (·.toNat))
  | [], _ => rfl
  | b :: l, h => by
    have hb := h b (by simp)
    have hp : pointL (b :: l) = (b.toNat, 1) := by simp [pointL, pointN, hb]
    rw [charsL_step _ (by simp), hp, if_neg (by simp), List.drop_one, List.tail_cons, chars_ascii l fun x hx => h x (by simp [hx])]
    rfl

end Go.Proofs.YtnbhejbpofjamaaGreatDoor
