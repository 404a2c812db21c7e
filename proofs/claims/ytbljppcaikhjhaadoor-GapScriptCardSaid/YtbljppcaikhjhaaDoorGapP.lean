/- Plain laws of a text with a gap: positions of line feeds, the gap moved, widened, filled. No condition but those written. -/
import Derived.Test.YtbljppcaikhjhaaDoorSlx
import Derived.Test.YtbljppcaikhjhaaDoorEnc
namespace Go.Proofs.YtbljppcaikhjhaaDoor
open Go.RowKit

/-! ### Line feeds -/
/-- The positions of the line feeds, the first character being at p. -/
def feeds : Nat → List Nat → List Nat
  | _, [] => []
  | p, c :: L => if c = 10 then p :: feeds (p + 1) L else feeds (p + 1) L
theorem feeds_append : ∀ (p : Nat) (A B : List Nat), feeds p (A ++ B) = feeds p A ++ feeds (p + A.length) B
  | p, [], B => by simp [feeds]
  | p, c :: A, B => by
    simp only [List.cons_append, feeds, feeds_append (p + 1) A B, List.length_cons]
    rw [show p + 1 + A.length = p + (A.length + 1) by omega]
    split <;> simp
theorem feeds_mem : ∀ (p : Nat) (L : List Nat), ∀ x ∈ feeds p L, p ≤ x ∧ x < p + L.length
  | p, [], x, h => by simp [feeds] at h
  | p, c :: L, x, h => by
    unfold feeds at h
    rw [List.length_cons]
    split at h
    · rcases List.mem_cons.1 h with rfl | h
      · omega
      · have := feeds_mem (p + 1) L x h
        omega
    · have := feeds_mem (p + 1) L x h
      omega
theorem feeds_shift : ∀ (p n : Nat) (L : List Nat), feeds (p + n) L = (feeds p L).map (· + n)
  | p, n, [] => rfl
  | p, n, c :: L => by
    have ih := feeds_shift (p + 1) n L
    rw [show p + 1 + n = p + n + 1 by omega] at ih
    unfold feeds
    rw [ih]
    split <;> simp
theorem feeds_le (p : Nat) (L : List Nat) : (feeds p L).length ≤ L.length := by
  induction L generalizing p with
  | nil => simp [feeds]
  | cons c L ih =>
    unfold feeds
    have := ih (p + 1)
    split <;> simp <;> omega
theorem feeds_lt (p : Nat) (L : List Nat) : (feeds p L).Pairwise (· < ·) := by
  induction L generalizing p with
  | nil => simp [feeds]
  | cons c L ih =>
    unfold feeds
    split
    · exact List.pairwise_cons.2 ⟨fun x hx => (by have := (feeds_mem (p + 1) L x hx).1; omega), ih _⟩
    · exact ih _
theorem feeds_sorted (p : Nat) (L : List Nat) : (feeds p L).Pairwise (· ≤ ·) := (feeds_lt p L).imp fun h => Nat.le_of_lt h
/-- How many line feeds stand before a place. -/
theorem feeds_count (A B : List Nat) : (feeds 1 (A ++ B)).countP (· < A.length + 1) = (feeds 1 A).length := by
  rw [feeds_append, List.countP_append]
  have h1 : (feeds 1 A).countP (· < A.length + 1) = (feeds 1 A).length := List.countP_eq_length.2 fun x hx => by
    have := (feeds_mem 1 A x hx).2
    simp
    omega
  have h2 : (feeds (1 + A.length) B).countP (· < A.length + 1) = 0 := List.countP_eq_zero.2 fun x hx => by
    have := (feeds_mem _ B x hx).1
    simp
    omega
  rw [h1, h2, Nat.add_zero]

/-! ### The gap -/
structure Gt where
  B : List Nat
  st : Nat
  en : Nat
  F : List Nat
def Gt.chars (g : Gt) : List Nat := g.B.take g.st ++ g.B.drop g.en
/-- What always holds of a text. -/
structure Gt.Ok (g : Gt) (L : List Nat) : Prop where
  le1 : g.st ≤ g.en
  le2 : g.en ≤ g.B.length
  lim : g.B.length ≤ 131104
  chars : g.chars = L
  feed : g.F = feeds 1 L
  size : L.length ≤ 65536
  okc : ∀ c ∈ L, okc c
theorem Gt.len (g : Gt) (h1 : g.st ≤ g.en) (h2 : g.en ≤ g.B.length) : g.chars.length = g.B.length - (g.en - g.st) := by
  unfold Gt.chars
  rw [List.length_append, List.length_take, List.length_drop]
  omega
theorem take_split (B : List Nat) {i st : Nat} (h : i ≤ st) : B.take st = B.take i ++ (B.drop i).take (st - i) := by
  conv => lhs; rw [show st = i + (st - i) by omega]
  rw [List.take_add]
theorem splice_head {α : Type} (L : List α) (o i : Nat) (ys : List α) (h : i ≤ o) (ho : o ≤ L.length) : (splice L o ys).take i = L.take i := by
  unfold splice
  rw [List.take_append_of_le_length (by rw [List.length_take]; omega), List.take_take, Nat.min_eq_left h]
theorem splice_tail {α : Type} (L : List α) (o i : Nat) (ys : List α) (h : o + ys.length ≤ i) (ho : o ≤ L.length) : (splice L o ys).drop i = L.drop i := by
  unfold splice
  rw [← List.append_assoc, List.drop_append, List.drop_eq_nil_of_le (by rw [List.length_append, List.length_take]; omega), List.nil_append, List.drop_drop, List.length_append, List.length_take]
  congr 1
  omega
/-- The gap moves down. -/
theorem move_left {B : List Nat} {st en i : Nat} (h1 : i ≤ st) (h2 : st ≤ en) (h3 : en ≤ B.length) :
    (splice B (i + (en - st)) ((B.drop i).take (st - i))).take i ++ (splice B (i + (en - st)) ((B.drop i).take (st - i))).drop (i + (en - st)) = B.take st ++ B.drop en := by
  have hl : ((B.drop i).take (st - i)).length = st - i := by rw [List.length_take, List.length_drop]; omega
  rw [splice_head _ _ _ _ (by omega) (by omega)]
  have e : (splice B (i + (en - st)) ((B.drop i).take (st - i))).drop (i + (en - st)) = (B.drop i).take (st - i) ++ B.drop en := by
    have := splice_drop B (i + (en - st)) 0 ((B.drop i).take (st - i)) (by omega)
    rw [Nat.add_zero] at this
    rw [this]
    unfold splice
    rw [List.take_zero, List.nil_append, hl, List.drop_drop]
    congr 2
    omega
  rw [e, ← List.append_assoc, ← take_split B h1]
/-- The gap moves up. -/
theorem move_right {B : List Nat} {st en i : Nat} (h1 : st ≤ i) (h2 : st ≤ en) (h3 : i + (en - st) ≤ B.length) :
    (splice B st ((B.drop en).take (i - st))).take i ++ (splice B st ((B.drop en).take (i - st))).drop (i + (en - st)) = B.take st ++ B.drop en := by
  have hl : ((B.drop en).take (i - st)).length = i - st := by rw [List.length_take, List.length_drop]; omega
  rw [splice_tail _ _ _ _ (by omega) (by omega)]
  have e : (splice B st ((B.drop en).take (i - st))).take i = B.take st ++ (B.drop en).take (i - st) := by
    unfold splice
    rw [← List.append_assoc, List.take_append_of_le_length (by rw [List.length_append, List.length_take]; omega), List.take_of_length_le (by rw [List.length_append, List.length_take]; omega)]
  rw [e, List.append_assoc]
  congr 1
  have := List.take_append_drop (i - st) (B.drop en)
  rw [List.drop_drop, show en + (i - st) = i + (en - st) by omega] at this
  exact this
/-- The gap grows. -/
theorem grow_eq {B Z : List Nat} {st en m : Nat} (h2 : st ≤ en) (h3 : en ≤ B.length) (hz : Z.length = B.length + m) :
    (splice (splice Z 0 (B.take st)) (en + m) (B.drop en)).take st ++ (splice (splice Z 0 (B.take st)) (en + m) (B.drop en)).drop (en + m) = B.take st ++ B.drop en := by
  have hl : (B.take st).length = st := by rw [List.length_take]; omega
  have hz1 : (splice Z 0 (B.take st)).length = B.length + m := by rw [splice_len _ _ _ (by omega), hz]
  rw [splice_head _ _ _ _ (by omega) (by omega)]
  have e1 : (splice Z 0 (B.take st)).take st = B.take st := by
    unfold splice
    rw [List.take_zero, List.nil_append, List.take_append_of_le_length (by omega), List.take_of_length_le (by omega)]
  have e2 : ∀ Y : List Nat, Y.length = B.length + m → (splice Y (en + m) (B.drop en)).drop (en + m) = B.drop en := by
    intro Y hY
    have := splice_drop Y (en + m) 0 (B.drop en) (by omega)
    rw [Nat.add_zero] at this
    rw [this]
    unfold splice
    have hn : (Y.drop (en + m)).drop (B.drop en).length = [] := List.drop_eq_nil_of_le (by rw [List.length_drop, List.length_drop, hY]; omega)
    rw [List.take_zero, List.nil_append, Nat.zero_add, hn, List.append_nil]
  rw [e1, e2 _ hz1]
/-- The character at an index. -/
theorem Gt.at_ {g : Gt} (h1 : g.st ≤ g.en) (h2 : g.en ≤ g.B.length) (i : Nat) : g.chars[i]? = if i < g.st then g.B[i]? else g.B[i + (g.en - g.st)]? := by
  unfold Gt.chars
  rw [List.getElem?_append, List.length_take, Nat.min_eq_left (by omega)]
  split
  · rw [List.getElem?_take, if_pos (by assumption)]
  · rw [List.getElem?_drop]
    congr 1
    omega
/-- A part of the text. -/
theorem Gt.part_lo {g : Gt} (h1 : g.st ≤ g.en) (h2 : g.en ≤ g.B.length) {a b : Nat} (hab : a ≤ b) (hb : b ≤ g.st) : (g.B.drop a).take (b - a) = (g.chars.drop a).take (b - a) := by
  apply List.ext_getElem?
  intro i
  rw [List.getElem?_take, List.getElem?_take]
  split
  · rw [List.getElem?_drop, List.getElem?_drop, Gt.at_ h1 h2, if_pos (by omega)]
  · rfl
theorem Gt.part_hi {g : Gt} (h1 : g.st ≤ g.en) (h2 : g.en ≤ g.B.length) {a b : Nat} (ha : g.st ≤ a) : (g.B.drop (a + (g.en - g.st))).take (b - a) = (g.chars.drop a).take (b - a) := by
  apply List.ext_getElem?
  intro i
  rw [List.getElem?_take, List.getElem?_take]
  split
  · rw [List.getElem?_drop, List.getElem?_drop, Gt.at_ h1 h2, if_neg (by omega)]
    congr 1
    omega
  · rfl
theorem Gt.part_mid {g : Gt} (h1 : g.st ≤ g.en) (h2 : g.en ≤ g.B.length) {a b : Nat} (ha : a ≤ g.st) (hb : g.st ≤ b) : (g.B.drop a).take (g.st - a) ++ (g.B.drop g.en).take (b - g.st) = (g.chars.drop a).take (b - a) := by
  rw [Gt.part_lo h1 h2 ha (Nat.le_refl _)]
  have := Gt.part_hi h1 h2 (a := g.st) (b := b) (Nat.le_refl _)
  rw [show g.st + (g.en - g.st) = g.en by omega] at this
  rw [this, show b - a = (g.st - a) + (b - g.st) by omega, List.take_add, List.drop_drop, show a + (g.st - a) = g.st by omega]
/-- One character is written at the gap. -/
theorem Gt.put_eq {B : List Nat} {st en : Nat} (c : Nat) (h1 : st < en) (h2 : en ≤ B.length) : (B.set st c).take (st + 1) ++ (B.set st c).drop en = (B.take st ++ [c]) ++ B.drop en := by
  rw [List.drop_set_of_lt h1, List.take_set, List.take_add_one, List.getElem?_eq_getElem (by omega), Option.toList_some, List.set_append_right _ _ (by rw [List.length_take]; omega), List.length_take, Nat.min_eq_left (by omega), Nat.sub_self]
  rfl
end Go.Proofs.YtbljppcaikhjhaaDoor
