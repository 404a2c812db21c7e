/- A text with a gap: the state, where it lies, its size. No condition but those written. -/
import Derived.Test.YtnbhejbpofjamaaGreatDoorBsl
import Derived.Test.YtnbhejbpofjamaaGreatDoorEnc
import Derived.Test.YtnbhejbpofjamaaGreatDoorRow
import Derived.Test.YtnbhejbpofjamaaGreatDoorChecked
import Derived.RegionTactic
import Derived.BigRegion
import Derived.ChangeAlike
import Derived.BigQuiet
import Derived.Deep.QuietTactic
import Derived.Laws.ResultCell
import Derived.Laws.Rows
namespace Go.Proofs.YtnbhejbpofjamaaGreatDoor
open Go.RowKit

/-! ### Line feeds -/
/-- The positions of the line feeds, the first character being at p. -/
def feeds : Nat → List Nat → List Nat
  | _, [] => []
  | p, c :: L => if c = 10 then p :: feeds (p + 1) L else feeds (p + 1) L
theorem feeds_append : ∀ (p : Nat) (A B : List Nat), feeds p (A ++ B) = feeds p A ++ feeds (p + A.length) B
  | p, [], B => by simp [feeds]
  | p, c :: A, B => by
    simp only [List.cons_append, feeds, feeds_append (p + 1) A B, List.length_cons]
    rw [show p + 1 + A.length = p + (A.length + 1) by omega]
    split <;> simp
theorem feeds_mem : ∀ (p : Nat) (L : List Nat), ∀ x ∈ feeds p L, p ≤ x ∧ x < p + L.length
  | p, [], x, h => by simp [feeds] at h
  | p, c :: L, x, h => by
    unfold feeds at h
    rw [List.length_cons]
    split at h
    · rcases List.mem_cons.1 h with rfl | h
      · omega
      · have := feeds_mem (p + 1) L x h
        omega
    · have := feeds_mem (p + 1) L x h
      omega
theorem feeds_shift : ∀ (p n : Nat) (L : List Nat), feeds (p + n) L = (feeds p L).map (· + n)
  | p, n, [] => rfl
  | p, n, c :: L => by
    have ih := feeds_shift (p + 1) n L
    rw [show p + 1 + n = p + n + 1 by omega] at ih
    unfold feeds
    rw [ih]
    split <;> simp
theorem feeds_le (p : Nat) (L : List Nat) : (feeds p L).length ≤ L.length := by
  induction L generalizing p with
  | nil => simp [feeds]
  | cons c L ih =>
    unfold feeds
    have := ih (p + 1)
    split <;> simp <;> omega
theorem feeds_lt (p : Nat) (L : List Nat) : (feeds p L).Pairwise (· < ·) := by
  induction L generalizing p with
  | nil => simp [feeds]
  | cons c L ih =>
    unfold feeds
    split
    · exact List.pairwise_cons.2 ⟨fun x hx => (by have := (feeds_mem (p + 1) L x hx).1; omega), ih _⟩
    · exact ih _
theorem feeds_sorted (p : Nat) (L : List Nat) : (feeds p L).Pairwise (· ≤ ·) := (feeds_lt p L).imp fun h => Nat.le_of_lt h
/-- How many line feeds stand before a place. -/
theorem feeds_count (A B : List Nat) : (feeds 1 (A ++ B)).countP (· < A.length + 1) = (feeds 1 A).length := by
  rw [feeds_append, List.countP_append]
  have h1 : (feeds 1 A).countP (· < A.length + 1) = (feeds 1 A).length := List.countP_eq_length.2 fun x hx => by
    have := (feeds_mem 1 A x hx).2
    simp
    omega
  have h2 : (feeds (1 + A.length) B).countP (· < A.length + 1) = 0 := List.countP_eq_zero.2 fun x hx => by
    have := (feeds_mem _ B x hx).1
    simp
    omega
  rw [h1, h2, Nat.add_zero]

/-! ### The gap -/
structure Gt where
  B : List Nat
  st : Nat
  en : Nat
  F : List Nat
def Gt.chars (g : Gt) : List Nat := g.B.take g.st ++ g.B.drop g.en
/-- What always holds of a text. -/
structure Gt.Ok (g : Gt) (L : List Nat) : Prop where
  le1 : g.st ≤ g.en
  le2 : g.en ≤ g.B.length
  lim : g.B.length ≤ 131104
  chars : g.chars = L
  feed : g.F = feeds 1 L
  size : L.length ≤ 65536
  okc : ∀ c ∈ L, okc c
theorem Gt.len (g : Gt) (h1 : g.st ≤ g.en) (h2 : g.en ≤ g.B.length) : g.chars.length = g.B.length - (g.en - g.st) := by
  unfold Gt.chars
  rw [List.length_append, List.length_take, List.length_drop]
  omega
theorem take_split (B : List Nat) {i st : Nat} (h : i ≤ st) : B.take st = B.take i ++ (B.drop i).take (st - i) := by
  conv => lhs; rw [show st = i + (st - i) by omega]
  rw [List.take_add]
theorem splice_head {α : Type} (L : List α) (o i : Nat) (ys : List α) (h : i ≤ o) (ho : o ≤ L.length) : (splice L o ys).take i = L.take i := by
  unfold splice
  rw [List.take_append_of_le_length (by rw [List.length_take]; omega), List.take_take, Nat.min_eq_left h]
theorem splice_tail {α : Type} (L : List α) (o i : Nat) (ys : List α) (h : o + ys.length ≤ i) (ho : o ≤ L.length) : (splice L o ys).drop i = L.drop i := by
  unfold splice
  rw [← List.append_assoc, List.drop_append, List.drop_eq_nil_of_le (by rw [List.length_append, List.length_take]; omega), List.nil_append, List.drop_drop, List.length_append, List.length_take]
  congr 1
  omega
/-- The gap moves down. -/
theorem move_left {B : List Nat} {st en i : Nat} (h1 : i ≤ st) (h2 : st ≤ en) (h3 : en ≤ B.length) :
    (splice B (i + (en - st)) ((B.drop i).take (st - i))).take i ++ (splice B (i + (en - st)) ((B.drop i).take (st - i))).drop (i + (en - st)) = B.take st ++ B.drop en := by
  have hl : ((B.drop i).take (st - i)).length = st - i := by rw [List.length_take, List.length_drop]; omega
  rw [splice_head _ _ _ _ (by omega) (by omega)]
  have e : (splice B (i + (en - st)) ((B.drop i).take (st - i))).drop (i + (en - st)) = (B.drop i).take (st - i) ++ B.drop en := by
    have := splice_drop B (i + (en - st)) 0 ((B.drop i).take (st - i)) (by omega)
    rw [Nat.add_zero] at this
    rw [this]
    unfold splice
    rw [List.take_zero, List.nil_append, hl, List.drop_drop]
    congr 2
    omega
  rw [e, ← List.append_assoc, ← take_split B h1]
/-- The gap moves up. -/
theorem move_right {B : List Nat} {st en i : Nat} (h1 : st ≤ i) (h2 : st ≤ en) (h3 : i + (en - st) ≤ B.length) :
    (splice B st ((B.drop en).take (i - st))).take i ++ (splice B st ((B.drop en).take (i - st))).drop (i + (en - st)) = B.take st ++ B.drop en := by
  have hl : ((B.drop en).take (i - st)).length = i - st := by rw [List.length_take, List.length_drop]; omega
  rw [splice_tail _ _ _ _ (by omega) (by omega)]
  have e : (splice B st ((B.drop en).take (i - st))).take i = B.take st ++ (B.drop en).take (i - st) := by
    unfold splice
    rw [← List.append_assoc, List.take_append_of_le_length (by rw [List.length_append, List.length_take]; omega), List.take_of_length_le (by rw [List.length_append, List.length_take]; omega)]
  rw [e, List.append_assoc]
  congr 1
  have := List.take_append_drop (i - st) (B.drop en)
  rw [List.drop_drop, show en + (i - st) = i + (en - st) by omega] at this
  exact this
/-- The gap grows. -/
theorem grow_eq {B Z : List Nat} {st en m : Nat} (h2 : st ≤ en) (h3 : en ≤ B.length) (hz : Z.length = B.length + m) :
    (splice (splice Z 0 (B.take st)) (en + m) (B.drop en)).take st ++ (splice (splice Z 0 (B.take st)) (en + m) (B.drop en)).drop (en + m) = B.take st ++ B.drop en := by
  have hl : (B.take st).length = st := by rw [List.length_take]; omega
  have hz1 : (splice Z 0 (B.take st)).length = B.length + m := by rw [splice_len _ _ _ (by omega), hz]
  rw [splice_head _ _ _ _ (by omega) (by omega)]
  have e1 : (splice Z 0 (B.take st)).take st = B.take st := by
    unfold splice
    rw [List.take_zero, List.nil_append, List.take_append_of_le_length (by omega), List.take_of_length_le (by omega)]
  have e2 : ∀ Y : List Nat, Y.length = B.length + m → (splice Y (en + m) (B.drop en)).drop (en + m) = B.drop en := by
    intro Y hY
    have := splice_drop Y (en + m) 0 (B.drop en) (by omega)
    rw [Nat.add_zero] at this
    rw [this]
    unfold splice
    have hn : (Y.drop (en + m)).drop (B.drop en).length = [] := List.drop_eq_nil_of_le (by rw [List.length_drop, List.length_drop, hY]; omega)
    rw [List.take_zero, List.nil_append, Nat.zero_add, hn, List.append_nil]
  rw [e1, e2 _ hz1]
/-- The character at an index. -/
theorem Gt.at_ {g : Gt} (h1 : g.st ≤ g.en) (h2 : g.en ≤ g.B.length) (i : Nat) : g.chars[i]? = if i < g.st then g.B[i]? else g.B[i + (g.en - g.st)]? := by
  unfold Gt.chars
  rw [List.getElem?_append, List.length_take, Nat.min_eq_left (by omega)]
  split
  · rw [List.getElem?_take, if_pos (by assumption)]
  · rw [List.getElem?_drop]
    congr 1
    omega
/-- A part of the text. -/
theorem Gt.part_lo {g : Gt} (h1 : g.st ≤ g.en) (h2 : g.en ≤ g.B.length) {a b : Nat} (hab : a ≤ b) (hb : b ≤ g.st) : (g.B.drop a).take (b - a) = (g.chars.drop a).take (b - a) := by
  apply List.ext_getElem?
  intro i
  rw [List.getElem?_take, List.getElem?_take]
  split
  · rw [List.getElem?_drop, List.getElem?_drop, Gt.at_ h1 h2, if_pos (by omega)]
  · rfl
theorem Gt.part_hi {g : Gt} (h1 : g.st ≤ g.en) (h2 : g.en ≤ g.B.length) {a b : Nat} (ha : g.st ≤ a) : (g.B.drop (a + (g.en - g.st))).take (b - a) = (g.chars.drop a).take (b - a) := by
  apply List.ext_getElem?
  intro i
  rw [List.getElem?_take, List.getElem?_take]
  split
  · rw [List.getElem?_drop, List.getElem?_drop, Gt.at_ h1 h2, if_neg (by omega)]
    congr 1
    omega
  · rfl
theorem Gt.part_mid {g : Gt} (h1 : g.st ≤ g.en) (h2 : g.en ≤ g.B.length) {a b : Nat} (ha : a ≤ g.st) (hb : g.st ≤ b) : (g.B.drop a).take (g.st - a) ++ (g.B.drop g.en).take (b - g.st) = (g.chars.drop a).take (b - a) := by
  rw [Gt.part_lo h1 h2 ha (Nat.le_refl _)]
  have := Gt.part_hi h1 h2 (a := g.st) (b := b) (Nat.le_refl _)
  rw [show g.st + (g.en - g.st) = g.en by omega] at this
  rw [this, show b - a = (g.st - a) + (b - g.st) by omega, List.take_add, List.drop_drop, show a + (g.st - a) = g.st by omega]
/-- One character is written at the gap. -/
theorem Gt.put_eq {B : List Nat} {st en : Nat} (c : Nat) (h1 : st < en) (h2 : en ≤ B.length) : (B.set st c).take (st + 1) ++ (B.set st c).drop en = (B.take st ++ [c]) ++ B.drop en := by
  rw [List.drop_set_of_lt h1, List.take_set, List.take_add_one, List.getElem?_eq_getElem (by omega), Option.toList_some, List.set_append_right _ _ (by rw [List.length_take]; omega), List.length_take, Nat.min_eq_left (by omega), Nat.sub_self]
  rfl
end Go.Proofs.YtnbhejbpofjamaaGreatDoor
namespace Go.Proofs.YtnbhejbpofjamaaGreatDoor
open Go.RowKit

def runs (l : List Nat) : List Value := l.map fun c : Nat => Value.int .i32 (c : Int)
theorem runs_size (l : List Nat) : (runs l).length = l.length := by simp [runs]
theorem runs_one (l : List Nat) : ∀ u ∈ runs l, u.oneCell' = true := by
  intro u hu
  obtain ⟨c, _, rfl⟩ := List.mem_map.1 hu
  rfl
theorem runs_get (l : List Nat) (i : Nat) : (runs l)[i]? = (l[i]?).map fun c : Nat => Value.int .i32 (c : Int) := by simp [runs]
theorem runs_splice (L : List Nat) (o : Nat) (X : List Nat) : splice (runs L) o (runs X) = runs (splice L o X) := by simp [splice, runs]
theorem runs_set (L : List Nat) (i c : Nat) : (runs L).set i (.int .i32 (c : Int)) = runs (L.set i c) := by simp [runs, List.map_set]
theorem runs_drop (L : List Nat) (i : Nat) : runs (L.drop i) = (runs L).drop i := by simp [runs]
theorem runs_take (L : List Nat) (i : Nat) : runs (L.take i) = (runs L).take i := by simp [runs]
abbrev RunSl (w : World) (v : Value) (B : List Nat) : Prop := Sl w 21 1 v B.length (runs B)

/-- Where a text lies: its block, the row of its characters, the list of its line feeds; and what it holds. -/
structure Gb where
  tb : Nat
  bb : Nat
  bo : Nat
  bc : Nat
  fv : Value
  g : Gt
abbrev Gb.bv (b : Gb) : Value := .slice (some ⟨b.bb, b.bo, none⟩) b.g.B.length b.bc
def gapCells (b : Gb) : Array Value := #[b.bv, .int .i64 (b.g.st : Int), .int .i64 (b.g.en : Int), b.fv]
def Gb.heap (b : Gb) : Heap := (b.tb, .cells 164 (gapCells b)) :: (b.bb, .row 21 1 b.bv b.g.B.length (runs b.g.B)) :: rowOf 3 1 b.fv b.g.F.length (ints b.g.F)
/-- A text with a gap lies in memory, beside R. -/
structure GapAt (W w : World) (b : Gb) (R : Heap) : Prop where
  own : Own W w (b.heap ++ R)
  okf : RowOk b.fv b.g.F.length
  le1 : b.g.st ≤ b.g.en
  le2 : b.g.en ≤ b.g.B.length
  lim : b.g.B.length ≤ 131104
/-- A text lies in memory and reads as L. -/
structure TextAt (W w : World) (b : Gb) (L : List Nat) (R : Heap) : Prop where
  gap : GapAt W w b R
  ok : b.g.Ok L

section
variable {W w w' : World} {b : Gb} {L : List Nat} {R : Heap}
theorem GapAt.re (h : GapAt W w b R) (ho : Own W w' (b.heap ++ R)) : GapAt W w' b R := ⟨ho, h.okf, h.le1, h.le2, h.lim⟩
theorem GapAt.below (h : GapAt W w b R) (hb : Below w.heap.size w w') : GapAt W w' b R := h.re (h.own.below hb)
theorem GapAt.drew (h : GapAt W w b R) : GapAt W w.drew b R := h.re h.own.drew
theorem GapAt.drewN (h : GapAt W w b R) (q : Nat) : GapAt W (w.drewN q) b R := h.re (h.own.drewN q)
theorem GapAt.skip (h : GapAt W w b R) (o : Obj) : GapAt W (w.alloc o) b R := h.re (h.own.skip o)
theorem GapAt.sub {R' : Heap} (h : GapAt W w b R) (hs : R'.Sublist R) : GapAt W w b R' := ⟨h.own.sub (List.Sublist.append (List.Sublist.refl _) hs), h.okf, h.le1, h.le2, h.lim⟩
theorem GapAt.perm {R' : Heap} (h : GapAt W w b R) (hs : R.Perm R') : GapAt W w b R' := ⟨h.own.perm (List.Perm.append_left _ hs), h.okf, h.le1, h.le2, h.lim⟩
theorem GapAt.blk (h : GapAt W w b R) : Blk w b.tb 164 (gapCells b) := h.own.blk (by simp [Gb.heap])
theorem GapAt.slB (h : GapAt W w b R) : RunSl w b.bv b.g.B := (h.own.row (g := b.bb) (by simp [Gb.heap])).2
theorem GapAt.slF (h : GapAt W w b R) : IntSl w b.fv b.g.F := h.own.slOf (fun x hx => by simp [Gb.heap]; exact .inr (.inr (.inl hx))) (by rw [ints_size, Nat.mul_one]) h.okf
theorem GapAt.c0 (h : GapAt W w b R) : w.cell? ⟨b.tb, 0, none⟩ = some b.bv := by rw [h.blk.cell]; rfl
theorem GapAt.c1 (h : GapAt W w b R) : w.cell? ⟨b.tb, 1, none⟩ = some (.int .i64 (b.g.st : Int)) := by rw [h.blk.cell]; rfl
theorem GapAt.c2 (h : GapAt W w b R) : w.cell? ⟨b.tb, 2, none⟩ = some (.int .i64 (b.g.en : Int)) := by rw [h.blk.cell]; rfl
theorem GapAt.c3 (h : GapAt W w b R) : w.cell? ⟨b.tb, 3, none⟩ = some b.fv := by rw [h.blk.cell]; rfl
theorem GapAt.rune (h : GapAt W w b R) {i c : Nat} (hc : b.g.B[i]? = some c) : w.cell? ⟨b.bb, b.bo + i, none⟩ = some (.int .i32 (c : Int)) := by
  have hi := (List.getElem?_eq_some_iff.1 hc).1
  obtain ⟨g, off, cp, hv, _, _, hcell, _, _⟩ := h.slB.at_ (by omega)
  injection hv with e1 _ _
  injection e1 with e1
  injection e1 with e2 e3
  rw [e2, e3]
  exact hcell i _ (by rw [runs_get, hc]; rfl)
theorem GapAt.frozB (h : GapAt W w b R) (i : Nat) : w.frozen? ⟨b.bb, i, none⟩ = false := by
  have hs := h.slB.2
  rcases hs with ⟨e, _⟩ | ⟨g, off, cap, cs, e, hg, _⟩
  · cases e
  · injection e with e1 _ _
    injection e1 with e1
    injection e1 with e2 e3
    rw [e2]
    simp [World.frozen?, hg]
theorem GapAt.cap (h : GapAt W w b R) : b.g.B.length ≤ b.bc ∧ b.bc ≤ maxLen := by
  obtain ⟨A, c, hv, h1, h2⟩ := h.slB.form
  injection hv with _ _ e
  rw [e]
  exact ⟨h1, h2⟩
theorem eql_runes (w : World) (a : Option Addr) (n c : Nat) : (binOp .eql 162 (.slice a n c) (.slice none 0 0)).run Tryz.prog w = .ok (.bool a.isNone) w := Lib.run_eql_slice_nil w _ _ a n c 0 0 Tryz.underlying162
attribute [local go_sem] eql_runes
set_option maxRecDepth 100000 in
theorem none_any (h : GapAt W w b R) : Calls Tryz.prog 123 #[.pointer (some ⟨b.tb, 0, none⟩)] w fun e w' => e = .returned (.bool false) ∧ w = w' := by
  have c0 := h.c0
  clear h
  go_enter Tryz.func123, Tryz.ntmps123
  go_wp2
  go_ret
  exact ⟨rfl, rfl⟩
theorem none_nil (w : World) : Calls Tryz.prog 123 #[.pointer none] w fun e w' => e = .returned (.bool true) ∧ w = w' := by
  go_enter Tryz.func123, Tryz.ntmps123
  go_wp2
  go_ret
  exact ⟨rfl, rfl⟩
set_option maxRecDepth 100000 in
theorem size_gap (h : GapAt W w b R) : Calls Tryz.prog 81 #[.pointer (some ⟨b.tb, 0, none⟩)] w fun e w' => e = .returned (.int .i64 ((b.g.B.length : Int) - ((b.g.en : Int) - (b.g.st : Int)))) ∧ ∃ q, w' = w.drewN q := by
  have HN := hide (none_any h)
  have c0 := h.c0
  have c1 := h.c1
  have c2 := h.c2
  have h1 := h.le1
  have h2 := h.le2
  have h3 := h.lim
  obtain ⟨n, hn⟩ : ∃ n, n = b.g.B.length := ⟨_, rfl⟩
  obtain ⟨s, hs⟩ : ∃ s, s = b.g.st := ⟨_, rfl⟩
  obtain ⟨e, he⟩ : ∃ e, e = b.g.en := ⟨_, rfl⟩
  have hw1 : IntKind.i64.wrap ((e : Int) - (s : Int)) = (e : Int) - (s : Int) := IntWalk.i64_in _ (by omega)
  have hw2 : IntKind.i64.wrap ((n : Int) - ((e : Int) - (s : Int))) = (n : Int) - ((e : Int) - (s : Int)) := IntWalk.i64_in _ (by omega)
  unfold Gb.bv at c0
  rw [← hn] at c0 ⊢
  rw [← hs] at c1 ⊢
  rw [← he] at c2 ⊢
  clear h h1 h2 h3 hn hs he
  go_enter Tryz.func81, Tryz.ntmps81
  go_wp2_with fail
  refine (Calls.mono (HN.out)) ?_
  rintro r w2 ⟨rfl, rfl⟩
  go_wp2
  go_quiet (fail)
  go_wp2
  go_ret
  exact ⟨rfl, _, rfl⟩
theorem size_any (h : TextAt W w b L R) : Calls Tryz.prog 81 #[.pointer (some ⟨b.tb, 0, none⟩)] w fun e w' => e = .returned (.int .i64 (L.length : Int)) ∧ ∃ q, w' = w.drewN q := by
  have := size_gap h.gap
  have e := b.g.len h.gap.le1 h.gap.le2
  rw [h.ok.chars] at e
  have e1 := h.gap.le1
  have e2 := h.gap.le2
  rwa [show (b.g.B.length : Int) - ((b.g.en : Int) - (b.g.st : Int)) = (L.length : Int) by omega] at this
end
end Go.Proofs.YtnbhejbpofjamaaGreatDoor
namespace Go.Proofs.YtnbhejbpofjamaaGreatDoor
open Go.RowKit

/-- A plain int behind draws. -/
def DrawsTo (w : World) (v : Value) (e : Ending) (w' : World) : Prop := e = .returned v ∧ ∃ q, w' = w.drewN q
theorem drewN_add (w : World) (a b : Nat) : (w.drewN a).drewN b = w.drewN (a + b) := by
  simp [World.drewN, Nat.add_assoc]
section
variable {W w w' : World} {b : Gb} {L : List Nat} {R : Heap}
theorem TextAt.below (h : TextAt W w b L R) (hb : Below w.heap.size w w') : TextAt W w' b L R := ⟨h.gap.below hb, h.ok⟩
theorem TextAt.drew (h : TextAt W w b L R) : TextAt W w.drew b L R := ⟨h.gap.drew, h.ok⟩
theorem TextAt.drewN (h : TextAt W w b L R) (q : Nat) : TextAt W (w.drewN q) b L R := ⟨h.gap.drewN q, h.ok⟩
theorem TextAt.skip (h : TextAt W w b L R) (o : Obj) : TextAt W (w.alloc o) b L R := ⟨h.gap.skip o, h.ok⟩
theorem TextAt.drewS (h : TextAt W w b L R) (hq : ∃ q, w' = w.drewN q) : TextAt W w' b L R := by
  obtain ⟨q, rfl⟩ := hq
  exact h.drewN q
theorem TextAt.sub {R' : Heap} (h : TextAt W w b L R) (hs : R'.Sublist R) : TextAt W w b L R' := ⟨h.gap.sub hs, h.ok⟩
theorem TextAt.perm {R' : Heap} (h : TextAt W w b L R) (hs : R.Perm R') : TextAt W w b L R' := ⟨h.gap.perm hs, h.ok⟩
theorem TextAt.int32 (h : TextAt W w b L R) {i c : Nat} (hc : L[i]? = some c) : c ≤ 1114111 := (h.ok.okc c (List.mem_of_getElem? hc)).1
def charR (L : List Nat) (at' : Int) : Int := if 1 ≤ at' ∧ at' ≤ (L.length : Int) then ((L.getD (at' - 1).toNat 0 : Nat) : Int) else 0
/-- Do two positions enclose a part of the text? -/
def spanB (L : List Nat) (a c : Int) : Bool := decide (1 ≤ a ∧ a ≤ c ∧ c ≤ (L.length : Int) + 1)
/-- The number of lines. -/
def linesN (L : List Nat) : Nat := (feeds 1 L).length + 1
theorem linesN_le (h : L.length ≤ 65536) : linesN L ≤ 65537 := by have := feeds_le 1 L; unfold linesN; omega
/-- The line of a position. -/
def lineOf (L : List Nat) (k : Nat) : Nat := (feeds 1 L).countP (· < k) + 1
end
end Go.Proofs.YtnbhejbpofjamaaGreatDoor
