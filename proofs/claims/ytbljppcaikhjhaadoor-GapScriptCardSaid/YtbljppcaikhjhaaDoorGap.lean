/- A text with a gap in memory, and the walks of its small methods. No condition but those written. -/
import Derived.Test.YtbljppcaikhjhaaDoorGapP
import Derived.Test.YtbljppcaikhjhaaDoorRow
import Derived.Test.YtbljppcaikhjhaaDoorIns
import Derived.Test.YtbljppcaikhjhaaDoorChecked
import Derived.RegionTactic
import Derived.BigRegion
import Derived.ChangeAlike
import Derived.BigQuiet
import Derived.Deep.QuietTactic
import Derived.Laws.ResultCell
import Derived.Laws.Rows
namespace Go.Proofs.YtbljppcaikhjhaaDoor
open Go.RowKit

def runs (l : List Nat) : List Value := l.map fun c : Nat => Value.int .i32 (c : Int)
theorem runs_size (l : List Nat) : (runs l).length = l.length := by simp [runs]
theorem runs_one (l : List Nat) : ∀ u ∈ runs l, u.oneCell' = true := by
  intro u hu
  obtain ⟨c, _, rfl⟩ := List.mem_map.1 hu
  rfl
theorem runs_get (l : List Nat) (i : Nat) : (runs l)[i]? = (l[i]?).map fun c : Nat => Value.int .i32 (c : Int) := by simp [runs]
theorem runs_splice (L : List Nat) (o : Nat) (X : List Nat) : splice (runs L) o (runs X) = runs (splice L o X) := by simp [splice, runs]
theorem runs_set (L : List Nat) (i c : Nat) : (runs L).set i (.int .i32 (c : Int)) = runs (L.set i c) := by simp [runs, List.map_set]
theorem runs_drop (L : List Nat) (i : Nat) : runs (L.drop i) = (runs L).drop i := by simp [runs]
theorem runs_take (L : List Nat) (i : Nat) : runs (L.take i) = (runs L).take i := by simp [runs]
abbrev RunSl (w : World) (v : Value) (B : List Nat) : Prop := Sl w 21 1 v B.length (runs B)

/-- Where a text lies: its block, the row of its characters, the list of its line feeds; and what it holds. -/
structure Gb where
  tb : Nat
  bb : Nat
  bo : Nat
  bc : Nat
  fv : Value
  g : Gt
abbrev Gb.bv (b : Gb) : Value := .slice (some ⟨b.bb, b.bo, none⟩) b.g.B.length b.bc
def gapCells (b : Gb) : Array Value := #[b.bv, .int .i64 (b.g.st : Int), .int .i64 (b.g.en : Int), b.fv]
def Gb.heap (b : Gb) : Heap := (b.tb, .cells 64 (gapCells b)) :: (b.bb, .row 21 1 b.bv b.g.B.length (runs b.g.B)) :: rowOf 3 1 b.fv b.g.F.length (ints b.g.F)
/-- A text with a gap lies in memory, beside R. -/
structure GapAt (W w : World) (b : Gb) (R : Heap) : Prop where
  own : Own W w (b.heap ++ R)
  okf : RowOk b.fv b.g.F.length
  le1 : b.g.st ≤ b.g.en
  le2 : b.g.en ≤ b.g.B.length
  lim : b.g.B.length ≤ 131104
/-- A text lies in memory and reads as L. -/
structure TextAt (W w : World) (b : Gb) (L : List Nat) (R : Heap) : Prop where
  gap : GapAt W w b R
  ok : b.g.Ok L

section
variable {W w w' : World} {b : Gb} {L : List Nat} {R : Heap}
theorem GapAt.re (h : GapAt W w b R) (ho : Own W w' (b.heap ++ R)) : GapAt W w' b R := ⟨ho, h.okf, h.le1, h.le2, h.lim⟩
theorem GapAt.below (h : GapAt W w b R) (hb : Below w.heap.size w w') : GapAt W w' b R := h.re (h.own.below hb)
theorem GapAt.drew (h : GapAt W w b R) : GapAt W w.drew b R := h.re h.own.drew
theorem GapAt.drewN (h : GapAt W w b R) (q : Nat) : GapAt W (w.drewN q) b R := h.re (h.own.drewN q)
theorem GapAt.skip (h : GapAt W w b R) (o : Obj) : GapAt W (w.alloc o) b R := h.re (h.own.skip o)
theorem GapAt.sub {R' : Heap} (h : GapAt W w b R) (hs : R'.Sublist R) : GapAt W w b R' := ⟨h.own.sub (List.Sublist.append (List.Sublist.refl _) hs), h.okf, h.le1, h.le2, h.lim⟩
theorem GapAt.perm {R' : Heap} (h : GapAt W w b R) (hs : R.Perm R') : GapAt W w b R' := ⟨h.own.perm (List.Perm.append_left _ hs), h.okf, h.le1, h.le2, h.lim⟩
theorem GapAt.blk (h : GapAt W w b R) : Blk w b.tb 64 (gapCells b) := h.own.blk (by simp [Gb.heap])
theorem GapAt.slB (h : GapAt W w b R) : RunSl w b.bv b.g.B := (h.own.row (g := b.bb) (by simp [Gb.heap])).2
theorem GapAt.slF (h : GapAt W w b R) : IntSl w b.fv b.g.F := h.own.slOf (fun x hx => by simp [Gb.heap]; exact .inr (.inr (.inl hx))) (by rw [ints_size, Nat.mul_one]) h.okf
theorem GapAt.c0 (h : GapAt W w b R) : w.cell? ⟨b.tb, 0, none⟩ = some b.bv := by rw [h.blk.cell]; rfl
theorem GapAt.c1 (h : GapAt W w b R) : w.cell? ⟨b.tb, 1, none⟩ = some (.int .i64 (b.g.st : Int)) := by rw [h.blk.cell]; rfl
theorem GapAt.c2 (h : GapAt W w b R) : w.cell? ⟨b.tb, 2, none⟩ = some (.int .i64 (b.g.en : Int)) := by rw [h.blk.cell]; rfl
theorem GapAt.c3 (h : GapAt W w b R) : w.cell? ⟨b.tb, 3, none⟩ = some b.fv := by rw [h.blk.cell]; rfl
theorem GapAt.rune (h : GapAt W w b R) {i c : Nat} (hc : b.g.B[i]? = some c) : w.cell? ⟨b.bb, b.bo + i, none⟩ = some (.int .i32 (c : Int)) := by
  have hi := (List.getElem?_eq_some_iff.1 hc).1
  obtain ⟨g, off, cp, hv, _, _, hcell, _, _⟩ := h.slB.at_ (by omega)
  injection hv with e1 _ _
  injection e1 with e1
  injection e1 with e2 e3
  rw [e2, e3]
  exact hcell i _ (by rw [runs_get, hc]; rfl)
theorem GapAt.frozB (h : GapAt W w b R) (i : Nat) : w.frozen? ⟨b.bb, i, none⟩ = false := by
  have hs := h.slB.2
  rcases hs with ⟨e, _⟩ | ⟨g, off, cap, cs, e, hg, _⟩
  · cases e
  · injection e with e1 _ _
    injection e1 with e1
    injection e1 with e2 e3
    rw [e2]
    simp [World.frozen?, hg]
theorem GapAt.cap (h : GapAt W w b R) : b.g.B.length ≤ b.bc ∧ b.bc ≤ maxLen := by
  obtain ⟨A, c, hv, h1, h2⟩ := h.slB.form
  injection hv with _ _ e
  rw [e]
  exact ⟨h1, h2⟩
theorem eql_runes (w : World) (a : Option Addr) (n c : Nat) : (binOp .eql 62 (.slice a n c) (.slice none 0 0)).run Tryd.prog w = .ok (.bool a.isNone) w := Lib.run_eql_slice_nil w _ _ a n c 0 0 Tryd.underlying62
attribute [local go_sem] eql_runes
set_option maxRecDepth 100000 in
theorem none_any (h : GapAt W w b R) : Calls Tryd.prog 37 #[.pointer (some ⟨b.tb, 0, none⟩)] w fun e w' => e = .returned (.bool false) ∧ w = w' := by
  have c0 := h.c0
  clear h
  go_enter Tryd.func37, Tryd.ntmps37
  go_wp2
  go_ret
  exact ⟨rfl, rfl⟩
theorem none_nil (w : World) : Calls Tryd.prog 37 #[.pointer none] w fun e w' => e = .returned (.bool true) ∧ w = w' := by
  go_enter Tryd.func37, Tryd.ntmps37
  go_wp2
  go_ret
  exact ⟨rfl, rfl⟩
set_option maxRecDepth 100000 in
theorem size_gap (h : GapAt W w b R) : Calls Tryd.prog 16 #[.pointer (some ⟨b.tb, 0, none⟩)] w fun e w' => e = .returned (.int .i64 ((b.g.B.length : Int) - ((b.g.en : Int) - (b.g.st : Int)))) ∧ ∃ q, w' = w.drewN q := by
  have HN := hide (none_any h)
  have c0 := h.c0
  have c1 := h.c1
  have c2 := h.c2
  have h1 := h.le1
  have h2 := h.le2
  have h3 := h.lim
  obtain ⟨n, hn⟩ : ∃ n, n = b.g.B.length := ⟨_, rfl⟩
  obtain ⟨s, hs⟩ : ∃ s, s = b.g.st := ⟨_, rfl⟩
  obtain ⟨e, he⟩ : ∃ e, e = b.g.en := ⟨_, rfl⟩
  have hw1 : IntKind.i64.wrap ((e : Int) - (s : Int)) = (e : Int) - (s : Int) := IntWalk.i64_in _ (by omega)
  have hw2 : IntKind.i64.wrap ((n : Int) - ((e : Int) - (s : Int))) = (n : Int) - ((e : Int) - (s : Int)) := IntWalk.i64_in _ (by omega)
  unfold Gb.bv at c0
  rw [← hn] at c0 ⊢
  rw [← hs] at c1 ⊢
  rw [← he] at c2 ⊢
  clear h h1 h2 h3 hn hs he
  go_enter Tryd.func16, Tryd.ntmps16
  go_wp2_with fail
  refine (Calls.mono (HN.out)) ?_
  rintro r w2 ⟨rfl, rfl⟩
  go_wp2
  go_quiet (fail)
  go_wp2
  go_ret
  exact ⟨rfl, _, rfl⟩
theorem size_any (h : TextAt W w b L R) : Calls Tryd.prog 16 #[.pointer (some ⟨b.tb, 0, none⟩)] w fun e w' => e = .returned (.int .i64 (L.length : Int)) ∧ ∃ q, w' = w.drewN q := by
  have := size_gap h.gap
  have e := b.g.len h.gap.le1 h.gap.le2
  rw [h.ok.chars] at e
  have e1 := h.gap.le1
  have e2 := h.gap.le2
  rwa [show (b.g.B.length : Int) - ((b.g.en : Int) - (b.g.st : Int)) = (L.length : Int) by omega] at this
end
end Go.Proofs.YtbljppcaikhjhaaDoor
