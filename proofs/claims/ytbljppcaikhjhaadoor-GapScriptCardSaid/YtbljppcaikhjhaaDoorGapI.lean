/- The walk of Insert where it inserts. No condition but those written. -/
import Derived.Test.YtbljppcaikhjhaaDoorGapH
namespace Go.Proofs.YtbljppcaikhjhaaDoor
open Go.RowKit

theorem decode_pos {s : ByteArray} {pos : Nat} {X : List Nat} (hp : pos < s.size) (h : charsL (s.data.toList.drop pos) = some X) : 0 < (Utf8.decode s pos).2 := by
  have h2 : s.size = s.data.size := rfl
  have hne : s.data.toList.drop pos ≠ [] := by
    intro e
    have := List.drop_eq_nil_iff.1 e
    simp at this
    omega
  rw [charsL_step _ hne] at h
  split at h
  · cases h
  · rename_i hz
    have hd : ¬ ((Lib.decodeL (s.data.toList.drop pos)).1 = 65533 ∧ (Lib.decodeL (s.data.toList.drop pos)).2 = 1) := fun e => hz ((pointL_zero _).2 e)
    have he : pointL (s.data.toList.drop pos) = Utf8.decode s pos := by rw [pointL_eq, if_neg hd, Lib.decodeL_drop]
    rw [he] at hz
    omega
theorem feeds_snoc (p : Nat) (X : List Nat) (c : Nat) : feeds p (X ++ [c]) = if c = 10 then feeds p X ++ [p + X.length] else feeds p X := by
  rw [feeds_append, show feeds (p + X.length) [c] = if c = 10 then [p + X.length] else [] from rfl]
  split <;> simp
section
variable {W w w' : World} {b : Gb} {L : List Nat} {R : Heap}
theorem GapAt.apart (h : GapAt W w b R) : b.bb ≠ b.tb := by
  have := h.own.nod
  simp [Gb.heap, Heap.blocks] at this
  intro e
  exact this.1.1 e.symm
theorem grow_ins {a n : Nat} {F : List Nat} (h : GapAt W w b R) (hst : b.g.st = a) (hF : b.g.F = F) (hch : b.g.chars = L) (ha : a ≤ L.length) (hn : L.length + n ≤ 65536) : Calls Tryd.prog 41 #[.pointer (some ⟨b.tb, 0, none⟩), .int .i64 (n : Int)] w fun e w' => e = .returned (.tuple #[]) ∧ ∃ bb bo bc fv B en, GapAt W w' ⟨b.tb, bb, bo, bc, fv, ⟨B, a, en, F⟩⟩ R ∧ n ≤ en - a ∧ B.take a = L.take a ∧ B.drop en = L.drop a := by
  refine (grow_any h n (by rw [hch]; exact hn)).mono ?_
  rintro e w' ⟨rfl, ⟨tb, bb, bo, bc, fv, ⟨B, st, en, F'⟩⟩, h1, h2, h3, h4, h5, h6, h7⟩
  have e1 : tb = b.tb := h1
  have e2 : st = a := h5.trans hst
  have e3 : F' = F := h3.trans hF
  rw [e1, e2, e3] at h4
  have h8 : B.take a ++ B.drop en = L := by rw [← hch, ← h7, ← e2]; rfl
  have h9 : (B.take a).length = a := by
    have k1 : a ≤ en := h4.le1
    have k2 : en ≤ B.length := h4.le2
    rw [List.length_take]
    omega
  refine ⟨rfl, bb, bo, bc, fv, B, en, h4, by rw [← e2]; exact h6, ?_, ?_⟩
  · rw [← h8, List.take_left' h9]
  · rw [← h8, List.drop_left' h9]
/-- The end of an insertion: the new list of line feeds is stored. -/
def InsIt (W : World) (tb bb bo bc : Nat) (fv : Value) (F : List Nat) (en gi a N : Nat) (L X : List Nat) (s : ByteArray) (R : Heap) (v : Value) (wr : World) : Prop :=
  ∃ (pos : Nat) (X1 X2 B' : List Nat), X = X1 ++ X2 ∧ charsL (s.data.toList.drop pos) = some X2 ∧
    GapAt W wr ⟨tb, bb, bo, bc, fv, ⟨B', a + X1.length, en, F⟩⟩ ((gi, .obj (.stringIter s pos)) :: (rowOf 3 1 v (feeds (a + 1) X1).length (ints (feeds (a + 1) X1)) ++ R)) ∧
    RowOk v (feeds (a + 1) X1).length ∧ B'.length = N ∧ B'.take (a + X1.length) = L.take a ++ X1 ∧ B'.drop en = L.drop a
theorem InsIt.slV {tb bb bo bc : Nat} {fv : Value} {F : List Nat} {en gi a : Nat} {X1 B' : List Nat} {s : ByteArray} {pos : Nat} {v : Value} (h : GapAt W w ⟨tb, bb, bo, bc, fv, ⟨B', a + X1.length, en, F⟩⟩ ((gi, .obj (.stringIter s pos)) :: (rowOf 3 1 v (feeds (a + 1) X1).length (ints (feeds (a + 1) X1)) ++ R))) (ok : RowOk v (feeds (a + 1) X1).length) : IntSl w v (feeds (a + 1) X1) :=
  h.own.slOf (fun x hx => by simp; exact .inr (.inr (.inl hx))) (by rw [ints_size, Nat.mul_one]) ok
/-- A round: the character is written. -/
theorem InsIt.step {tb bb bo bc : Nat} {fv : Value} {F : List Nat} {en gi a N pos c : Nat} {X X1 Y B' : List Nat} {s : ByteArray} {v : Value} (hX : X = X1 ++ c :: Y) (hch : charsL (s.data.toList.drop pos) = some Y)
    (h : GapAt W w ⟨tb, bb, bo, bc, fv, ⟨B', a + X1.length, en, F⟩⟩ ((gi, .obj (.stringIter s pos)) :: (rowOf 3 1 v (feeds (a + 1) (X1 ++ [c])).length (ints (feeds (a + 1) (X1 ++ [c]))) ++ R))) (ok : RowOk v (feeds (a + 1) (X1 ++ [c])).length) (hN : B'.length = N) (hB : B'.take (a + X1.length) = L.take a ++ X1) (hD : B'.drop en = L.drop a) (hlt : a + X1.length < en) (hen : en ≤ B'.length) :
    InsIt W tb bb bo bc fv F en gi a N L X s R v ((w.setCell ⟨bb, bo + (a + X1.length), none⟩ (.int .i32 (c : Int))).setCell ⟨tb, 1, none⟩ (.int .i64 ((a + X1.length + 1 : Nat) : Int))) ∧
      ((w.setCell ⟨bb, bo + (a + X1.length), none⟩ (.int .i32 (c : Int))).setCell ⟨tb, 1, none⟩ (.int .i64 ((a + X1.length + 1 : Nat) : Int))).iterPos gi = pos := by
  have h1 := h.setRune (c := c) hlt
  refine ⟨?_, iterPos_of (s := s) (h1.own.obj (g := gi) (by simp))⟩
  refine ⟨pos, X1 ++ [c], Y, B'.set (a + X1.length) c, by simp [hX], hch, ?_, ok, by rw [List.length_set]; exact hN, ?_, ?_⟩
  · rw [show a + (X1 ++ [c]).length = a + X1.length + 1 by simp; omega]
    exact h1
  · rw [show a + (X1 ++ [c]).length = a + X1.length + 1 by simp; omega, List.take_add_one, List.take_set_of_le (by omega), hB, List.getElem?_set, if_pos rfl, if_pos (by omega)]
    simp
  · rw [List.drop_set_of_lt (by omega), hD]
/-- The last: the new list of line feeds is in its place. -/
theorem ins_final {tb bb bo bc : Nat} {fv v' : Value} {F F2 : List Nat} {en a : Nat} {X B' : List Nat} (h : GapAt W w ⟨tb, bb, bo, bc, fv, ⟨B', a + X.length, en, F⟩⟩ R) (ha : a ≤ L.length) (hX : ∀ c ∈ X, okc c) (hL : ∀ c ∈ L, okc c) (hl : L.length + X.length ≤ 65536)
    (hs : IntSl w' v' F2) (ho : Only (fun g => fv.ownBlock = some g) w w') (hv : v'.ownBlock = fv.ownBlock ∨ v'.ownBlock = some w.heap.size) (hF : F2 = feeds 1 (L.take a ++ X ++ L.drop a)) (hB : B'.take (a + X.length) = L.take a ++ X) (hD : B'.drop en = L.drop a) :
    Blk w' tb 64 (gapCells ⟨tb, bb, bo, bc, fv, ⟨B', a + X.length, en, F⟩⟩) ∧ TextAt W (w'.setCell ⟨tb, 3, none⟩ v') ⟨tb, bb, bo, bc, v', ⟨B', a + X.length, en, F2⟩⟩ (L.take a ++ X ++ L.drop a) R := by
  obtain ⟨h1, h2⟩ := h.setF hs ho hv
  refine ⟨h1, h2, ⟨h2.le1, h2.le2, h2.lim, ?_, hF, ?_, ?_⟩⟩
  · show B'.take (a + X.length) ++ B'.drop en = _
    rw [hB, hD]
  · simp
    omega
  · intro c hc
    rcases List.mem_append.1 hc with hc | hc
    · rcases List.mem_append.1 hc with hc | hc
      · exact hL c (List.mem_of_mem_take hc)
      · exact hX c hc
    · exact hL c (List.mem_of_mem_drop hc)
end
end Go.Proofs.YtbljppcaikhjhaaDoor
