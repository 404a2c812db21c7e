/- What Insert does: the plain side, and the steps of its loops. No condition but those written. -/
import Derived.Test.YtbljppcaikhjhaaDoorGapF
import Derived.Laws.RangeAny
namespace Go.Proofs.YtbljppcaikhjhaaDoor
open Go.RowKit

/-! ### The plain side -/
def charsOf (s : ByteArray) : List Nat := (charsL s.data.toList).getD []
theorem charsOf_eq {s : ByteArray} (h : validS s = true) : charsL s.data.toList = some (charsOf s) := by
  unfold validS at h
  unfold charsOf
  cases hc : charsL s.data.toList with
  | none => rw [hc] at h; cases h
  | some l => rfl
theorem lenS_eq (s : ByteArray) : lenS s = (charsOf s).length := rfl
/-- The error of an insertion. -/
def insErr (L : List Nat) (at' : Int) (s : ByteArray) : Int :=
  if at' < 1 ∨ (L.length : Int) + 1 < at' then 3 else if validS s = false then 5 else if 65536 < L.length + lenS s then 4 else 0
def insL (L : List Nat) (at' : Int) (s : ByteArray) : List Nat :=
  if insErr L at' s = 0 then L.take (at' - 1).toNat ++ charsOf s ++ L.drop (at' - 1).toNat else L
/-- The list of line feeds while its tail is moved up. -/
def bump (F : List Nat) (p n k : Nat) : List Nat := F.take p ++ ((F.drop p).take (k - p)).map (· + n) ++ F.drop k
theorem bump_start (F : List Nat) (p n : Nat) : bump F p n p = F := by
  unfold bump
  rw [Nat.sub_self, List.take_zero, List.map_nil, List.append_nil, List.take_append_drop]
theorem bump_len {F : List Nat} {p n k : Nat} (h1 : p ≤ k) (h2 : k ≤ F.length) : (bump F p n k).length = F.length := by
  unfold bump
  simp only [List.length_append, List.length_map, List.length_take, List.length_drop]
  omega
theorem bump_at {F : List Nat} {p n k : Nat} (h1 : p ≤ k) (h2 : k < F.length) : (bump F p n k)[k]? = F[k]? := by
  unfold bump
  rw [List.getElem?_append_right (by simp only [List.length_append, List.length_map, List.length_take, List.length_drop]; omega), List.getElem?_drop]
  congr 1
  simp only [List.length_append, List.length_map, List.length_take, List.length_drop]
  omega
theorem bump_step {F : List Nat} {p n k x : Nat} (h1 : p ≤ k) (hx : F[k]? = some x) : (bump F p n k).set k (x + n) = bump F p n (k + 1) := by
  have h2 := (List.getElem?_eq_some_iff.1 hx).1
  apply List.ext_getElem?
  intro i
  rw [List.getElem?_set, bump_len h1 (by omega)]
  have e : ∀ k, p ≤ k → k ≤ F.length → (bump F p n k)[i]? = if i < p then F[i]? else if i < k then (F[i]?).map (· + n) else F[i]? := by
    intro k hk hk2
    unfold bump
    rw [List.append_assoc, List.getElem?_append, List.length_take, Nat.min_eq_left (by omega)]
    split
    · rw [List.getElem?_take, if_pos (by assumption)]
    · rw [List.getElem?_append, List.length_map, List.length_take, List.length_drop, Nat.min_eq_left (by omega)]
      split
      · rw [if_pos (by omega), List.getElem?_map, List.getElem?_take, if_pos (by omega), List.getElem?_drop]
        congr 2
        omega
      · rw [if_neg (by omega), List.getElem?_drop]
        congr 1
        omega
  rw [e k h1 (by omega), e (k + 1) (by omega) (by omega)]
  by_cases hik : k = i
  · subst hik
    rw [if_pos rfl, if_pos (by omega), if_neg (by omega), if_pos (by omega), hx]
    rfl
  · rw [if_neg hik]
    by_cases h3 : i < p
    · rw [if_pos h3, if_pos h3]
    · rw [if_neg h3, if_neg h3]
      by_cases h4 : i < k
      · rw [if_pos h4, if_pos (by omega)]
      · rw [if_neg h4, if_neg (by omega)]
theorem bump_end (F : List Nat) (p n : Nat) : bump F p n F.length = F.take p ++ (F.drop p).map (· + n) := by
  unfold bump
  rw [List.drop_length, List.append_nil, List.take_of_length_le (l := F.drop p) (by rw [List.length_drop]; omega)]
/-- The line feeds behind an insertion. -/
theorem feeds_insert (A X B : List Nat) : (feeds 1 (A ++ B)).take (feeds 1 A).length ++ feeds (A.length + 1) X ++ ((feeds 1 (A ++ B)).drop (feeds 1 A).length).map (· + X.length) = feeds 1 (A ++ X ++ B) := by
  rw [feeds_append 1 A B, List.take_left, List.drop_left, ← feeds_shift, feeds_append 1 (A ++ X) B, feeds_append 1 A X, List.length_append, Nat.add_comm 1 A.length, show 1 + (A.length + X.length) = A.length + 1 + X.length by omega]

/-! ### The steps -/
theorem next_more {P : Program} {w : World} {r pos : Nat} {s : ByteArray} (ty : TypeId) (h : w.heap[r]? = some (.stringIter s pos)) (hp : pos < s.size) :
    (Instr.next (.pointer (some ⟨r, 0, none⟩)) true ty).run P w = .ok (.tuple #[.bool true, .int .i64 (pos : Int), .int .i32 ((Utf8.decode s pos).1 : Int)]) { w with heap := w.heap.setIfInBounds r (.stringIter s (pos + (Utf8.decode s pos).2)) } := by
  simp only [Instr.next, getObj, setObj, Sem.run_bind, Sem.run, h, Result.andThen, hp, if_true]
  simp [goInt, Sem.run, h]
theorem next_over {P : Program} {w : World} {r pos : Nat} {s : ByteArray} (ty : TypeId) (h : w.heap[r]? = some (.stringIter s pos)) (hp : ¬ pos < s.size) :
    (Instr.next (.pointer (some ⟨r, 0, none⟩)) true ty).run P w = .ok (.tuple #[.bool false]) w := by
  simp [Instr.next, getObj, Sem.run, h, hp]
/-- The characters from a place on: the next one. -/
theorem chars_next {s : ByteArray} {pos : Nat} {X : List Nat} (h : charsL (s.data.toList.drop pos) = some X) :
    (X = [] ∧ ¬ pos < s.size) ∨ ∃ c Y, X = c :: Y ∧ pos < s.size ∧ (Utf8.decode s pos).1 = c ∧ charsL (s.data.toList.drop (pos + (Utf8.decode s pos).2)) = some Y := by
  have h2 : s.size = s.data.size := rfl
  by_cases hp : pos < s.size
  · have hne : s.data.toList.drop pos ≠ [] := by
      intro e
      have := List.drop_eq_nil_iff.1 e
      simp at this
      omega
    rw [charsL_step _ hne] at h
    split at h
    · cases h
    · rename_i hz
      have hd : ¬ ((Lib.decodeL (s.data.toList.drop pos)).1 = 65533 ∧ (Lib.decodeL (s.data.toList.drop pos)).2 = 1) := fun e => hz ((pointL_zero _).2 e)
      have he : pointL (s.data.toList.drop pos) = Utf8.decode s pos := by rw [pointL_eq, if_neg hd, Lib.decodeL_drop]
      obtain ⟨Y, hY, rfl⟩ := Option.map_eq_some_iff.1 h
      rw [List.drop_drop, he] at hY
      rw [he]
      exact .inr ⟨_, Y, rfl, hp, rfl, hY⟩
  · have : s.data.toList.drop pos = [] := List.drop_eq_nil_of_le (by simp; omega)
    rw [this, charsL_nil] at h
    cases h
    exact .inl ⟨rfl, hp⟩
section
variable {W w w' : World} {b : Gb} {L : List Nat} {R : Heap}
theorem GapAt.obj (h : GapAt W w b R) (o : Obj) : GapAt W (w.alloc o) b ((w.heap.size, .obj o) :: R) := ⟨(h.own.newObj o).perm List.perm_middle.symm, h.okf, h.le1, h.le2, h.lim⟩
/-- A line feed's position is written. -/
theorem GapAt.setFeed {g off c k x : Nat} (h : GapAt W w b R) (hv : b.fv = .slice (some ⟨g, off, none⟩) b.g.F.length c) (hk : k < b.g.F.length) :
    GapAt W (w.setCell ⟨g, off + k, none⟩ (.int .i64 (x : Int))) { b with g := { b.g with F := b.g.F.set k x } } R := by
  have h1 := h.own
  unfold Gb.heap at h1
  rw [rowOf_some (v := b.fv) (g := g) (by rw [hv]; rfl), hv] at h1
  have h2 : Own W w ((g, .row 3 1 (.slice (some ⟨g, off, none⟩) b.g.F.length c) b.g.F.length (ints b.g.F)) :: ((b.tb, .cells 64 (gapCells b)) :: (b.bb, .row 21 1 b.bv b.g.B.length (runs b.g.B)) :: R)) := h1.perm (by
    classical
    rw [List.perm_iff_count]
    intro x
    simp only [List.count_append, List.count_cons, List.count_nil]
    omega
    )
  have h3 := h2.setRow k (by rw [ints_size]; exact hk) (.int .i64 (x : Int))
  have e : (ints b.g.F).set k (.int .i64 (x : Int)) = ints (b.g.F.set k x) := by simp [ints, List.map_set]
  rw [e] at h3
  refine ⟨?_, ?_, h.le1, h.le2, h.lim⟩
  · unfold Gb.heap
    show Own W _ ((b.tb, .cells 64 (gapCells b)) :: (b.bb, .row 21 1 b.bv b.g.B.length (runs b.g.B)) :: (rowOf 3 1 b.fv (b.g.F.set k x).length (ints (b.g.F.set k x)) ++ R))
    rw [List.length_set, rowOf_some (v := b.fv) (g := g) (by rw [hv]; rfl), hv]
    refine h3.perm ?_
    classical
    rw [List.perm_iff_count]
    intro x
    simp only [List.count_append, List.count_cons, List.count_nil]
    omega
  · show RowOk b.fv (b.g.F.set k x).length
    rw [List.length_set]
    exact h.okf
/-- A character is written at the gap. -/
theorem GapAt.setRune {c : Nat} (h : GapAt W w b R) (hk : b.g.st < b.g.en) : GapAt W ((w.setCell ⟨b.bb, b.bo + b.g.st, none⟩ (.int .i32 (c : Int))).setCell ⟨b.tb, 1, none⟩ (.int .i64 ((b.g.st + 1 : Nat) : Int))) { b with g := { b.g with B := b.g.B.set b.g.st c, st := b.g.st + 1 } } R := by
  have h1 := h.own
  unfold Gb.heap at h1
  have hlt : b.g.st < b.g.B.length := by have := h.le2; omega
  have h2 : Own W w ((b.bb, .row 21 1 b.bv b.g.B.length (runs b.g.B)) :: ((b.tb, .cells 64 (gapCells b)) :: (rowOf 3 1 b.fv b.g.F.length (ints b.g.F) ++ R))) := h1.perm (List.Perm.swap _ _ _)
  have h3 := h2.setRow b.g.st (by rw [runs_size]; exact hlt) (.int .i32 (c : Int))
  rw [runs_set] at h3
  have h4 := Own.setCell (h3.perm (List.Perm.swap _ _ _)) 1 (.int .i64 ((b.g.st + 1 : Nat) : Int))
  refine ⟨?_, h.okf, by show b.g.st + 1 ≤ b.g.en; omega, by show b.g.en ≤ (b.g.B.set b.g.st c).length; rw [List.length_set]; exact h.le2, by show (b.g.B.set b.g.st c).length ≤ _; rw [List.length_set]; exact h.lim⟩
  unfold Gb.heap gapCells
  show Own W _ ((b.tb, .cells 64 #[.slice (some ⟨b.bb, b.bo, none⟩) (b.g.B.set b.g.st c).length b.bc, .int .i64 ((b.g.st + 1 : Nat) : Int), .int .i64 (b.g.en : Int), b.fv]) :: (b.bb, .row 21 1 (.slice (some ⟨b.bb, b.bo, none⟩) (b.g.B.set b.g.st c).length b.bc) (b.g.B.set b.g.st c).length (runs (b.g.B.set b.g.st c))) :: (rowOf 3 1 b.fv b.g.F.length (ints b.g.F) ++ R))
  rw [List.length_set]
  exact h4
/-- The list of line feeds takes another's place. -/
theorem GapAt.setF {v' : Value} {F' : List Nat} (h : GapAt W w b R) (hs : IntSl w' v' F') (ho : Only (fun g => b.fv.ownBlock = some g) w w') (hv : v'.ownBlock = b.fv.ownBlock ∨ v'.ownBlock = some w.heap.size) :
    Blk w' b.tb 64 (gapCells b) ∧ GapAt W (w'.setCell ⟨b.tb, 3, none⟩ v') { b with fv := v', g := { b.g with F := F' } } R := by
  have h1 := h.own
  unfold Gb.heap at h1
  have h2 : Own W w (rowOf 3 1 b.fv b.g.F.length (ints b.g.F) ++ ((b.tb, .cells 64 (gapCells b)) :: (b.bb, .row 21 1 b.bv b.g.B.length (runs b.g.B)) :: R)) := h1.perm (by
    classical
    rw [List.perm_iff_count]
    intro x
    simp only [List.count_append, List.count_cons]
    omega
    )
  have h3 := h2.appended hs ho hv
  have hb : Blk w' b.tb 64 (gapCells b) := h3.blk (by simp)
  have h4 : Own W w' ((b.tb, .cells 64 (gapCells b)) :: ((b.bb, .row 21 1 b.bv b.g.B.length (runs b.g.B)) :: (rowOf 3 1 v' F'.length (ints F') ++ R))) := h3.perm (by
    classical
    rw [List.perm_iff_count]
    intro x
    simp only [List.count_append, List.count_cons]
    omega
    )
  exact ⟨hb, ⟨h4.setCell 3 v', hs.rowOk, h.le1, h.le2, h.lim⟩⟩
/-- The iterator turns. -/
theorem GapAt.nextPos {gi pos pos' : Nat} {s : ByteArray} (h : GapAt W w b ((gi, .obj (.stringIter s pos)) :: R)) : GapAt W { w with heap := w.heap.setIfInBounds gi (.stringIter s pos') } b ((gi, .obj (.stringIter s pos')) :: R) := by
  have hlt : gi < w.heap.size := h.own.lt (g := gi) (a := .obj (.stringIter s pos)) (by simp)
  refine h.turnR (only_setObj w gi _) ?_
  show (w.heap.setIfInBounds gi (.stringIter s pos'))[gi]? = _
  simp [hlt]
/-- A list of the call's own joins the rest, or turns. -/
theorem GapAt.pushRow {v v' : Value} {F : List Nat} {x : Nat} (h : GapAt W w b (rowOf 3 1 v F.length (ints F) ++ R)) (hs : Sl w' 3 1 v' (F.length + 1) (ints F ++ [.int .i64 (x : Int)])) (ho : Only (fun g => v.ownBlock = some g) w w') (hv : v'.ownBlock = v.ownBlock ∨ v'.ownBlock = some w.heap.size) :
    GapAt W w' b (rowOf 3 1 v' (F ++ [x]).length (ints (F ++ [x])) ++ R) := by
  have h1 : Own W w (rowOf 3 1 v F.length (ints F) ++ (b.heap ++ R)) := h.own.perm (by
    classical
    rw [List.perm_iff_count]
    intro x
    simp only [List.count_append, List.count_cons]
    omega
    )
  have h2 := h1.appended hs ho hv
  rw [show (F ++ [x]).length = F.length + 1 by simp, show ints (F ++ [x]) = ints F ++ [.int .i64 (x : Int)] by simp [ints]]
  refine ⟨h2.perm ?_, h.okf, h.le1, h.le2, h.lim⟩
  classical
  rw [List.perm_iff_count]
  intro x
  simp only [List.count_append, List.count_cons]
  omega
end
end Go.Proofs.YtbljppcaikhjhaaDoor
