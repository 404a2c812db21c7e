/- Insert. No condition but those written. -/
import Derived.Test.YtnbhejbpofjamaaGreatDoorBge
import Derived.Laws.RangeAny
namespace Go.Proofs.YtnbhejbpofjamaaGreatDoor
open Go.RowKit

/-! ### The plain side -/
def charsOf (s : ByteArray) : List Nat := (charsL s.data.toList).getD []
theorem charsOf_eq {s : ByteArray} (h : validS s = true) : charsL s.data.toList = some (charsOf s) := by
  unfold validS at h
  unfold charsOf
  cases hc : charsL s.data.toList with
  | none => rw [hc] at h; cases h
  | some l => rfl
theorem lenS_eq (s : ByteArray) : lenS s = (charsOf s).length := rfl
/-- The error of an insertion. -/
def insErr (L : List Nat) (at' : Int) (s : ByteArray) : Int :=
  if at' < 1 ∨ (L.length : Int) + 1 < at' then 3 else if validS s = false then 5 else if 65536 < L.length + lenS s then 4 else 0
def insL (L : List Nat) (at' : Int) (s : ByteArray) : List Nat :=
  if insErr L at' s = 0 then L.take (at' - 1).toNat ++ charsOf s ++ L.drop (at' - 1).toNat else L
/-- The list of line feeds while its tail is moved up. -/
def bump (F : List Nat) (p n k : Nat) : List Nat := F.take p ++ ((F.drop p).take (k - p)).map (· + n) ++ F.drop k
theorem bump_start (F : List Nat) (p n : Nat) : bump F p n p = F := by
  unfold bump
  rw [Nat.sub_self, List.take_zero, List.map_nil, List.append_nil, List.take_append_drop]
theorem bump_len {F : List Nat} {p n k : Nat} (h1 : p ≤ k) (h2 : k ≤ F.length) : (bump F p n k).length = F.length := by
  unfold bump
  simp only [List.length_append, List.length_map, List.length_take, List.length_drop]
  omega
theorem bump_at {F : List Nat} {p n k : Nat} (h1 : p ≤ k) (h2 : k < F.length) : (bump F p n k)[k]? = F[k]? := by
  unfold bump
  rw [List.getElem?_append_right (by simp only [List.length_append, List.length_map, List.length_take, List.length_drop]; omega), List.getElem?_drop]
  congr 1
  simp only [List.length_append, List.length_map, List.length_take, List.length_drop]
  omega
theorem bump_step {F : List Nat} {p n k x : Nat} (h1 : p ≤ k) (hx : F[k]? = some x) : (bump F p n k).set k (x + n) = bump F p n (k + 1) := by
  have h2 := (List.getElem?_eq_some_iff.1 hx).1
  apply List.ext_getElem?
  intro i
  rw [List.getElem?_set, bump_len h1 (by omega)]
  have e : ∀ k, p ≤ k → k ≤ F.length → (bump F p n k)[i]? = if i < p then F[i]? else if i < k then (F[i]?).map (· + n) else F[i]? := by
    intro k hk hk2
    unfold bump
    rw [List.append_assoc, List.getElem?_append, List.length_take, Nat.min_eq_left (by omega)]
    split
    · rw [List.getElem?_take, if_pos (by assumption)]
    · rw [List.getElem?_append, List.length_map, List.length_take, List.length_drop, Nat.min_eq_left (by omega)]
      split
      · rw [if_pos (by omega), List.getElem?_map, List.getElem?_take, if_pos (by omega), List.getElem?_drop]
        congr 2
        omega
      · rw [if_neg (by omega), List.getElem?_drop]
        congr 1
        omega
  rw [e k h1 (by omega), e (k + 1) (by omega) (by omega)]
  by_cases hik : k = i
  · subst hik
    rw [if_pos rfl, if_pos (by omega), if_neg (by omega), if_pos (by omega), hx]
    rfl
  · rw [if_neg hik]
    by_cases h3 : i < p
    · rw [if_pos h3, if_pos h3]
    · rw [if_neg h3, if_neg h3]
      by_cases h4 : i < k
      · rw [if_pos h4, if_pos (by omega)]
      · rw [if_neg h4, if_neg (by omega)]
theorem bump_end (F : List Nat) (p n : Nat) : bump F p n F.length = F.take p ++ (F.drop p).map (· + n) := by
  unfold bump
  rw [List.drop_length, List.append_nil, List.take_of_length_le (l := F.drop p) (by rw [List.length_drop]; omega)]
/-- The line feeds behind an insertion. -/
theorem feeds_insert (A X B : List Nat) : (feeds 1 (A ++ B)).take (feeds 1 A).length ++ feeds (A.length + 1) X ++ ((feeds 1 (A ++ B)).drop (feeds 1 A).length).map (· + X.length) = feeds 1 (A ++ X ++ B) := by
  rw [feeds_append 1 A B, List.take_left, List.drop_left, ← feeds_shift, feeds_append 1 (A ++ X) B, feeds_append 1 A X, List.length_append, Nat.add_comm 1 A.length, show 1 + (A.length + X.length) = A.length + 1 + X.length by omega]

/-! ### The steps -/
theorem next_more {P : Program} {w : World} {r pos : Nat} {s : ByteArray} (ty : TypeId) (h : w.heap[r]? = some (.stringIter s pos)) (hp : pos < s.size) :
    (Instr.next (.pointer (some ⟨r, 0, none⟩)) true ty).run P w = .ok (.tuple #[.bool true, .int .i64 (pos : Int), .int .i32 ((Utf8.decode s pos).1 : Int)]) { w with heap := w.heap.setIfInBounds r (.stringIter s (pos + (Utf8.decode s pos).2)) } := by
  simp only [Instr.next, getObj, setObj, Sem.run_bind, Sem.run, h, Result.andThen, hp, if_true]
  simp [goInt]
theorem next_over {P : Program} {w : World} {r pos : Nat} {s : ByteArray} (ty : TypeId) (h : w.heap[r]? = some (.stringIter s pos)) (hp : ¬ pos < s.size) :
    (Instr.next (.pointer (some ⟨r, 0, none⟩)) true ty).run P w = .ok (.tuple #[.bool false]) w := by
  simp [Instr.next, getObj, Sem.run, h, hp]
/-- The characters from a place on: the next one. -/
theorem chars_next {s : ByteArray} {pos : Nat} {X : List Nat} (h : charsL (s.data.toList.drop pos) = some X) :
    (X = [] ∧ ¬ pos < s.size) ∨ ∃ c Y, X = c :: Y ∧ pos < s.size ∧ (Utf8.decode s pos).1 = c ∧ charsL (s.data.toList.drop (pos + (Utf8.decode s pos).2)) = some Y := by
  have h2 : s.size = s.data.size := rfl
  by_cases hp : pos < s.size
  · have hne : s.data.toList.drop pos ≠ [] := by
      intro e
      have := List.drop_eq_nil_iff.1 e
      simp at this
      omega
    rw [charsL_step _ hne] at h
    split at h
    · cases h
    · rename_i hz
      have hd : ¬ ((Lib.decodeL (s.data.toList.drop pos)).1 = 65533 ∧ (Lib.decodeL (s.data.toList.drop pos)).2 = 1) := fun e => hz ((pointL_zero _).2 e)
      have he : pointL (s.data.toList.drop pos) = Utf8.decode s pos := by rw [pointL_eq, if_neg hd, Lib.decodeL_drop]
      obtain ⟨Y, hY, rfl⟩ := Option.map_eq_some_iff.1 h
      rw [List.drop_drop, he] at hY
      rw [he]
      exact .inr ⟨_, Y, rfl, hp, rfl, hY⟩
  · have : s.data.toList.drop pos = [] := List.drop_eq_nil_of_le (by simp; omega)
    rw [this, charsL_nil] at h
    cases h
    exact .inl ⟨rfl, hp⟩
section
variable {W w w' : World} {b : Gb} {L : List Nat} {R : Heap}
theorem GapAt.obj (h : GapAt W w b R) (o : Obj) : GapAt W (w.alloc o) b ((w.heap.size, .obj o) :: R) := ⟨(h.own.newObj o).perm List.perm_middle.symm, h.okf, h.le1, h.le2, h.lim⟩
/-- A line feed's position is written. -/
theorem GapAt.setFeed {g off c k x : Nat} (h : GapAt W w b R) (hv : b.fv = .slice (some ⟨g, off, none⟩) b.g.F.length c) (hk : k < b.g.F.length) :
    GapAt W (w.setCell ⟨g, off + k, none⟩ (.int .i64 (x : Int))) { b with g := { b.g with F := b.g.F.set k x } } R := by
  have h1 := h.own
  unfold Gb.heap at h1
  rw [rowOf_some (v := b.fv) (g := g) (by rw [hv]; rfl), hv] at h1
  have h2 : Own W w ((g, .row 3 1 (.slice (some ⟨g, off, none⟩) b.g.F.length c) b.g.F.length (ints b.g.F)) :: ((b.tb, .cells 164 (gapCells b)) :: (b.bb, .row 21 1 b.bv b.g.B.length (runs b.g.B)) :: R)) := h1.perm (by
    classical
    rw [List.perm_iff_count]
    intro x
    simp only [List.count_append, List.count_cons, List.count_nil]
    omega
    )
  have h3 := h2.setRow k (by rw [ints_size]; exact hk) (.int .i64 (x : Int))
  have e : (ints b.g.F).set k (.int .i64 (x : Int)) = ints (b.g.F.set k x) := by simp [ints, List.map_set]
  rw [e] at h3
  refine ⟨?_, ?_, h.le1, h.le2, h.lim⟩
  · unfold Gb.heap
    show Own W _ ((b.tb, .cells 164 (gapCells b)) :: (b.bb, .row 21 1 b.bv b.g.B.length (runs b.g.B)) :: (rowOf 3 1 b.fv (b.g.F.set k x).length (ints (b.g.F.set k x)) ++ R))
    rw [List.length_set, rowOf_some (v := b.fv) (g := g) (by rw [hv]; rfl), hv]
    refine h3.perm ?_
    classical
    rw [List.perm_iff_count]
    intro x
    simp only [List.count_append, List.count_cons, List.count_nil]
    omega
  · show RowOk b.fv (b.g.F.set k x).length
    rw [List.length_set]
    exact h.okf
/-- A character is written at the gap. -/
theorem GapAt.setRune {c : Nat} (h : GapAt W w b R) (hk : b.g.st < b.g.en) : GapAt W ((w.setCell ⟨b.bb, b.bo + b.g.st, none⟩ (.int .i32 (c : Int))).setCell ⟨b.tb, 1, none⟩ (.int .i64 ((b.g.st + 1 : Nat) : Int))) { b with g := { b.g with B := b.g.B.set b.g.st c, st := b.g.st + 1 } } R := by
  have h1 := h.own
  unfold Gb.heap at h1
  have hlt : b.g.st < b.g.B.length := by have := h.le2; omega
  have h2 : Own W w ((b.bb, .row 21 1 b.bv b.g.B.length (runs b.g.B)) :: ((b.tb, .cells 164 (gapCells b)) :: (rowOf 3 1 b.fv b.g.F.length (ints b.g.F) ++ R))) := h1.perm (List.Perm.swap _ _ _)
  have h3 := h2.setRow b.g.st (by rw [runs_size]; exact hlt) (.int .i32 (c : Int))
  rw [runs_set] at h3
  have h4 := Own.setCell (h3.perm (List.Perm.swap _ _ _)) 1 (.int .i64 ((b.g.st + 1 : Nat) : Int))
  refine ⟨?_, h.okf, by show b.g.st + 1 ≤ b.g.en; omega, by show b.g.en ≤ (b.g.B.set b.g.st c).length; rw [List.length_set]; exact h.le2, by show (b.g.B.set b.g.st c).length ≤ _; rw [List.length_set]; exact h.lim⟩
  unfold Gb.heap gapCells
  show Own W _ ((b.tb, .cells 164 #[.slice (some ⟨b.bb, b.bo, none⟩) (b.g.B.set b.g.st c).length b.bc, .int .i64 ((b.g.st + 1 : Nat) : Int), .int .i64 (b.g.en : Int), b.fv]) :: (b.bb, .row 21 1 (.slice (some ⟨b.bb, b.bo, none⟩) (b.g.B.set b.g.st c).length b.bc) (b.g.B.set b.g.st c).length (runs (b.g.B.set b.g.st c))) :: (rowOf 3 1 b.fv b.g.F.length (ints b.g.F) ++ R))
  rw [List.length_set]
  exact h4
/-- The list of line feeds takes another's place. -/
theorem GapAt.setF {v' : Value} {F' : List Nat} (h : GapAt W w b R) (hs : IntSl w' v' F') (ho : Only (fun g => b.fv.ownBlock = some g) w w') (hv : v'.ownBlock = b.fv.ownBlock ∨ v'.ownBlock = some w.heap.size) :
    Blk w' b.tb 164 (gapCells b) ∧ GapAt W (w'.setCell ⟨b.tb, 3, none⟩ v') { b with fv := v', g := { b.g with F := F' } } R := by
  have h1 := h.own
  unfold Gb.heap at h1
  have h2 : Own W w (rowOf 3 1 b.fv b.g.F.length (ints b.g.F) ++ ((b.tb, .cells 164 (gapCells b)) :: (b.bb, .row 21 1 b.bv b.g.B.length (runs b.g.B)) :: R)) := h1.perm (by
    classical
    rw [List.perm_iff_count]
    intro x
    simp only [List.count_append, List.count_cons]
    omega
    )
  have h3 := h2.appended hs ho hv
  have hb : Blk w' b.tb 164 (gapCells b) := h3.blk (by simp)
  have h4 : Own W w' ((b.tb, .cells 164 (gapCells b)) :: ((b.bb, .row 21 1 b.bv b.g.B.length (runs b.g.B)) :: (rowOf 3 1 v' F'.length (ints F') ++ R))) := h3.perm (by
    classical
    rw [List.perm_iff_count]
    intro x
    simp only [List.count_append, List.count_cons]
    omega
    )
  exact ⟨hb, ⟨h4.setCell 3 v', hs.rowOk, h.le1, h.le2, h.lim⟩⟩
/-- The iterator turns. -/
theorem GapAt.nextPos {gi pos pos' : Nat} {s : ByteArray} (h : GapAt W w b ((gi, .obj (.stringIter s pos)) :: R)) : GapAt W { w with heap := w.heap.setIfInBounds gi (.stringIter s pos') } b ((gi, .obj (.stringIter s pos')) :: R) := by
  have hlt : gi < w.heap.size := h.own.lt (g := gi) (a := .obj (.stringIter s pos)) (by simp)
  refine h.turnR (only_setObj w gi _) ?_
  show (w.heap.setIfInBounds gi (.stringIter s pos'))[gi]? = _
  simp [hlt]
/-- A list of the call's own joins the rest, or turns. -/
theorem GapAt.pushRow {v v' : Value} {F : List Nat} {x : Nat} (h : GapAt W w b (rowOf 3 1 v F.length (ints F) ++ R)) (hs : Sl w' 3 1 v' (F.length + 1) (ints F ++ [.int .i64 (x : Int)])) (ho : Only (fun g => v.ownBlock = some g) w w') (hv : v'.ownBlock = v.ownBlock ∨ v'.ownBlock = some w.heap.size) :
    GapAt W w' b (rowOf 3 1 v' (F ++ [x]).length (ints (F ++ [x])) ++ R) := by
  have h1 : Own W w (rowOf 3 1 v F.length (ints F) ++ (b.heap ++ R)) := h.own.perm (by
    classical
    rw [List.perm_iff_count]
    intro x
    simp only [List.count_append]
    omega
    )
  have h2 := h1.appended hs ho hv
  rw [show (F ++ [x]).length = F.length + 1 by simp, show ints (F ++ [x]) = ints F ++ [.int .i64 (x : Int)] by simp [ints]]
  refine ⟨h2.perm ?_, h.okf, h.le1, h.le2, h.lim⟩
  classical
  rw [List.perm_iff_count]
  intro x
  simp only [List.count_append]
  omega
end
end Go.Proofs.YtnbhejbpofjamaaGreatDoor
namespace Go.Proofs.YtnbhejbpofjamaaGreatDoor
open Go.RowKit

theorem iterPos_of {w : World} {g p : Nat} {s : ByteArray} (h : w.heap[g]? = some (.stringIter s p)) : w.iterPos g = p := by simp [World.iterPos, h]
theorem ins_any (F X : List Nat) (i : Nat) (v u : Value) (w : World) (h : IntSl w v F) (hx : IntSl w u X) (hne : ∀ g, v.ownBlock = some g → u.ownBlock ≠ some g) (hi : i ≤ F.length) (hl : F.length ≤ 1000000) (hX : X.length ≤ 1000000) :
    Calls Tryz.prog 67 #[v, .int .i64 (i : Int), u] w (InsRes w v (F.take i ++ X ++ F.drop i)) := by
  by_cases h0 : 0 < X.length
  · exact ins_some F X i v u w h hx hne hi hl hX h0
  · obtain rfl : X = [] := List.eq_nil_of_length_eq_zero (by omega)
    obtain ⟨A, c, rfl, _⟩ := hx.form
    exact ins_none F i v A c w h hi hl
theorem rows_apart {W w : World} {L : Heap} {T : TypeId} {v u : Value} {n m : Nat} {xs ys : List Value} (h : Own W w (rowOf T 1 v n xs ++ (rowOf T 1 u m ys ++ L))) : ∀ g, v.ownBlock = some g → u.ownBlock ≠ some g := by
  intro g hv hu
  have := h.nod
  rw [rowOf_some hv, rowOf_some hu] at this
  simp [Heap.blocks] at this
section
variable {W w w' : World} {b : Gb} {L : List Nat} {R : Heap}
/-- A text, and the tables of the library. -/
def InsSt (W : World) (b : Gb) (L : List Nat) (R : Heap) (w : World) : Prop := TextAt W w b L R ∧ Tabs w
theorem InsSt.below (h : InsSt W b L R w) (hb : Below w.heap.size w w') : InsSt W b L R w' := ⟨⟨h.1.gap.below hb, h.1.ok⟩, h.2.below hb⟩
theorem InsSt.none_ (h : InsSt W b L R w) : Calls Tryz.prog 123 #[.pointer (some ⟨b.tb, 0, none⟩)] w fun e w' => e = .returned (.bool false) ∧ InsSt W b L R w' :=
  (none_any h.1.gap).mono fun _ _ hh => ⟨hh.1, hh.2 ▸ h⟩
theorem InsSt.size_ (h : InsSt W b L R w) : Calls Tryz.prog 81 #[.pointer (some ⟨b.tb, 0, none⟩)] w fun e w' => e = .returned (.int .i64 (L.length : Int)) ∧ InsSt W b L R w' :=
  (size_any h.1).mono fun e w' hh => ⟨hh.1, by obtain ⟨q, rfl⟩ := hh.2; exact h.below (below_drewN (Below.refl _ _) q)⟩
theorem InsSt.valid_ (h : InsSt W b L R w) (s : ByteArray) (hs : s.size < 9223372036854775807) : Calls Tryz.prog 71 #[.string s] w fun e w' => e = .returned (.bool (validS s)) ∧ InsSt W b L R w' :=
  (valid_any s w (by omega) h.2).mono fun e w' hh => ⟨hh.1, h.below hh.2⟩
theorem InsSt.len_ (h : InsSt W b L R w) (s : ByteArray) (hs : s.size < 9223372036854775807) : Calls Tryz.prog 72 #[.string s] w fun e w' => e = .returned (.int .i64 (lenS s : Int)) ∧ InsSt W b L R w' :=
  (len_any s w hs h.2).mono fun _ _ hh => ⟨hh.1, h.below hh.2⟩

set_option maxRecDepth 100000 in
set_option maxHeartbeats 4000000 in
theorem insert_bad (h : InsSt W b L R w) (a : Int) (s : ByteArray) (hs : s.size < 9223372036854775807) (he : insErr L a s ≠ 0) : Calls Tryz.prog 136 #[.pointer (some ⟨b.tb, 0, none⟩), .int .i64 a, .string s] w fun e w' => e = .returned (.int .i64 (insErr L a s)) ∧ InsSt W b L R w' := by
  have H := hide h
  have hsz := h.1.ok.size
  have HLs := hide (show lenS s ≤ s.size from lenS_le s)
  have hls : lenS s < 9223372036854775807 := by have := lenS_le s; omega
  have HSZ := hide hs
  have hwl : IntKind.i64.wrap ((L.length : Int) + 1) = (L.length : Int) + 1 := IntWalk.i64_in _ (by omega)
  clear h
  by_cases h1 : a < 1
  · have HE := hide (show insErr L a s = 3 by unfold insErr; rw [if_pos (.inl h1)])
    have z1 : decide (a < 1) = true := by simpa using h1
    clear he h1
    go_enter Tryz.func136, Tryz.ntmps136
    go_wp2_with fail
    refine (Calls.mono (H.out.none_)) ?_
    rintro r w2 ⟨rfl, H2⟩
    have HH := hide H2
    clear H2
    go_wp2
    go_ret
    exact ⟨by rw [HE.out]; rfl, HH.out⟩
  · have z1 : decide (a < 1) = false := by simpa using h1
    by_cases h2 : (L.length : Int) + 1 < a
    · have HE := hide (show insErr L a s = 3 by unfold insErr; rw [if_pos (.inr h2)])
      have z2 : decide ((L.length : Int) + 1 < a) = true := by simpa using h2
      clear he h1 h2
      go_enter Tryz.func136, Tryz.ntmps136
      go_wp2_with fail
      refine (Calls.mono (H.out.none_)) ?_
      rintro r w2 ⟨rfl, H2⟩
      have HH := hide H2
      clear H2
      go_wp2_with fail
      refine (Calls.mono (HH.out.size_)) ?_
      rintro r w3 ⟨rfl, H3⟩
      have HH3 := hide H3
      clear H3
      go_wp2
      go_ret
      exact ⟨by rw [HE.out]; rfl, HH3.out⟩
    · have z2 : decide ((L.length : Int) + 1 < a) = false := by simpa using h2
      by_cases h3 : validS s = true
      · obtain ⟨n, hn⟩ : ∃ n, n = lenS s := ⟨_, rfl⟩
        have h4 : 65536 < L.length + n := by
          unfold insErr at he
          rw [if_neg (by omega), if_neg (by simp [h3]), ← hn] at he
          by_cases h4 : 65536 < L.length + n
          · exact h4
          · exact absurd (if_neg h4) he
        have HE := hide (show insErr L a s = 4 by unfold insErr; rw [if_neg (by omega), if_neg (by simp [h3]), ← hn, if_pos h4])
        have z4 : decide ((65536 : Int) - (L.length : Int) < (n : Int)) = true := by simp; omega
        have hw4 : IntKind.i64.wrap ((65536 : Int) - (L.length : Int)) = (65536 : Int) - (L.length : Int) := IntWalk.i64_in _ (by omega)
        have HV := hide (fun (w2 : World) (h2 : InsSt W b L R w2) => (show Calls Tryz.prog 71 #[.string s] w2 (fun e w' => e = .returned (.bool true) ∧ InsSt W b L R w') from h3 ▸ h2.valid_ s hs))
        have HL := hide (fun (w2 : World) (h2 : InsSt W b L R w2) => (show Calls Tryz.prog 72 #[.string s] w2 (fun e w' => e = .returned (.int .i64 (n : Int)) ∧ InsSt W b L R w') from hn ▸ h2.len_ s hs))
        rw [← hn] at hls
        clear he h1 h2 h3 h4 hn
        go_enter Tryz.func136, Tryz.ntmps136
        go_wp2_with fail
        refine (Calls.mono (H.out.none_)) ?_
        rintro r w2 ⟨rfl, H2⟩
        have HH := hide H2
        clear H2
        go_wp2_with fail
        refine (Calls.mono (HH.out.size_)) ?_
        rintro r w3 ⟨rfl, H3⟩
        have HH3 := hide H3
        clear H3
        go_wp2_with fail
        refine (Calls.mono (HV.out _ HH3.out)) ?_
        rintro r w4 ⟨rfl, H4⟩
        have HH4 := hide H4
        clear H4
        go_wp2_with fail
        refine (Calls.mono (HL.out _ HH4.out)) ?_
        rintro r w5 ⟨rfl, H5⟩
        have HH5 := hide H5
        clear H5
        go_wp2_with fail
        refine (Calls.mono (HH5.out.size_)) ?_
        rintro r w6 ⟨rfl, H6⟩
        have HH6 := hide H6
        clear H6
        go_wp2
        go_ret
        exact ⟨by rw [HE.out]; rfl, HH6.out⟩
      · have h3 : validS s = false := by simpa using h3
        have HE := hide (show insErr L a s = 5 by unfold insErr; rw [if_neg (by omega), if_pos h3])
        have HV := hide (fun (w2 : World) (h2 : InsSt W b L R w2) => (show Calls Tryz.prog 71 #[.string s] w2 (fun e w' => e = .returned (.bool false) ∧ InsSt W b L R w') from h3 ▸ h2.valid_ s hs))
        clear he h1 h2 h3
        go_enter Tryz.func136, Tryz.ntmps136
        go_wp2_with fail
        refine (Calls.mono (H.out.none_)) ?_
        rintro r w2 ⟨rfl, H2⟩
        have HH := hide H2
        clear H2
        go_wp2_with fail
        refine (Calls.mono (HH.out.size_)) ?_
        rintro r w3 ⟨rfl, H3⟩
        have HH3 := hide H3
        clear H3
        go_wp2_with fail
        refine (Calls.mono (HV.out _ HH3.out)) ?_
        rintro r w4 ⟨rfl, H4⟩
        have HH4 := hide H4
        clear H4
        go_wp2
        go_ret
        exact ⟨by rw [HE.out]; rfl, HH4.out⟩
end
end Go.Proofs.YtnbhejbpofjamaaGreatDoor
namespace Go.Proofs.YtnbhejbpofjamaaGreatDoor
open Go.RowKit

theorem decode_pos {s : ByteArray} {pos : Nat} {X : List Nat} (hp : pos < s.size) (h : charsL (s.data.toList.drop pos) = some X) : 0 < (Utf8.decode s pos).2 := by
  have h2 : s.size = s.data.size := rfl
  have hne : s.data.toList.drop pos ≠ [] := by
    intro e
    have := List.drop_eq_nil_iff.1 e
    simp at this
    omega
  rw [charsL_step _ hne] at h
  split at h
  · cases h
  · rename_i hz
    have hd : ¬ ((Lib.decodeL (s.data.toList.drop pos)).1 = 65533 ∧ (Lib.decodeL (s.data.toList.drop pos)).2 = 1) := fun e => hz ((pointL_zero _).2 e)
    have he : pointL (s.data.toList.drop pos) = Utf8.decode s pos := by rw [pointL_eq, if_neg hd, Lib.decodeL_drop]
    rw [he] at hz
    omega
theorem feeds_snoc (p : Nat) (X : List Nat) (c : Nat) : feeds p (X ++ [c]) = if c = 10 then feeds p X ++ [p + X.length] else feeds p X := by
  rw [feeds_append, show feeds (p + X.length) [c] = if c = 10 then [p + X.length] else [] from rfl]
  split <;> simp
section
variable {W w w' : World} {b : Gb} {L : List Nat} {R : Heap}
theorem GapAt.apart (h : GapAt W w b R) : b.bb ≠ b.tb := by
  have := h.own.nod
  simp [Gb.heap, Heap.blocks] at this
  intro e
  exact this.1.1 e.symm
theorem grow_ins {a n : Nat} {F : List Nat} (h : GapAt W w b R) (hst : b.g.st = a) (hF : b.g.F = F) (hch : b.g.chars = L) (_ha : a ≤ L.length) (hn : L.length + n ≤ 65536) : Calls Tryz.prog 164 #[.pointer (some ⟨b.tb, 0, none⟩), .int .i64 (n : Int)] w fun e w' => e = .returned (.tuple #[]) ∧ ∃ bb bo bc fv B en, GapAt W w' ⟨b.tb, bb, bo, bc, fv, ⟨B, a, en, F⟩⟩ R ∧ n ≤ en - a ∧ B.take a = L.take a ∧ B.drop en = L.drop a := by
  refine (grow_any h n (by rw [hch]; exact hn)).mono ?_
  rintro e w' ⟨rfl, ⟨tb, bb, bo, bc, fv, ⟨B, st, en, F'⟩⟩, h1, h2, h3, h4, h5, h6, h7⟩
  have e1 : tb = b.tb := h1
  have e2 : st = a := h5.trans hst
  have e3 : F' = F := h3.trans hF
  rw [e1, e2, e3] at h4
  have h8 : B.take a ++ B.drop en = L := by rw [← hch, ← h7, ← e2]; rfl
  have h9 : (B.take a).length = a := by
    have k1 : a ≤ en := h4.le1
    have k2 : en ≤ B.length := h4.le2
    rw [List.length_take]
    omega
  refine ⟨rfl, bb, bo, bc, fv, B, en, h4, by rw [← e2]; exact h6, ?_, ?_⟩
  · rw [← h8, List.take_left' h9]
  · rw [← h8, List.drop_left' h9]
/-- The end of an insertion: the new list of line feeds is stored. -/
def InsIt (W : World) (tb bb bo bc : Nat) (fv : Value) (F : List Nat) (en gi a N : Nat) (L X : List Nat) (s : ByteArray) (R : Heap) (v : Value) (wr : World) : Prop :=
  ∃ (pos : Nat) (X1 X2 B' : List Nat), X = X1 ++ X2 ∧ charsL (s.data.toList.drop pos) = some X2 ∧
    GapAt W wr ⟨tb, bb, bo, bc, fv, ⟨B', a + X1.length, en, F⟩⟩ ((gi, .obj (.stringIter s pos)) :: (rowOf 3 1 v (feeds (a + 1) X1).length (ints (feeds (a + 1) X1)) ++ R)) ∧
    RowOk v (feeds (a + 1) X1).length ∧ B'.length = N ∧ B'.take (a + X1.length) = L.take a ++ X1 ∧ B'.drop en = L.drop a
theorem InsIt.slV {tb bb bo bc : Nat} {fv : Value} {F : List Nat} {en gi a : Nat} {X1 B' : List Nat} {s : ByteArray} {pos : Nat} {v : Value} (h : GapAt W w ⟨tb, bb, bo, bc, fv, ⟨B', a + X1.length, en, F⟩⟩ ((gi, .obj (.stringIter s pos)) :: (rowOf 3 1 v (feeds (a + 1) X1).length (ints (feeds (a + 1) X1)) ++ R))) (ok : RowOk v (feeds (a + 1) X1).length) : IntSl w v (feeds (a + 1) X1) :=
  h.own.slOf (fun x hx => by simp; exact .inr (.inr (.inl hx))) (by rw [ints_size, Nat.mul_one]) ok
/-- A round: the character is written. -/
theorem InsIt.step {tb bb bo bc : Nat} {fv : Value} {F : List Nat} {en gi a N pos c : Nat} {X X1 Y B' : List Nat} {s : ByteArray} {v : Value} (hX : X = X1 ++ c :: Y) (hch : charsL (s.data.toList.drop pos) = some Y)
    (h : GapAt W w ⟨tb, bb, bo, bc, fv, ⟨B', a + X1.length, en, F⟩⟩ ((gi, .obj (.stringIter s pos)) :: (rowOf 3 1 v (feeds (a + 1) (X1 ++ [c])).length (ints (feeds (a + 1) (X1 ++ [c]))) ++ R))) (ok : RowOk v (feeds (a + 1) (X1 ++ [c])).length) (hN : B'.length = N) (hB : B'.take (a + X1.length) = L.take a ++ X1) (hD : B'.drop en = L.drop a) (hlt : a + X1.length < en) (hen : en ≤ B'.length) :
    InsIt W tb bb bo bc fv F en gi a N L X s R v ((w.setCell ⟨bb, bo + (a + X1.length), none⟩ (.int .i32 (c : Int))).setCell ⟨tb, 1, none⟩ (.int .i64 ((a + X1.length + 1 : Nat) : Int))) ∧
      ((w.setCell ⟨bb, bo + (a + X1.length), none⟩ (.int .i32 (c : Int))).setCell ⟨tb, 1, none⟩ (.int .i64 ((a + X1.length + 1 : Nat) : Int))).iterPos gi = pos := by
  have h1 := h.setRune (c := c) hlt
  refine ⟨?_, iterPos_of (s := s) (h1.own.obj (g := gi) (by simp))⟩
  refine ⟨pos, X1 ++ [c], Y, B'.set (a + X1.length) c, by simp [hX], hch, ?_, ok, by rw [List.length_set]; exact hN, ?_, ?_⟩
  · rw [show a + (X1 ++ [c]).length = a + X1.length + 1 by simp; omega]
    exact h1
  · rw [show a + (X1 ++ [c]).length = a + X1.length + 1 by simp; omega, List.take_add_one, List.take_set_of_le (by omega), hB, List.getElem?_set, if_pos rfl, if_pos (by omega)]
    simp
  · rw [List.drop_set_of_lt (by omega), hD]
/-- The last: the new list of line feeds is in its place. -/
theorem ins_final {tb bb bo bc : Nat} {fv v' : Value} {F F2 : List Nat} {en a : Nat} {X B' : List Nat} (h : GapAt W w ⟨tb, bb, bo, bc, fv, ⟨B', a + X.length, en, F⟩⟩ R) (ha : a ≤ L.length) (hX : ∀ c ∈ X, okc c) (hL : ∀ c ∈ L, okc c) (hl : L.length + X.length ≤ 65536)
    (hs : IntSl w' v' F2) (ho : Only (fun g => fv.ownBlock = some g) w w') (hv : v'.ownBlock = fv.ownBlock ∨ v'.ownBlock = some w.heap.size) (hF : F2 = feeds 1 (L.take a ++ X ++ L.drop a)) (hB : B'.take (a + X.length) = L.take a ++ X) (hD : B'.drop en = L.drop a) :
    Blk w' tb 164 (gapCells ⟨tb, bb, bo, bc, fv, ⟨B', a + X.length, en, F⟩⟩) ∧ TextAt W (w'.setCell ⟨tb, 3, none⟩ v') ⟨tb, bb, bo, bc, v', ⟨B', a + X.length, en, F2⟩⟩ (L.take a ++ X ++ L.drop a) R := by
  obtain ⟨h1, h2⟩ := h.setF hs ho hv
  refine ⟨h1, h2, ⟨h2.le1, h2.le2, h2.lim, ?_, hF, ?_, ?_⟩⟩
  · show B'.take (a + X.length) ++ B'.drop en = _
    rw [hB, hD]
  · simp
    omega
  · intro c hc
    rcases List.mem_append.1 hc with hc | hc
    · rcases List.mem_append.1 hc with hc | hc
      · exact hL c (List.mem_of_mem_take hc)
      · exact hX c hc
    · exact hL c (List.mem_of_mem_drop hc)
end
end Go.Proofs.YtnbhejbpofjamaaGreatDoor
namespace Go.Proofs.YtnbhejbpofjamaaGreatDoor
open Go.RowKit

section
variable {W w w' : World} {b : Gb} {L : List Nat} {R : Heap}
theorem InsIt.drew {tb bb bo bc : Nat} {fv : Value} {F : List Nat} {en gi a N : Nat} {L X : List Nat} {s : ByteArray} {v : Value} (h : InsIt W tb bb bo bc fv F en gi a N L X s R v w) : InsIt W tb bb bo bc fv F en gi a N L X s R v w.drew := by
  obtain ⟨pos, X1, X2, B', h1, h2, h3, h4⟩ := h
  exact ⟨pos, X1, X2, B', h1, h2, h3.drew, h4⟩
theorem insPerm {α : Type} (x : α) (A B : List α) : (x :: (A ++ B)).Perm (A ++ (x :: B)) := List.perm_middle.symm
theorem insPerm2 {α : Type} (x y z : α) (A B R : List α) : ((x :: y :: A) ++ (z :: (B ++ R))).Perm (A ++ (B ++ (x :: y :: z :: R))) := by
  classical
  rw [List.perm_iff_count]
  intro q
  simp only [List.count_append, List.count_cons]
  omega
def InsOk (W : World) (b : Gb) (L' : List Nat) (R : Heap) (e : Ending) (w' : World) : Prop := e = .returned (.int .i64 0) ∧ ∃ b', b'.tb = b.tb ∧ TextAt W w' b' L' R
set_option maxRecDepth 100000 in
set_option maxHeartbeats 4000000 in
theorem insert_ok (h : InsSt W b L R w) (a : Nat) (ha : a ≤ L.length) (s : ByteArray) (hs : s.size < 9223372036854775807) (X : List Nat) (hX : charsL s.data.toList = some X) (hl : L.length + X.length ≤ 65536) :
    Calls Tryz.prog 136 #[.pointer (some ⟨b.tb, 0, none⟩), .int .i64 ((a : Int) + 1), .string s] w (InsOk W b (L.take a ++ X ++ L.drop a) R) := by
  have H := hide h
  have hsz := h.1.ok.size
  obtain ⟨n, hn⟩ : ∃ n, n = X.length := ⟨_, rfl⟩
  obtain ⟨l, hll⟩ : ∃ l, l = L.length := ⟨_, rfl⟩
  have hv : validS s = true := by simp [validS, hX]
  have hnl : lenS s = n := by simp [lenS, hX, hn]
  have HV := hide (fun (w2 : World) (h2 : InsSt W b L R w2) => (show Calls Tryz.prog 71 #[.string s] w2 (fun e w' => e = .returned (.bool true) ∧ InsSt W b L R w') from hv ▸ h2.valid_ s hs))
  have HL := hide (fun (w2 : World) (h2 : InsSt W b L R w2) => (show Calls Tryz.prog 72 #[.string s] w2 (fun e w' => e = .returned (.int .i64 (n : Int)) ∧ InsSt W b L R w') from hnl ▸ h2.len_ s hs))
  have HS := hide (fun (w2 : World) (h2 : InsSt W b L R w2) => (show Calls Tryz.prog 81 #[.pointer (some ⟨b.tb, 0, none⟩)] w2 (fun e w' => e = .returned (.int .i64 (l : Int)) ∧ InsSt W b L R w') from hll ▸ h2.size_))
  have HA := hide ha
  have HLL := hide hll
  have HNN := hide hn
  have HX := hide hX
  rw [← hll, ← hn] at hl
  rw [← hll] at ha hsz
  have hn6 : n ≤ 65536 := by omega
  have ha6 : a ≤ 65536 := by omega
  have hwl : IntKind.i64.wrap ((l : Int) + 1) = (l : Int) + 1 := IntWalk.i64_in _ (by omega)
  have hwa : IntKind.i64.wrap ((a : Int) + 1) = (a : Int) + 1 := IntWalk.i64_in _ (by omega)
  have hw4 : IntKind.i64.wrap ((65536 : Int) - (l : Int)) = (65536 : Int) - (l : Int) := IntWalk.i64_in _ (by omega)
  have z1 : decide ((a : Int) + 1 < 1) = false := by simp; omega
  have z2 : decide ((l : Int) + 1 < (a : Int) + 1) = false := by simp; omega
  have z3 : decide (l < a) = false := by simp; omega
  have z4 : decide ((65536 : Int) - (l : Int) < (n : Int)) = false := by simp; omega
  have HB := hide (show ∀ b' : Gb, b'.tb = b.tb → (⟨b'.tb, b'.bb, b'.bo, b'.bc, b'.fv, b'.g⟩ : Gb) = b' from fun _ _ => rfl)
  have HLIM := hide hl
  have HA2 := hide ha
  clear h hv hnl hll hn hX hl ha
  obtain ⟨i0, hi, hz0, hz1, hz2⟩ := info_parts info_int
  go_enter Tryz.func136, Tryz.ntmps136
  go_wp2_with fail
  refine (Calls.mono (H.out.none_)) ?_
  rintro r w2 ⟨rfl, H2⟩
  have HH := hide H2
  clear H2 H
  go_wp2_with fail
  refine (Calls.mono (HS.out _ HH.out)) ?_
  rintro r w3 ⟨rfl, H3⟩
  have HH3 := hide H3
  clear H3 HH
  go_wp2_with fail
  refine (Calls.mono (HV.out _ HH3.out)) ?_
  rintro r w4 ⟨rfl, H4⟩
  have HH4 := hide H4
  clear H4 HH3
  go_wp2_with fail
  refine (Calls.mono (HL.out _ HH4.out)) ?_
  rintro r w5 ⟨rfl, H5⟩
  have HH5 := hide H5
  clear H5 HH4
  go_wp2_with fail
  refine (Calls.mono (HS.out _ HH5.out)) ?_
  rintro r w6 ⟨rfl, H6⟩
  have HH6 := hide H6
  clear H6 HH5
  go_wp2_with fail
  refine (Calls.mono (move_any HH6.out.1.gap a (by have := b.g.len HH6.out.1.gap.le1 HH6.out.1.gap.le2; rw [HH6.out.1.ok.chars] at this; have := HH6.out.1.gap.le1; have := HH6.out.1.gap.le2; have := HA.out; omega))) ?_
  rintro r w7 ⟨rfl, B2, H7, hl7, hc7⟩
  have HH7 := hide H7
  have HC7 := hide (hc7.trans HH6.out.1.ok.chars)
  have HF := hide HH6.out.1.ok.feed
  have HOK := hide HH6.out.1.ok.okc
  clear H7 hl7 hc7 HH6
  go_wp2_with fail
  refine (Calls.mono (grow_ins (L := L) (n := n) HH7.out rfl HF.out HC7.out (by rw [← HLL.out]; exact HA2.out) (by rw [← HLL.out]; exact HLIM.out))) ?_
  rintro r w8 ⟨rfl, bb, bo, bc, fv, B, en, H8, hgap, hBt, hBd⟩
  obtain ⟨F, hF⟩ : ∃ F, F = feeds 1 L := ⟨_, rfl⟩
  rw [← hF] at H8
  obtain ⟨A, cf, hfv, _⟩ := H8.slF.form
  obtain ⟨m, hm⟩ : ∃ m, m = F.length := ⟨_, rfl⟩
  replace hfv : fv = .slice A m cf := by rw [hm]; exact hfv
  subst hfv
  obtain ⟨p, hp⟩ : ∃ p, p = (feeds 1 (L.take a)).length := ⟨_, rfl⟩
  have hpm : p ≤ m := by rw [hp, hm, hF]; conv => rhs; rw [← List.take_append_drop a L]
                         rw [feeds_append, List.length_append]; omega
  have hm6 : m ≤ 65536 := by rw [hm, hF]; have := feeds_le 1 L; have := HLL.out; have := HLIM.out; omega
  obtain ⟨tb, htb⟩ : ∃ tb, tb = b.tb := ⟨_, rfl⟩
  have hcnt : F.countP (· < a + 1) = p := by
    have := feeds_count (L.take a) (L.drop a)
    rw [List.take_append_drop, List.length_take, Nat.min_eq_left (by rw [← HLL.out]; exact HA2.out)] at this
    rw [hF, hp]
    exact this
  rw [← htb] at H8 ⊢
  have c3 := H8.c3
  have HBS := hide (show Calls Tryz.prog 165 #[.slice A m cf, .int .i64 ((a : Int) + 1)] w8 (fun e w' => ∃ bl, e = .returned (.tuple #[.int .i64 (p : Int), .bool bl]) ∧ GapAt W w' ⟨tb, bb, bo, bc, .slice A m cf, ⟨B, a, en, F⟩⟩ R) from by
    have := bs_any F (a + 1) _ w8 H8.slF (by rw [hF]; exact feeds_sorted 1 L) (by rw [← hm]; omega)
    rw [hcnt] at this
    refine this.mono ?_
    rintro e w' ⟨bl, rfl, q, rfl⟩
    exact ⟨bl, rfl, H8.drewN q⟩)
  have HTB := hide htb
  have HFF := hide hF
  have HM := hide hm
  have HP := hide hp
  have HCK := hide (And.intro hgap (And.intro hBt hBd))
  clear hgap hBt hBd hF hm hp hcnt H8 HH7 HC7 HF htb
  go_wp2_with fail
  refine (Calls.mono (HBS.out)) ?_
  rintro r w9 ⟨bl, rfl, H9⟩
  have HG := hide H9
  clear H9 HBS c3
  go_wp2
  go_loopw [10] (fun t wr => ∃ k : Nat, t = .int .i64 (k : Int) ∧ p ≤ k ∧ k ≤ m ∧ GapAt W wr ⟨tb, bb, bo, bc, .slice A m cf, ⟨B, a, en, bump F p n k⟩⟩ R) (fun t _ => m - (intOf t).toNat)
  case atStart => exact ⟨p, rfl, Nat.le_refl _, hpm, by rw [bump_start]; exact HG.out⟩
  case round =>
    obtain ⟨k, rfl, hk1, hk2, hG⟩ := hrel
    have c3 := hG.c3
    have hbl : (bump F p n k).length = m := by rw [HM.out]; exact bump_len hk1 (by rw [← HM.out]; exact hk2)
    by_cases hkm : k < m
    · obtain ⟨x, hx⟩ : ∃ x, F[k]? = some x := ⟨_, List.getElem?_eq_getElem (by rw [← HM.out]; exact hkm)⟩
      have hx6 : x ≤ 65536 := by
        have h1 := feeds_mem 1 L x (by rw [← HFF.out]; exact List.mem_of_getElem? hx)
        have := HLL.out
        have := HLIM.out
        omega
      obtain ⟨g, off, c', hv', _, _, hcell, hfz, _⟩ := hG.slF.at_ (by show 0 < (bump F p n k).length; omega)
      have hv' : Value.slice A m cf = .slice (some ⟨g, off, none⟩) (bump F p n k).length c' := hv'
      rw [hbl] at hv'
      injection hv' with e1 _ e3
      subst e1 e3
      have hc := hcell k _ (by show (ints (bump F p n k))[k]? = _; simp only [ints, List.getElem?_map]; rw [bump_at hk1 (by rw [← HM.out]; exact hkm), hx]; rfl)
      have hf := hfz (off + k)
      have hw : IntKind.i64.wrap ((x : Int) + (n : Int)) = (x : Int) + (n : Int) := IntWalk.i64_in _ (by omega)
      have hk0 : (0 : Int) ≤ (k : Int) := by omega
      have hk3 : (k : Int) < (m : Int) := by omega
      have z5 : decide (k < m) = true := by simpa using hkm
      have hset := hG.setFeed (x := x + n) (k := k) (g := g) (off := off) (c := cf) (by show Value.slice _ m cf = _; rw [hbl]) (by show k < (bump F p n k).length; omega)
      have hset : GapAt W (wr.setCell ⟨g, off + k, none⟩ (.int .i64 ((x : Int) + (n : Int)))) ⟨tb, bb, bo, bc, .slice (some ⟨g, off, none⟩) m cf, ⟨B, a, en, (bump F p n k).set k (x + n)⟩⟩ R := hset
      rw [bump_step hk1 hx] at hset
      have HSET := hide hset
      clear hset hG hcell hfz hbl hx
      go_wp2
      go_roundw
      case rel => exact ⟨k + 1, by go_num, by omega, by omega, HSET.out⟩
      case measure => simp [intOf]; omega
    · obtain rfl : k = m := by omega
      have z5 : decide (k < k) = false := by simp
      rw [show bump F p n k = F.take p ++ (F.drop p).map (· + n) by rw [HM.out, bump_end]] at hG
      obtain ⟨F2, hF2⟩ : ∃ F2, F2 = F.take p ++ (F.drop p).map (· + n) := ⟨_, rfl⟩
      rw [← hF2] at hG
      have HF2 := hide hF2
      have HG1 := hide hG
      clear hG hbl hF2
      obtain ⟨wo, rfl⟩ : ∃ wo : World, wo = wr := ⟨_, rfl⟩
      go_wp2
      have H8 := hide (show GapAt W (wo.iter s 0) _ _ from HG1.out.obj (.stringIter s 0))
      obtain ⟨gi, hgi⟩ : ∃ gi, gi = wo.heap.size := ⟨_, rfl⟩
      rw [← hgi] at H8 ⊢
      clear HG1 hgi c3
      generalize wo.iter s 0 = w10 at *
      obtain ⟨N, hN⟩ : ∃ N, N = B.length := ⟨_, rfl⟩
      have HNB := hide hN
      clear hN
      go_loopw [11] (fun v wr => InsIt W tb bb bo bc (.slice A k cf) F2 en gi a N L X s R v wr) (fun _ wr => s.size - wr.iterPos gi)
      case atStart => exact ⟨0, [], X, B, rfl, HX.out, H8.out, RowOk.nil, HNB.out.symm, by rw [List.append_nil]; exact HCK.out.2.1, HCK.out.2.2⟩
      case round =>
        obtain ⟨pos, X1, X2, B', hXX, hch, hG, hok, hBl, hBt, hBd⟩ := hrel
        have hobj : wr.heap[gi]? = some (.stringIter s pos) := hG.own.obj (g := gi) (by simp)
        have HXX := hide hXX
        rcases chars_next hch with ⟨rfl, hp⟩ | ⟨c, Y, rfl, hp, hc, hch2⟩
        · have hnx := fun ty => next_over (P := Tryz.prog) ty hobj hp
          have hX1 : X1 = X := by simpa using hXX.symm
          rw [hX1] at hG hok hBt
          have hslF := hG.slF
          have hslV := InsIt.slV hG hok
          have c3 := hG.c3
          have hfl : F2.length = k := by rw [HF2.out, HM.out]; simp; have := hpm; have := HM.out; omega
          have hap := rows_apart (hG.own.perm (R := rowOf 3 1 (.slice A k cf) F2.length (ints F2) ++ (rowOf 3 1 u11 (feeds (a + 1) X).length (ints (feeds (a + 1) X)) ++ ((tb, .cells 164 (gapCells ⟨tb, bb, bo, bc, .slice A k cf, ⟨B', a + X.length, en, F2⟩⟩)) :: (bb, .row 21 1 (.slice (some ⟨bb, bo, none⟩) B'.length bc) B'.length (runs B')) :: (gi, .obj (.stringIter s pos)) :: R))) (by
            exact insPerm2 _ _ _ _ _ _))
          have HI := hide (show Calls Tryz.prog 67 #[.slice A k cf, .int .i64 (p : Int), u11] wr (InsRes wr (.slice A k cf) (F2.take p ++ feeds (a + 1) X ++ F2.drop p)) from ins_any F2 (feeds (a + 1) X) p _ u11 wr hslF hslV hap (by omega) (by omega) (by have := feeds_le (a + 1) X; have := HNN.out; omega))
          have HFE := hide (show F2.take p ++ feeds (a + 1) X ++ F2.drop p = feeds 1 (L.take a ++ X ++ L.drop a) by
            have h1 := feeds_insert (L.take a) X (L.drop a)
            have hal : (L.take a).length = a := by rw [List.length_take]; have := HA.out; omega
            rw [hal, List.take_append_drop, ← HP.out, ← HFF.out, ← HNN.out] at h1
            have h2 : (F.take p).length = p := by rw [List.length_take]; have := HM.out; omega
            rw [HF2.out, List.take_left' h2, List.drop_left' h2]
            exact h1)
          obtain ⟨G, hGd⟩ : ∃ G, G = F2.take p ++ feeds (a + 1) X ++ F2.drop p := ⟨_, rfl⟩
          rw [← hGd] at HI HFE
          clear hGd
          have HGE := hide (hG.sub (R' := R) (List.Sublist.cons _ (List.sublist_append_right _ _)))
          have HBT := hide hBt
          have HBD := hide hBd
          have HBL := hide hBl
          clear hX1 hG hok hBt hslF hslV hap hBd hBl hXX hch hobj hp
          go_wp2_with fail
          refine (Calls.mono (HI.out)) ?_
          rintro r w11 ⟨v', rfl, hs', ho', hv'⟩
          obtain ⟨A', c', rfl, _⟩ := hs'.form
          obtain ⟨hblk, hfin⟩ := ins_final HGE.out HA.out (chars_okc HX.out) HOK.out (by have := HLIM.out; have := HLL.out; have := HNN.out; omega) hs' ho' hv' HFE.out HBT.out HBD.out
          have HFIN := hide hfin
          have x3 : w11.cell? ⟨tb, 3, none⟩ = some (.slice A k cf) := by rw [hblk.cell]; rfl
          have f3 := hblk.frozen 3
          clear hs' ho' hv' hfin hblk
          go_wp2
          go_ret
          exact ⟨rfl, _, HTB.out, HFIN.out⟩
        · obtain ⟨st, hst⟩ : ∃ st, st = a + X1.length := ⟨_, rfl⟩
          obtain ⟨pos2, hpos2⟩ : ∃ p2, p2 = pos + (Utf8.decode s pos).2 := ⟨_, rfl⟩
          obtain ⟨w1, hnx, H1⟩ : ∃ w1, (∀ ty, (Instr.next (.pointer (some ⟨gi, 0, none⟩)) true ty).run Tryz.prog wr = .ok (.tuple #[.bool true, .int .i64 (pos : Int), .int .i32 (c : Int)]) w1) ∧ GapAt W w1 ⟨tb, bb, bo, bc, .slice A k cf, ⟨B', a + X1.length, en, F2⟩⟩ ((gi, .obj (.stringIter s pos2)) :: (rowOf 3 1 u11 (feeds (a + 1) X1).length (ints (feeds (a + 1) X1)) ++ R)) :=
            ⟨_, fun ty => by rw [next_more ty hobj hp, hc], by rw [hpos2]; exact hG.nextPos⟩
          have HPOS := hide (show wr.iterPos gi < pos2 by rw [iterPos_of hobj, hpos2]; have := decode_pos hp hch; omega)
          have HP2 := hide (show pos2 ≤ s.size ∨ pos < s.size from .inr hp)
          have HPS := hide (show wr.iterPos gi < s.size by rw [iterPos_of hobj]; exact hp)
          rw [← hpos2] at hch2
          have HCH := hide hch2
          have HLT := hide (show st < en by
            have := HCK.out.1
            have h2 := HNN.out
            rw [hXX] at h2
            simp at h2
            omega)
          have HST := hide hst
          have HBL := hide hBl
          have HBT := hide hBt
          have HBD := hide hBd
          have HOK1 := hide hok
          have hst6 : st ≤ 65536 + 65536 := by
            have h2 := HNN.out
            rw [hXX] at h2
            simp at h2
            omega
          rw [← hst] at H1
          have H1 := hide H1
          clear hG hobj hXX hch hp hc hch2 hpos2 hst hBl hBt hBd hok
          have hw1 : IntKind.i64.wrap ((st : Int) + 1) = (st : Int) + 1 := IntWalk.i64_in _ (by omega)
          by_cases hc10 : c = 10
          · have z7 : ((c : Int) == 10) = true := by simp; omega
            have HC10 := hide hc10
            have hsl : IntSl w1 u11 (feeds (a + 1) X1) := InsIt.slV (by have := H1.out; rw [HST.out] at this; exact this) HOK1.out
            have hfl : (feeds (a + 1) X1).length ≤ 65536 := by
              have h1 := feeds_le (a + 1) X1
              have h2 := HNN.out
              have h3 := HXX.out
              rw [h3] at h2
              simp at h2
              omega
            have c1 := H1.out.c1
            clear hc10
            go_wp2_with (at_builtin; refine wpList_append_sl rfl (.tmp 81) (.tmp 87) 32 rfl 3 i0 (.int .i64 0) 1 8 Tryz.underlying32 hi hz0 hz1 hz2 rfl _ (feeds (a + 1) X1).length (ints (feeds (a + 1) X1)) rfl (hsl.alloc _) _ rfl 1 [_] (rd_one _ _ _) ?one ?b1 ?b2 ?_)
            case one => rfl
            case b1 => unfold maxLen; omega
            case b2 => omega
            intro v' w2 hsl' honly hv'
            have hx : (st : Int) + 1 = ((a + 1 + X1.length : Nat) : Int) := by rw [HST.out]; omega
            rw [hx] at hsl'
            have HY1 := GapAt.pushRow (x := a + 1 + X1.length) (F := feeds (a + 1) X1) (v := u11) ((H1.out.skip _).perm (insPerm _ _ _)) hsl' honly (by rcases hv' with h | h; exact .inl h; exact .inr (by rw [h]; exact congrArg some (Array.size_push ..).symm))
            have HY := hide (HY1.perm (insPerm _ _ _).symm)
            have hok2 : RowOk v' (feeds (a + 1) X1 ++ [a + 1 + X1.length]).length := by rw [List.length_append]; exact hsl'.rowOk
            have HOK2 := hide hok2
            clear HY1 hsl' honly hv' hsl hok2 c1 hx
            have HSTP := hide (InsIt.step (c := c) (v := v') HXX.out HCH.out (by rw [feeds_snoc, if_pos HC10.out, ← HST.out]; exact HY.out) (by rw [feeds_snoc, if_pos HC10.out]; exact HOK2.out) HBL.out HBT.out HBD.out (by have := HLT.out; rw [HST.out] at this; exact this) HY.out.le2)
            rw [← HST.out] at HSTP
            have hst2 : st < N := by
              have h1 : st ≤ en := HY.out.le1
              have h2 : en ≤ B'.length := HY.out.le2
              have := HLT.out
              have := HBL.out
              omega
            obtain ⟨y, hy⟩ : ∃ y, B'[st]? = some y := ⟨_, List.getElem?_eq_getElem (by rw [HBL.out]; exact hst2)⟩
            have c0 := HY.out.c0
            have c1 := HY.out.c1
            have x0 := HY.out.rune hy
            have f0 := HY.out.frozB (bo + st)
            have f1 := HY.out.blk.frozen 1
            have hap : ¬ bb = tb := HY.out.apart
            have hap2 : ¬ tb = bb := fun e => hap e.symm
            unfold Gb.bv at c0
            rw [show (⟨tb, bb, bo, bc, .slice A k cf, ⟨B', st, en, F2⟩⟩ : Gb).g.B.length = N from HBL.out] at c0
            have hsti : (st : Int) < (N : Int) := by omega
            have hst0 : (0 : Int) ≤ (st : Int) := by omega
            clear hy
            clear hst6 hfl
            go_wp2_with fail
            go_region
            go_wp2_with fail
            go_roundw
            case rel => exact HSTP.out.1.drew
            case measure =>
              have e2 := HSTP.out.2
              rw [show ((st + 1 : Nat) : Int) = (st : Int) + 1 from rfl] at e2
              rw [show ∀ w0 : World, (World.drew w0).iterPos gi = w0.iterPos gi from fun _ => rfl, e2]
              have := HPOS.out
              have := HPS.out
              omega
          · have z7 : ((c : Int) == 10) = false := by simp; omega
            have HC10 := hide hc10
            have HY := H1
            have HSTP := hide (InsIt.step (c := c) (v := u11) HXX.out HCH.out (by rw [feeds_snoc, if_neg HC10.out, ← HST.out]; exact HY.out) (by rw [feeds_snoc, if_neg HC10.out]; exact HOK1.out) HBL.out HBT.out HBD.out (by have := HLT.out; rw [HST.out] at this; exact this) HY.out.le2)
            rw [← HST.out] at HSTP
            have hst2 : st < N := by
              have h1 : st ≤ en := HY.out.le1
              have h2 : en ≤ B'.length := HY.out.le2
              have := HLT.out
              have := HBL.out
              omega
            obtain ⟨y, hy⟩ : ∃ y, B'[st]? = some y := ⟨_, List.getElem?_eq_getElem (by rw [HBL.out]; exact hst2)⟩
            have c0 := HY.out.c0
            have c1 := HY.out.c1
            have x0 := HY.out.rune hy
            have f0 := HY.out.frozB (bo + st)
            have f1 := HY.out.blk.frozen 1
            have hap : ¬ bb = tb := HY.out.apart
            have hap2 : ¬ tb = bb := fun e => hap e.symm
            unfold Gb.bv at c0
            rw [show (⟨tb, bb, bo, bc, .slice A k cf, ⟨B', st, en, F2⟩⟩ : Gb).g.B.length = N from HBL.out] at c0
            have hsti : (st : Int) < (N : Int) := by omega
            have hst0 : (0 : Int) ≤ (st : Int) := by omega
            clear hy
            clear hc10 hst6
            go_wp2_with fail
            go_region
            go_wp2_with fail
            go_roundw
            case rel => exact HSTP.out.1.drew
            case measure =>
              have e2 := HSTP.out.2
              rw [show ((st + 1 : Nat) : Int) = (st : Int) + 1 from rfl] at e2
              rw [show ∀ w0 : World, (World.drew w0).iterPos gi = w0.iterPos gi from fun _ => rfl, e2]
              have := HPOS.out
              have := HPS.out
              omega
end
end Go.Proofs.YtnbhejbpofjamaaGreatDoor
