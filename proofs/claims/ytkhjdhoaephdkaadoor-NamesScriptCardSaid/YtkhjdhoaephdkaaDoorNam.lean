/- What the methods of the symbol table do to the memory, in terms of a list of symbols. Names are shorter than 2 to the 44 bytes; a table holds at most 16384 symbols. -/
import Derived.Test.YtkhjdhoaephdkaaDoorRunes
import Derived.Test.YtkhjdhoaephdkaaDoorMore
import Derived.Maps.RangeWalk
import Derived.Maps.OwnSet
namespace Go.Proofs.YtkhjdhoaephdkaaDoor
open Go.RowKit

theorem neq_index (w : World) (r : Option Nat) : (binOp .neq 73 (.map r) (.map none)).run Tryd.prog w = .ok (.bool (!r.isNone)) w := run_neq_map_nil w _ _ _ r Tryd.underlying73
attribute [local go_sem] neq_index

/-- A symbol: its function (kind, number, is there one), its name, whether it is interned, the block of its properties and these. -/
structure Sym where
  fk : Int
  fn : Int
  fb : Bool
  name : ByteArray
  intd : Bool
  pm : Option Nat
  props : List (Int × Int × Int)

def Sym.cells (s : Sym) : List Value := [.int .i64 s.fk, .int .i64 s.fn, .bool s.fb, .string s.name, .bool s.intd, .map s.pm]
def Sym.fresh (s : ByteArray) (i : Bool) : Sym := ⟨0, 0, false, s, i, none, []⟩
theorem sym_len (s : Sym) : s.cells.length = 6 := rfl
theorem sym_one (s : Sym) : ∀ u ∈ s.cells, u.oneCell' = true := by
  intro u hu
  simp [Sym.cells] at hu
  rcases hu with rfl | rfl | rfl | rfl | rfl | rfl <;> rfl

/-- The interned names and their numbers, from number k on. -/
def indexFrom : Nat → List Sym → List (Value × Value)
  | _, [] => []
  | k, s :: L => if s.intd then (.string s.name, .int .i64 (k : Int)) :: indexFrom (k + 1) L else indexFrom (k + 1) L
def findFrom : Nat → List Sym → ByteArray → Option Nat
  | _, [], _ => none
  | k, x :: L, s => if x.intd && s == x.name then some k else findFrom (k + 1) L s
/-- The number of the interned symbol of a name. -/
def find (L : List Sym) (s : ByteArray) : Option Nat := findFrom 0 L s
theorem index_keys : ∀ (L : List Sym) (k : Nat), KeysOf .string (indexFrom k L)
  | [], _ => KeysOf.nil _
  | s :: L, k => by
    unfold indexFrom
    split
    · intro x hx
      rcases List.mem_cons.1 hx with rfl | hx
      · exact .str _
      · exact index_keys L _ x hx
    · exact index_keys L _
theorem index_get (s : ByteArray) : ∀ (L : List Sym) (k : Nat), mget (indexFrom k L) (.string s) = (findFrom k L s).map fun n : Nat => Value.int .i64 (n : Int)
  | [], _ => rfl
  | x :: L, k => by
    have ih := index_get s L (k + 1)
    unfold indexFrom findFrom
    cases hi : x.intd with
    | false => simpa using ih
    | true =>
      cases he : s == x.name with
      | true => simp [mget, keyEq_str, he]
      | false =>
        simp only [mget, if_true, List.find?_cons, keyEq_str, he, Bool.true_and, Bool.false_eq_true, if_false] at ih ⊢
        exact ih
theorem index_put (s : ByteArray) : ∀ (L : List Sym) (k : Nat), findFrom k L s = none → mput (indexFrom k L) (.string s) (.int .i64 ((k + L.length : Nat) : Int)) = indexFrom k (L ++ [Sym.fresh s true])
  | [], k, _ => by simp [indexFrom, mput, Sym.fresh]
  | x :: L, k, h => by
    unfold findFrom at h
    split at h
    · cases h
    · rename_i hc
      have ih := index_put s L (k + 1) h
      have e : k + 1 + L.length = k + (x :: L).length := by simp; omega
      rw [e] at ih
      simp only [List.cons_append, indexFrom]
      cases hi : x.intd with
      | false => simpa using ih
      | true =>
        have hne : (s == x.name) = false := by simpa [hi] using hc
        simp only [if_true, mput, keyEq_str, hne, Bool.false_eq_true, if_false, ih]
theorem index_fresh (s : ByteArray) : ∀ (L : List Sym) (k : Nat), indexFrom k (L ++ [Sym.fresh s false]) = indexFrom k L
  | [], _ => by simp [indexFrom, Sym.fresh]
  | x :: L, k => by simp [indexFrom, index_fresh s L]

/-- The blocks of the properties. -/
def propBlocks (L : List Sym) : List Nat := L.filterMap (·.pm)
def propPairs (l : List (Int × Int × Int)) : List (Value × Value) := l.map fun x => (.int .i64 x.1, .agg #[.int .i64 x.2.1, .int .i64 x.2.2])

/-- Block tb is a table of the symbols L; all its blocks are in F. -/
structure TableIs (w : World) (tb : Nat) (L : List Sym) (F : Nat → Prop) : Prop where
  holds : ∃ vs ib, Blk w tb 76 #[vs, .map (some ib)] ∧ Sl w 84 6 vs L.length (rows Sym.cells L) ∧ MapIs w ib (indexFrom 0 L) ∧ F ib ∧ (∀ g, vs.ownBlock = some g → F g) ∧ ib ∉ propBlocks L
  props : ∀ s ∈ L, (s.pm = none ∧ s.props = []) ∨ ∃ b, s.pm = some b ∧ F b ∧ MapIs w b (propPairs s.props)
  nodup : (propBlocks L).Nodup
  self : F tb
  bound : ∀ k, F k → k < w.heap.size

/-- F and what was made between w and w'. -/
def grow (F : Nat → Prop) (w w' : World) : Nat → Prop := fun k => F k ∨ (w.heap.size ≤ k ∧ k < w'.heap.size)

theorem TableIs.only {w w' : World} {tb : Nat} {L : List Sym} {F G : Nat → Prop} (h : TableIs w tb L F) (ho : Only G w w') (hd : ∀ k, F k → ¬ G k) : TableIs w' tb L F := by
  obtain ⟨vs, ib, h1, h2, h3, h4, h5, h6⟩ := h.holds
  refine ⟨⟨vs, ib, h1.only ho (hd _ h.self), h2.only ho fun g hg => hd g (h5 g hg), h3.only ho (hd _ h4), h4, h5, h6⟩, fun s hs => ?_, h.nodup, h.self, fun k hk => Nat.lt_of_lt_of_le (h.bound k hk) ho.size⟩
  rcases h.props s hs with hp | ⟨b, hb, hF, hm⟩
  · exact .inl hp
  · exact .inr ⟨b, hb, hF, hm.only ho (hd _ hF)⟩
theorem TableIs.below {w w' : World} {tb : Nat} {L : List Sym} {F : Nat → Prop} (h : TableIs w tb L F) (hb : Below w.heap.size w w') : TableIs w' tb L F := h.only (G := fun _ => False) (.of_below hb) fun _ _ f => f

section
variable {tb : Nat} {L : List Sym} {F : Nat → Prop} {w : World}

theorem made_nil (w : World) : Calls Tryd.prog 40 #[.pointer none] w fun e w' => e = .returned (.bool false) ∧ w = w' := by
  go_enter Tryd.func40, Tryd.ntmps40
  go_wp2
  go_ret
  exact ⟨rfl, rfl⟩
theorem made_any (h : TableIs w tb L F) : Calls Tryd.prog 40 #[.pointer (some ⟨tb, 0, none⟩)] w fun e w' => e = .returned (.bool true) ∧ w = w' := by
  obtain ⟨vs, ib, h1, _⟩ := h.holds
  have c1 : w.cell? ⟨tb, 1, none⟩ = some (.map (some ib)) := by rw [h1.cell]; rfl
  clear h h1
  go_enter Tryd.func40, Tryd.ntmps40
  go_wp2
  go_ret
  exact ⟨rfl, rfl⟩
theorem many_any (h : TableIs w tb L F) : Calls Tryd.prog 13 #[.pointer (some ⟨tb, 0, none⟩)] w fun e w' => e = .returned (.int .i64 (L.length : Int)) ∧ w = w' := by
  have HM := hide (made_any h)
  obtain ⟨vs, ib, h1, h2, _⟩ := h.holds
  obtain ⟨A, c, rfl, _⟩ := h2.form
  have c0 : w.cell? ⟨tb, 0, none⟩ = some (.slice A L.length c) := by rw [h1.cell]; rfl
  clear h h1 h2
  go_enter Tryd.func13, Tryd.ntmps13
  go_wp2_with (go_at_call 40; refine (Calls.mono HM.out) ?_; rintro e w' ⟨rfl, rfl⟩)
  go_ret
  exact ⟨rfl, rfl⟩
theorem zero_int (w : World) : (zeroValue 3).run Tryd.prog w = .ok (.int .i64 0) w := by kernel_rfl
theorem find_any (h : TableIs w tb L F) (s : ByteArray) : Calls Tryd.prog 16 #[.pointer (some ⟨tb, 0, none⟩), .string s] w
    fun e w' => e = .returned (.tuple #[.int .i64 ((find L s).getD 0 : Nat), .bool (find L s).isSome]) ∧ w = w' := by
  have HM := hide (made_any h)
  obtain ⟨vs, ib, h1, h2, h3, _⟩ := h.holds
  have c1 : w.cell? ⟨tb, 1, none⟩ = some (.map (some ib)) := by rw [h1.cell]; rfl
  have HK := hide (index_keys L 0)
  have HG := hide (index_get s L 0)
  clear h h1 h2
  go_enter Tryd.func16, Tryd.ntmps16
  go_wp2_with (first
    | (go_at_call 40; refine (Calls.mono HM.out) ?_; rintro e w' ⟨rfl, rfl⟩)
    | (at_lookup; go_loud (refine wpList_lookup_is rfl _ _ true rfl Tryd.underlying73 Tryd.underlying9 _ (zero_int _) rfl h3 HK.out (.string s) rfl (.str s) _ HG.out ?_)))
  go_ret2
  refine ⟨?_, rfl⟩
  unfold find
  cases findFrom 0 L s <;> rfl

/-- What check returns for a name. -/
def chk (s : ByteArray) : Int := if validS s = false then 5 else if 1000 < lenS s then 4 else 0
set_option maxRecDepth 100000 in
set_option maxHeartbeats 1000000 in
theorem check_any (h : TableIs w tb L F) (hT : Tabs w) (s : ByteArray) (hs : s.size * 8 ≤ 140737488355328) : Calls Tryd.prog 38 #[.pointer (some ⟨tb, 0, none⟩), .string s] w fun e w' => e = .returned (.int .i64 (chk s)) ∧ Below w.heap.size w w' := by
  have HM := hide (made_any h)
  have HV := hide (valid_any s w (by omega) hT)
  cases hv : validS s with
  | false =>
    rw [hv] at HV
    have HC := hide (show chk s = 5 by simp [chk, hv])
    clear h hT hv
    go_enter Tryd.func38, Tryd.ntmps38
    go_wp2_with (first | (go_at_call 40; refine (Calls.mono HM.out) ?_; rintro e w' ⟨rfl, rfl⟩) | (go_at_call 61; refine (Calls.mono HV.out) ?_; rintro e w' ⟨rfl, hb⟩))
    go_ret
    exact ⟨by rw [HC.out]; rfl, hb⟩
  | true =>
    rw [hv] at HV
    have HL := hide fun w' (hb : Below w.heap.size w w') => len_any s w' (by omega) (hT.below hb)
    by_cases hl : 1000 < lenS s
    · have HC := hide (show chk s = 4 by simp [chk, hv, hl])
      have hz : decide ((1000 : Int) < (lenS s : Int)) = true := by simp; omega
      clear h hT hv hl
      go_enter Tryd.func38, Tryd.ntmps38
      go_wp2_with (first | (go_at_call 40; refine (Calls.mono HM.out) ?_; rintro e w' ⟨rfl, rfl⟩) | (go_at_call 61; refine (Calls.mono HV.out) ?_; rintro e w' ⟨rfl, hb⟩) | (go_at_call 62; refine (Calls.mono (HL.out _ hb)) ?_; rintro e w2 ⟨rfl, hb2⟩))
      go_ret
      exact ⟨by rw [HC.out]; rfl, hb.trans (hb2.mono hb.size)⟩
    · have HC := hide (show chk s = 0 by simp [chk, hv, hl])
      have hz : decide ((1000 : Int) < (lenS s : Int)) = false := by simp; omega
      clear h hT hv hl
      go_enter Tryd.func38, Tryd.ntmps38
      go_wp2_with (first | (go_at_call 40; refine (Calls.mono HM.out) ?_; rintro e w' ⟨rfl, rfl⟩) | (go_at_call 61; refine (Calls.mono HV.out) ?_; rintro e w' ⟨rfl, hb⟩) | (go_at_call 62; refine (Calls.mono (HL.out _ hb)) ?_; rintro e w2 ⟨rfl, hb2⟩))
      go_ret
      exact ⟨by rw [HC.out]; rfl, hb.trans (hb2.mono hb.size)⟩

theorem has_any (h : TableIs w tb L F) (n : Int) : Calls Tryd.prog 41 #[.pointer (some ⟨tb, 0, none⟩), .int .i64 n] w fun e w' => e = .returned (.bool (decide (0 ≤ n ∧ n < L.length))) ∧ w = w' := by
  have HM := hide (made_any h)
  obtain ⟨vs, ib, h1, h2, _⟩ := h.holds
  obtain ⟨A, c, rfl, _⟩ := h2.form
  have c0 : w.cell? ⟨tb, 0, none⟩ = some (.slice A L.length c) := by rw [h1.cell]; rfl
  clear h h1 h2
  go_enter Tryd.func41, Tryd.ntmps41
  go_wp2_with (go_at_call 40; refine (Calls.mono HM.out) ?_; rintro e w' ⟨rfl, rfl⟩)
  all_goals
    go_ret
    exact ⟨ret_bool (by simp; omega), rfl⟩

theorem name_any (h : TableIs w tb L F) (n : Nat) (x : Sym) (hn : L[n]? = some x) : Calls Tryd.prog 18 #[.pointer (some ⟨tb, 0, none⟩), .int .i64 (n : Int)] w fun e w' => e = .returned (.tuple #[.string x.name, .bool true]) ∧ w = w' := by
  have HH := hide (has_any h n)
  have hlt : n < L.length := (List.getElem?_eq_some_iff.1 hn).1
  rw [show decide (0 ≤ (n : Int) ∧ (n : Int) < L.length) = true by simp; omega] at HH
  obtain ⟨vs, ib, h1, h2, _⟩ := h.holds
  obtain ⟨g, off, c, rfl, _, _, _, _, hcell⟩ := h2.fld sym_len (by omega)
  have c0 : w.cell? ⟨tb, 0, none⟩ = some (.slice (some ⟨g, off, none⟩) L.length c) := by rw [h1.cell]; rfl
  have c3 : w.cell? ⟨g, off + n * 6 + 3, none⟩ = some (.string x.name) := hcell n x 3 _ hn rfl
  clear h h1 h2 hcell hn
  go_enter Tryd.func18, Tryd.ntmps18
  go_wp2_with (go_at_call 41; refine (Calls.mono HH.out) ?_; rintro e w' ⟨rfl, rfl⟩)
  go_ret2
  exact ⟨rfl, rfl⟩
theorem name_none (h : TableIs w tb L F) (n : Int) (hn : ¬ (0 ≤ n ∧ n < L.length)) : Calls Tryd.prog 18 #[.pointer (some ⟨tb, 0, none⟩), .int .i64 n] w fun e w' => e = .returned (.tuple #[.string ⟨#[]⟩, .bool false]) ∧ w = w' := by
  have HH := hide (has_any h n)
  rw [show decide (0 ≤ n ∧ n < (L.length : Int)) = false by simpa using hn] at HH
  clear h hn
  go_enter Tryd.func18, Tryd.ntmps18
  go_wp2_with (go_at_call 41; refine (Calls.mono HH.out) ?_; rintro e w' ⟨rfl, rfl⟩)
  go_ret2
  exact ⟨rfl, rfl⟩
theorem interned_any (h : TableIs w tb L F) (n : Nat) (x : Sym) (hn : L[n]? = some x) : Calls Tryd.prog 17 #[.pointer (some ⟨tb, 0, none⟩), .int .i64 (n : Int)] w fun e w' => e = .returned (.bool x.intd) ∧ w = w' := by
  have HH := hide (has_any h n)
  have hlt : n < L.length := (List.getElem?_eq_some_iff.1 hn).1
  rw [show decide (0 ≤ (n : Int) ∧ (n : Int) < L.length) = true by simp; omega] at HH
  obtain ⟨vs, ib, h1, h2, _⟩ := h.holds
  obtain ⟨g, off, c, rfl, _, _, _, _, hcell⟩ := h2.fld sym_len (by omega)
  have c0 : w.cell? ⟨tb, 0, none⟩ = some (.slice (some ⟨g, off, none⟩) L.length c) := by rw [h1.cell]; rfl
  have c3 : w.cell? ⟨g, off + n * 6 + 4, none⟩ = some (.bool x.intd) := hcell n x 4 _ hn rfl
  clear h h1 h2 hcell hn
  go_enter Tryd.func17, Tryd.ntmps17
  go_wp2_with (go_at_call 41; refine (Calls.mono HH.out) ?_; rintro e w' ⟨rfl, rfl⟩)
  go_ret
  exact ⟨rfl, rfl⟩
theorem interned_none (h : TableIs w tb L F) (n : Int) (hn : ¬ (0 ≤ n ∧ n < L.length)) : Calls Tryd.prog 17 #[.pointer (some ⟨tb, 0, none⟩), .int .i64 n] w fun e w' => e = .returned (.bool false) ∧ w = w' := by
  have HH := hide (has_any h n)
  rw [show decide (0 ≤ n ∧ n < (L.length : Int)) = false by simpa using hn] at HH
  clear h hn
  go_enter Tryd.func17, Tryd.ntmps17
  go_wp2_with (go_at_call 41; refine (Calls.mono HH.out) ?_; rintro e w' ⟨rfl, rfl⟩)
  go_ret
  exact ⟨rfl, rfl⟩

theorem info_sym : (Tryd.prog.info? 84).map (fun i => (i.zero, i.size, i.bytes)) = some (some (.agg #[.int .i64 0, .int .i64 0, .bool false, .string ⟨#[]⟩, .bool false, .map none]), 6, 56) := by kernel_rfl
/-- What a method leaves: the table of L', in F and what is new; beside F nothing has turned. -/
def Left (w : World) (tb : Nat) (L' : List Sym) (F : Nat → Prop) (w' : World) : Prop := TableIs w' tb L' (grow F w w') ∧ Only F w w'

theorem grow_mono {F : Nat → Prop} {a w w' : World} (h : w.heap.size ≤ w'.heap.size) : ∀ k, grow F a w k → grow F a w' k := fun k hk => by
  rcases hk with hk | ⟨h1, h2⟩
  · exact .inl hk
  · exact .inr ⟨h1, by omega⟩
theorem props_fresh (L : List Sym) (s : ByteArray) (i : Bool) : propBlocks (L ++ [Sym.fresh s i]) = propBlocks L := by simp [propBlocks, Sym.fresh]
/-- The table behind an added symbol. -/
theorem left_add (h : TableIs w tb L F) {w2 : World} {v' : Value} {ib : Nat} {s : ByteArray} {i : Bool} (h4 : F ib) (h6 : ib ∉ propBlocks L) (hB : Blk w2 tb 76 #[v', .map (some ib)])
    (hS : Sl w2 84 6 v' (L.length + 1) (rows Sym.cells L ++ (Sym.fresh s i).cells)) (hM : MapIs w2 ib (indexFrom 0 (L ++ [Sym.fresh s i]))) (ho : Only F w w2)
    (hv : ∀ g, v'.ownBlock = some g → grow F w w2 g) (hP : ∀ b m, b ∈ propBlocks L → MapIs w b m → MapIs w2 b m) : Left w tb (L ++ [Sym.fresh s i]) F w2 := by
  refine ⟨⟨⟨v', ib, hB, by rw [rows_append, rows_one]; simpa using hS, hM, .inl h4, hv, by rw [props_fresh]; exact h6⟩, fun x hx => ?_, by rw [props_fresh]; exact h.nodup, .inl h.self, fun k hk => ?_⟩, ho⟩
  · rcases List.mem_append.1 hx with hx | hx
    · rcases h.props x hx with hp | ⟨b, hb, hF, hm⟩
      · exact .inl hp
      · exact .inr ⟨b, hb, .inl hF, hP b _ (List.mem_filterMap.2 ⟨x, hx, hb⟩) hm⟩
    · simp at hx
      subst hx
      exact .inl ⟨rfl, rfl⟩
  · rcases hk with hk | hk
    · exact Nat.lt_of_lt_of_le (h.bound k hk) ho.size
    · exact hk.2

set_option maxRecDepth 100000 in
set_option maxHeartbeats 1000000 in
theorem add_fresh (h : TableIs w tb L F) (s : ByteArray) (hL : L.length < 100000) : Calls Tryd.prog 39 #[.pointer (some ⟨tb, 0, none⟩), .string s, .bool false] w
    fun e w' => e = .returned (.int .i64 (L.length : Int)) ∧ Left w tb (L ++ [Sym.fresh s false]) F w' := by
  obtain ⟨i0, hi, hz0, hz1, hz2⟩ := info_parts info_sym
  obtain ⟨vs, ib, h1, h2, h3, h4, h5, h6⟩ := h.holds
  obtain ⟨A, c, rfl, _⟩ := h2.form
  have c0 : w.cell? ⟨tb, 0, none⟩ = some (.slice A L.length c) := by rw [h1.cell]; rfl
  have f0 : w.frozen? ⟨tb, 0, none⟩ = false := h1.frozen 0
  go_enter Tryd.func39, Tryd.ntmps39
  go_wp2_with (at_builtin; refine wpList_append_sl rfl (.tmp 17) (.tmp 21) 74 rfl 84 i0 _ 6 56 Tryd.underlying74 hi hz0 hz1 hz2 rfl _ L.length (rows Sym.cells L) rfl (h2.alloc _) _ rfl 1 (Sym.fresh s false).cells (rd_elem w 84 6 (Sym.fresh s false).cells rfl) (sym_one _) ?b1 ?b2 ?_)
  case b1 => unfold maxLen; omega
  case b2 => omega
  intro v' w' hsl honly hv'
  have n1 := h2.ne_blk h1 (by decide)
  have hb1 : Blk w' tb _ _ := (h1.alloc _).only honly n1
  have hm1 : MapIs w' ib _ := (h3.alloc _).only honly (h2.ne_map h3)
  obtain ⟨A', c', rfl, _⟩ := hsl.form
  have c1 : w'.cell? ⟨tb, 0, none⟩ = some (.slice A L.length c) := by rw [hb1.cell]; rfl
  have f1 : w'.frozen? ⟨tb, 0, none⟩ = false := hb1.frozen 0
  have n2 := hsl.ne_blk hb1 (by decide)
  have HW := hide (show Left w tb (L ++ [Sym.fresh s false]) F (w'.setCell ⟨tb, 0, none⟩ (.slice A' (L.length + 1) c')) from by
    refine left_add h h4 h6 (hb1.set_ 0 _) (hsl.far n2 _) (by rw [index_fresh]; exact hm1.setCell _ _) ?_ ?_ ?_
    · exact (((Only.refl F w).alloc _).trans' honly fun i hi => .inl (h5 i hi)).setCell (.inl h.self) _
    · intro g hg
      rcases hv' with e | e
      · exact .inl (h5 g (e ▸ hg))
      · rw [e] at hg
        injection hg with hg
        have hlt := hsl.lt g (e.trans (congrArg some hg))
        subst hg
        exact .inr ⟨by simp, by rw [World.size_setCell]; exact hlt⟩
    · intro b m hb hm
      exact ((hm.alloc _).only honly (h2.ne_map hm)).setCell _ _)
  clear h h1 h2 h3 hsl honly hv' n1 hb1 hm1 n2 h5 h6
  go_wp2
  go_ret
  exact ⟨rfl, HW.out⟩

set_option maxRecDepth 100000 in
set_option maxHeartbeats 1000000 in
theorem add_true (h : TableIs w tb L F) (s : ByteArray) (hL : L.length < 100000) (hf : find L s = none) : Calls Tryd.prog 39 #[.pointer (some ⟨tb, 0, none⟩), .string s, .bool true] w
    fun e w' => e = .returned (.int .i64 (L.length : Int)) ∧ Left w tb (L ++ [Sym.fresh s true]) F w' := by
  obtain ⟨i0, hi, hz0, hz1, hz2⟩ := info_parts info_sym
  obtain ⟨vs, ib, h1, h2, h3, h4, h5, h6⟩ := h.holds
  obtain ⟨A, c, rfl, _⟩ := h2.form
  have c0 : w.cell? ⟨tb, 0, none⟩ = some (.slice A L.length c) := by rw [h1.cell]; rfl
  have f0 : w.frozen? ⟨tb, 0, none⟩ = false := h1.frozen 0
  go_enter Tryd.func39, Tryd.ntmps39
  go_wp2_with (at_builtin; refine wpList_append_sl rfl (.tmp 17) (.tmp 21) 74 rfl 84 i0 _ 6 56 Tryd.underlying74 hi hz0 hz1 hz2 rfl _ L.length (rows Sym.cells L) rfl (h2.alloc _) _ rfl 1 (Sym.fresh s true).cells (rd_elem w 84 6 (Sym.fresh s true).cells rfl) (sym_one _) ?b1 ?b2 ?_)
  case b1 => unfold maxLen; omega
  case b2 => omega
  intro v' w' hsl honly hv'
  have n1 := h2.ne_blk h1 (by decide)
  have hb1 : Blk w' tb _ _ := (h1.alloc _).only honly n1
  have hm1 : MapIs w' ib _ := (h3.alloc _).only honly (h2.ne_map h3)
  obtain ⟨A', c', rfl, _⟩ := hsl.form
  have c1 : w'.cell? ⟨tb, 0, none⟩ = some (.slice A L.length c) := by rw [hb1.cell]; rfl
  have f1 : w'.frozen? ⟨tb, 0, none⟩ = false := hb1.frozen 0
  have c2 : w'.cell? ⟨tb, 1, none⟩ = some (.map (some ib)) := by rw [hb1.cell]; rfl
  have n2 := hsl.ne_blk hb1 (by decide)
  have HB2 := hide (hb1.set_ 0 (.slice A' (L.length + 1) c'))
  have HM2 := hide (hm1.setCell ⟨tb, 0, none⟩ (.slice A' (L.length + 1) c'))
  have HK := hide (index_keys L 0)
  have HP := hide (index_put s L 0 hf)
  have HW := hide (show ∀ w2, MapIs w2 ib (mput (indexFrom 0 L) (.string s) (.int .i64 (L.length : Int))) → Only (· = ib) (w'.setCell ⟨tb, 0, none⟩ (.slice A' (L.length + 1) c')) w2 → Left w tb (L ++ [Sym.fresh s true]) F w2 from by
    intro w2 hm2 ho2
    have hne : tb ≠ ib := fun e => h3.ne_blk h1 e.symm
    have hn3 := hsl.ne_map hm1
    refine left_add h h4 h6 (HB2.out.only ho2 hne) ((hsl.far n2 _).only ho2 fun g hg e => hn3 (e ▸ hg)) ?_ ?_ ?_ ?_
    · have e := HP.out
      rw [Nat.zero_add] at e
      rw [← e]
      exact hm2
    · exact ((((Only.refl F w).alloc _).trans' honly fun i hi => .inl (h5 i hi)).setCell (.inl h.self) _).trans' ho2 fun i e => .inl (e ▸ h4)
    · intro g hg
      rcases hv' with e | e
      · exact .inl (h5 g (e ▸ hg))
      · rw [e] at hg
        injection hg with hg
        have hlt := hsl.lt g (e.trans (congrArg some hg))
        subst hg
        refine .inr ⟨by simp, Nat.lt_of_lt_of_le ?_ ho2.size⟩
        rw [World.size_setCell]
        exact hlt
    · intro b m hb hm
      exact (((hm.alloc _).only honly (h2.ne_map hm)).setCell _ _).only ho2 fun e => h6 (e ▸ hb))
  clear h h1 h2 h3 hsl honly hv' n1 hb1 hm1 n2 h5 h6 hf
  go_wp2_with (at_mapUpdate; go_loud (refine wpList_update_is rfl _ _ _ rfl Tryd.underlying73 Tryd.underlying9 rfl HM2.out HK.out (.string s) rfl (.str s) (.int .i64 (L.length : Int)) rfl ?_); intro w2 hm2 ho2)
  go_ret
  exact ⟨rfl, HW.out w2 hm2 ho2⟩

/-- The table in a later world, behind something that only made memory. -/
theorem Left.after {w w1 w2 : World} {L' : List Sym} (hb : Below w.heap.size w w1) (h : Left w1 tb L' F w2) : Left w tb L' F w2 := by
  obtain ⟨h1, h2⟩ := h
  obtain ⟨vs, ib, a1, a2, a3, a4, a5, a6⟩ := h1.holds
  have hg : ∀ k, grow F w1 w2 k → grow F w w2 k := fun k hk => by
    rcases hk with hk | ⟨x, y⟩
    · exact .inl hk
    · exact .inr ⟨Nat.le_trans hb.size x, y⟩
  refine ⟨⟨⟨vs, ib, a1, a2, a3, hg _ a4, fun g hh => hg _ (a5 g hh), a6⟩, fun s hs => ?_, h1.nodup, hg _ h1.self, fun k hk => ?_⟩, (Only.of_below hb).trans h2⟩
  · rcases h1.props s hs with hp | ⟨b, x, y, z⟩
    · exact .inl hp
    · exact .inr ⟨b, x, hg _ y, z⟩
  · rcases hk with hk | hk
    · exact h1.bound k (.inl hk)
    · exact hk.2
/-- The same table behind something that only made memory. -/
theorem TableIs.left {w w1 : World} (h : TableIs w tb L F) (hb : Below w.heap.size w w1) : Left w tb L F w1 := by
  have h1 := h.below hb
  obtain ⟨vs, ib, a1, a2, a3, a4, a5, a6⟩ := h1.holds
  refine ⟨⟨⟨vs, ib, a1, a2, a3, .inl a4, fun g hh => .inl (a5 g hh), a6⟩, fun s hs => ?_, h1.nodup, .inl h1.self, fun k hk => ?_⟩, .of_below hb⟩
  · rcases h1.props s hs with hp | ⟨b, x, y, z⟩
    · exact .inl hp
    · exact .inr ⟨b, x, .inl y, z⟩
  · rcases hk with hk | hk
    · exact h1.bound k hk
    · exact hk.2

/-- What Intern returns and makes of the symbols. -/
def internM (L : List Sym) (s : ByteArray) : Int × Int × List Sym :=
  if chk s = 0 then match find L s with
    | some n => ((n : Int), 0, L)
    | none => if 16384 ≤ L.length then (0, 7, L) else ((L.length : Int), 0, L ++ [Sym.fresh s true])
  else (0, chk s, L)
def freshM (L : List Sym) (s : ByteArray) : Int × Int × List Sym :=
  if chk s = 0 then if 16384 ≤ L.length then (0, 7, L) else ((L.length : Int), 0, L ++ [Sym.fresh s false]) else (0, chk s, L)
/-- A call that returns two numbers and leaves a table. -/
def Gives (w : World) (tb : Nat) (F : Nat → Prop) (r : Int × Int × List Sym) (e : Ending) (w' : World) : Prop :=
  e = .returned (.tuple #[.int .i64 r.1, .int .i64 r.2.1]) ∧ Left w tb r.2.2 F w'

theorem chk_cases (s : ByteArray) : chk s = 5 ∨ chk s = 4 ∨ chk s = 0 := by
  unfold chk
  repeat' split
  all_goals simp

set_option maxRecDepth 100000 in
set_option maxHeartbeats 1000000 in
theorem intern_any (h : TableIs w tb L F) (hT : Tabs w) (s : ByteArray) (hs : s.size * 8 ≤ 140737488355328) (hL : L.length ≤ 16384) : Calls Tryd.prog 12 #[.pointer (some ⟨tb, 0, none⟩), .string s] w (Gives w tb F (internM L s)) := by
  have HC := hide (check_any h hT s hs)
  by_cases hc : chk s = 0
  · rw [hc] at HC
    cases hf : find L s with
    | some n =>
      have HR := hide (show internM L s = ((n : Int), 0, L) by simp [internM, hc, hf])
      have HF := hide fun w' (hb : Below w.heap.size w w') => h.left hb
      have HT := hide fun w' (hb : Below w.heap.size w w') => h.below hb
      have HK := hide (index_keys L 0)
      have HG := hide (show mget (indexFrom 0 L) (.string s) = some (.int .i64 (n : Int)) by rw [index_get]; unfold find at hf; rw [hf]; rfl)
      clear h hT hc hf
      rw [HR.out]
      go_enter Tryd.func12, Tryd.ntmps12
      go_wp2_with (first | (go_at_call 38; refine (Calls.mono HC.out) ?_; rintro e w' ⟨rfl, hb⟩; obtain ⟨vs, ib, h1, h2, h3, _⟩ := (HT.out w' hb).holds; have c1 : w'.cell? ⟨tb, 1, none⟩ = some (.map (some ib)) := (h1.cell 1).trans rfl; obtain ⟨A, c, rfl, _⟩ := h2.form; have c0 : w'.cell? ⟨tb, 0, none⟩ = some (.slice A L.length c) := (h1.cell 0).trans rfl) | (at_lookup; refine wpList_lookup_is rfl _ _ true rfl Tryd.underlying73 Tryd.underlying9 _ (zero_int _) rfl h3 HK.out (.string s) rfl (.str s) _ HG.out ?_))
      go_ret2
      exact ⟨rfl, HF.out _ hb⟩
    | none =>
      have HT := hide fun w' (hb : Below w.heap.size w w') => h.below hb
      have HK := hide (index_keys L 0)
      have HG := hide (show mget (indexFrom 0 L) (.string s) = none by rw [index_get]; unfold find at hf; rw [hf]; rfl)
      by_cases hfull : 16384 ≤ L.length
      · have HR := hide (show internM L s = (0, 7, L) by simp [internM, hc, hf, hfull])
        have HF := hide fun w' (hb : Below w.heap.size w w') => h.left hb
        have hz : decide ((16384 : Int) ≤ (L.length : Int)) = true := by simp; omega
        clear hfull
        clear h hT hc hf hL
        rw [HR.out]
        go_enter Tryd.func12, Tryd.ntmps12
        go_wp2_with (first | (go_at_call 38; refine (Calls.mono HC.out) ?_; rintro e w' ⟨rfl, hb⟩; obtain ⟨vs, ib, h1, h2, h3, _⟩ := (HT.out w' hb).holds; have c1 : w'.cell? ⟨tb, 1, none⟩ = some (.map (some ib)) := (h1.cell 1).trans rfl; obtain ⟨A, c, rfl, _⟩ := h2.form; have c0 : w'.cell? ⟨tb, 0, none⟩ = some (.slice A L.length c) := (h1.cell 0).trans rfl) | (at_lookup; refine wpList_lookup_is rfl _ _ true rfl Tryd.underlying73 Tryd.underlying9 _ (zero_int _) rfl h3 HK.out (.string s) rfl (.str s) _ HG.out ?_))
        go_ret2
        exact ⟨rfl, HF.out _ hb⟩
      · have HR := hide (show internM L s = ((L.length : Int), 0, L ++ [Sym.fresh s true]) by simp [internM, hc, hf]; omega)
        have HA := hide fun w' (hb : Below w.heap.size w w') => add_true (h.below hb) s (by omega) hf
        have hz : decide ((16384 : Int) ≤ (L.length : Int)) = false := by simp; omega
        clear h hT hc hf hL hfull
        rw [HR.out]
        go_enter Tryd.func12, Tryd.ntmps12
        go_wp2_with (first | (go_at_call 38; refine (Calls.mono HC.out) ?_; rintro e w' ⟨rfl, hb⟩; obtain ⟨vs, ib, h1, h2, h3, _⟩ := (HT.out w' hb).holds; have c1 : w'.cell? ⟨tb, 1, none⟩ = some (.map (some ib)) := (h1.cell 1).trans rfl; obtain ⟨A, c, rfl, _⟩ := h2.form; have c0 : w'.cell? ⟨tb, 0, none⟩ = some (.slice A L.length c) := (h1.cell 0).trans rfl) | (at_lookup; refine wpList_lookup_is rfl _ _ true rfl Tryd.underlying73 Tryd.underlying9 _ (zero_int _) rfl h3 HK.out (.string s) rfl (.str s) _ HG.out ?_) | (go_at_call 39; refine (Calls.mono (HA.out _ hb)) ?_; rintro e w2 ⟨rfl, hw2⟩))
        go_ret2
        exact ⟨rfl, .after hb hw2⟩
  · have HR := hide (show internM L s = (0, chk s, L) by simp [internM, hc])
    have HF := hide fun w' (hb : Below w.heap.size w w') => h.left hb
    have hz : (chk s == 0) = false := by simpa using hc
    clear h hT hc
    rw [HR.out]
    go_enter Tryd.func12, Tryd.ntmps12
    go_wp2_with (go_at_call 38; refine (Calls.mono HC.out) ?_; rintro e w' ⟨rfl, hb⟩)
    go_ret2
    exact ⟨rfl, HF.out _ hb⟩

set_option maxRecDepth 100000 in
set_option maxHeartbeats 1000000 in
theorem fresh_any (h : TableIs w tb L F) (hT : Tabs w) (s : ByteArray) (hs : s.size * 8 ≤ 140737488355328) (hL : L.length ≤ 16384) : Calls Tryd.prog 14 #[.pointer (some ⟨tb, 0, none⟩), .string s] w (Gives w tb F (freshM L s)) := by
  have HC := hide (check_any h hT s hs)
  by_cases hc : chk s = 0
  · rw [hc] at HC
    have HT := hide fun w' (hb : Below w.heap.size w w') => h.below hb
    by_cases hfull : 16384 ≤ L.length
    · have HR := hide (show freshM L s = (0, 7, L) by simp [freshM, hc, hfull])
      have HF := hide fun w' (hb : Below w.heap.size w w') => h.left hb
      have hz : decide ((16384 : Int) ≤ (L.length : Int)) = true := by simp; omega
      clear hfull
      clear h hT hc hL
      rw [HR.out]
      go_enter Tryd.func14, Tryd.ntmps14
      go_wp2_with (go_at_call 38; refine (Calls.mono HC.out) ?_; rintro e w' ⟨rfl, hb⟩; obtain ⟨vs, ib, h1, h2, h3, _⟩ := (HT.out w' hb).holds; have c1 : w'.cell? ⟨tb, 1, none⟩ = some (.map (some ib)) := (h1.cell 1).trans rfl; obtain ⟨A, c, rfl, _⟩ := h2.form; have c0 : w'.cell? ⟨tb, 0, none⟩ = some (.slice A L.length c) := (h1.cell 0).trans rfl)
      go_ret2
      exact ⟨rfl, HF.out _ hb⟩
    · have HR := hide (show freshM L s = ((L.length : Int), 0, L ++ [Sym.fresh s false]) by simp [freshM, hc]; omega)
      have HA := hide fun w' (hb : Below w.heap.size w w') => add_fresh (h.below hb) s (by omega)
      have hz : decide ((16384 : Int) ≤ (L.length : Int)) = false := by simp; omega
      clear h hT hc hL hfull
      rw [HR.out]
      go_enter Tryd.func14, Tryd.ntmps14
      go_wp2_with (first | (go_at_call 38; refine (Calls.mono HC.out) ?_; rintro e w' ⟨rfl, hb⟩; obtain ⟨vs, ib, h1, h2, h3, _⟩ := (HT.out w' hb).holds; have c1 : w'.cell? ⟨tb, 1, none⟩ = some (.map (some ib)) := (h1.cell 1).trans rfl; obtain ⟨A, c, rfl, _⟩ := h2.form; have c0 : w'.cell? ⟨tb, 0, none⟩ = some (.slice A L.length c) := (h1.cell 0).trans rfl) | (go_at_call 39; refine (Calls.mono (HA.out _ hb)) ?_; rintro e w2 ⟨rfl, hw2⟩))
      go_ret2
      exact ⟨rfl, .after hb hw2⟩
  · have HR := hide (show freshM L s = (0, chk s, L) by simp [freshM, hc])
    have HF := hide fun w' (hb : Below w.heap.size w w') => h.left hb
    have hz : (chk s == 0) = false := by simpa using hc
    clear h hT hc
    rw [HR.out]
    go_enter Tryd.func14, Tryd.ntmps14
    go_wp2_with (go_at_call 38; refine (Calls.mono HC.out) ?_; rintro e w' ⟨rfl, hb⟩)
    go_ret2
    exact ⟨rfl, HF.out _ hb⟩
end

end Go.Proofs.YtkhjdhoaephdkaaDoor
