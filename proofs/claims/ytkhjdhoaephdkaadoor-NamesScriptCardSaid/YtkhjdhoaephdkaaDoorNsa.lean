/- The reference's table of symbols: where it lies; There, Name, Interned, Func, may. No condition but those written. -/
import Derived.Test.YtkhjdhoaephdkaaDoorNsp
import Derived.Test.YtkhjdhoaephdkaaDoorRow
namespace Go.Proofs.YtkhjdhoaephdkaaDoor
open Go.RowKit

/-- A symbol of the reference: its name, is it interned, has it a function, this, the header of its properties and these. -/
structure RSym where
  nm : ByteArray
  it : Bool
  has : Bool
  fk : Int
  fn : Int
  pv : Value
  props : List (Int × Int × Int)
def RSym.cells (s : RSym) : List Value := [.string s.nm, .bool s.it, .bool s.has, .int .i64 s.fk, .int .i64 s.fn, s.pv]
theorem rsym_len (s : RSym) : s.cells.length = 6 := rfl
def rProp (x : RSym) : Heap := rowOf 56 3 x.pv x.props.length (rows pcells x.props)
def rProps (O : List RSym) : Heap := O.flatMap rProp
def rTab (ob : Nat) (lv : Value) (O : List RSym) : Heap := (ob, .cells 70 #[lv]) :: (rowOf 95 6 lv O.length (rows RSym.cells O) ++ rProps O)
/-- A header of properties. -/
def RSym.Ok (x : RSym) : Prop := RowOk x.pv x.props.length ∧ ∃ A c, x.pv = .slice A x.props.length c ∧ x.props.length ≤ c ∧ c ≤ maxLen
structure RAt (W w : World) (ob : Nat) (lv : Value) (O : List RSym) (R : Heap) : Prop where
  own : Own W w (rTab ob lv O ++ R)
  ok : RowOk lv O.length
  okp : ∀ x ∈ O, x.Ok
  len : O.length ≤ 16384
section
variable {W w w' : World} {ob : Nat} {lv : Value} {O : List RSym} {R : Heap}
theorem RAt.below (h : RAt W w ob lv O R) (hb : Below w.heap.size w w') : RAt W w' ob lv O R := ⟨h.own.below hb, h.ok, h.okp, h.len⟩
theorem RAt.blk (h : RAt W w ob lv O R) : Blk w ob 70 #[lv] := h.own.blk (List.mem_cons_self ..)
theorem RAt.sl (h : RAt W w ob lv O R) : Sl w 95 6 lv O.length (rows RSym.cells O) :=
  h.own.slOf (fun x hx => List.mem_cons_of_mem _ (List.mem_append_left _ (List.mem_append_left _ hx))) (by rw [rows_len rsym_len]) h.ok
theorem RAt.slp (h : RAt W w ob lv O R) {x : RSym} (hx : x ∈ O) : Sl w 56 3 x.pv x.props.length (rows pcells x.props) :=
  h.own.slOf (fun y hy => List.mem_cons_of_mem _ (List.mem_append_left _ (List.mem_append_right _ (List.mem_flatMap.2 ⟨x, hx, hy⟩)))) (by rw [rows_len pcells_len]) (h.okp x hx).1
theorem RAt.rest (h : RAt W w ob lv O R) : Own W w R := h.own.sub (List.sublist_append_right _ _)
/-- What is read of a symbol. -/
structure RCells (w : World) (ob g off c n i : Nat) (x : RSym) : Prop where
  c0 : w.cell? ⟨ob, 0, none⟩ = some (.slice (some ⟨g, off, none⟩) n c)
  p0 : w.cell? ⟨g, off + i * 6, none⟩ = some (.string x.nm)
  p1 : w.cell? ⟨g, off + i * 6 + 1, none⟩ = some (.bool x.it)
  p2 : w.cell? ⟨g, off + i * 6 + 2, none⟩ = some (.bool x.has)
  p3 : w.cell? ⟨g, off + i * 6 + 3, none⟩ = some (.int .i64 x.fk)
  p4 : w.cell? ⟨g, off + i * 6 + 4, none⟩ = some (.int .i64 x.fn)
  p5 : w.cell? ⟨g, off + i * 6 + 5, none⟩ = some x.pv
theorem RAt.at_ (h : RAt W w ob lv O R) (h0 : 0 < O.length) : ∃ g off c, lv = .slice (some ⟨g, off, none⟩) O.length c ∧ O.length ≤ c ∧ c ≤ maxLen ∧ (∀ j, w.frozen? ⟨g, j, none⟩ = false) ∧ ∀ i x, O[i]? = some x → RCells w ob g off c O.length i x := by
  obtain ⟨g, off, c, rfl, h1, h2, _, h4, h5⟩ := h.sl.fld rsym_len h0
  refine ⟨g, off, c, rfl, h1, h2, h4, fun i x hx => ⟨by rw [h.blk.cell]; rfl, by have := h5 i x 0 _ hx rfl; rwa [Nat.add_zero] at this, h5 i x 1 _ hx rfl, h5 i x 2 _ hx rfl, h5 i x 3 _ hx rfl, h5 i x 4 _ hx rfl, h5 i x 5 _ hx rfl⟩⟩
theorem RAt.c0 (h : RAt W w ob lv O R) : ∃ A c, lv = .slice A O.length c ∧ w.cell? ⟨ob, 0, none⟩ = some (.slice A O.length c) := by
  obtain ⟨A, c, rfl, _⟩ := h.sl.form
  exact ⟨A, c, rfl, by rw [h.blk.cell]; rfl⟩
theorem rthere_any (h : RAt W w ob lv O R) (n : Int) : Calls Tryd.prog 70 #[.pointer (some ⟨ob, 0, none⟩), .int .i64 n] w fun e w' => e = .returned (.bool (decide (0 ≤ n ∧ n < (O.length : Int)))) ∧ w = w' := by
  obtain ⟨A, c, rfl, c0⟩ := h.c0
  obtain ⟨k, hk⟩ : ∃ k, k = O.length := ⟨_, rfl⟩
  rw [← hk] at c0 ⊢
  clear h hk
  by_cases h0 : 0 ≤ n
  · have z0 : decide (0 ≤ n) = true := by simpa using h0
    have HE := hide (show decide (0 ≤ n ∧ n < (k : Int)) = decide (n < (k : Int)) by rw [Bool.eq_iff_iff]; simp [h0])
    clear h0
    go_enter Tryd.func70, Tryd.ntmps70
    go_wp2
    go_ret
    exact ⟨by rw [HE.out]; rfl, rfl⟩
  · have z0 : decide (0 ≤ n) = false := by simpa using h0
    have HE := hide (show decide (0 ≤ n ∧ n < (k : Int)) = false by simp; omega)
    clear h0
    go_enter Tryd.func70, Tryd.ntmps70
    go_wp2
    go_ret
    exact ⟨by rw [HE.out]; rfl, rfl⟩
/-- What the reading methods return. -/
def rget {α : Type} (l : List α) (n : Int) : Option α := if 0 ≤ n then l[n.toNat]? else none
theorem rget_some {α : Type} {l : List α} {n : Int} {x : α} (h : rget l n = some x) : ∃ i : Nat, n = (i : Int) ∧ l[i]? = some x ∧ decide (0 ≤ n ∧ n < (l.length : Int)) = true := by
  unfold rget at h
  split at h
  · refine ⟨n.toNat, by omega, h, ?_⟩
    have := (List.getElem?_eq_some_iff.1 h).1
    simp
    omega
  · cases h
theorem rget_none {α : Type} {l : List α} {n : Int} (h : rget l n = none) : decide (0 ≤ n ∧ n < (l.length : Int)) = false := by
  unfold rget at h
  split at h
  · have := List.getElem?_eq_none_iff.1 h
    simp
    omega
  · simp
    omega
set_option maxRecDepth 100000 in
set_option maxHeartbeats 4000000 in
theorem rname_any (h : RAt W w ob lv O R) (n : Int) : Calls Tryd.prog 55 #[.pointer (some ⟨ob, 0, none⟩), .int .i64 n] w fun e w' => e = .returned (.tuple #[.string (((rget O n).map RSym.nm).getD ⟨#[]⟩), .bool (rget O n).isSome]) ∧ w = w' := by
  have HT := hide (rthere_any h n)
  cases hx : rget O n with
  | none =>
    rw [rget_none hx] at HT
    clear h hx
    go_enter Tryd.func55, Tryd.ntmps55
    go_wp2_with fail
    refine (Calls.mono (HT.out)) ?_
    rintro r w2 ⟨rfl, rfl⟩
    go_wp2
    go_ret2
    exact ⟨rfl, rfl⟩
  | some x =>
    obtain ⟨i, rfl, hi, hb⟩ := rget_some hx
    rw [hb] at HT
    obtain ⟨g, off, c, rfl, _, _, _, hc⟩ := h.at_ (by have := (List.getElem?_eq_some_iff.1 hi).1; omega)
    obtain ⟨c0, p0, -, -, -, -, -⟩ := hc i x hi
    obtain ⟨k, hk⟩ : ∃ k, k = O.length := ⟨_, rfl⟩
    have hlt : (i : Int) < (k : Int) := by have := (List.getElem?_eq_some_iff.1 hi).1; omega
    have h0 : (0 : Int) ≤ (i : Int) := by omega
    rw [← hk] at c0
    clear h hx hc hi hb hk
    go_enter Tryd.func55, Tryd.ntmps55
    go_wp2_with fail
    refine (Calls.mono (HT.out)) ?_
    rintro r w2 ⟨rfl, rfl⟩
    go_wp2
    go_ret2
    exact ⟨rfl, rfl⟩
set_option maxRecDepth 100000 in
set_option maxHeartbeats 4000000 in
theorem rinterned_any (h : RAt W w ob lv O R) (n : Int) : Calls Tryd.prog 59 #[.pointer (some ⟨ob, 0, none⟩), .int .i64 n] w fun e w' => e = .returned (.bool (((rget O n).map RSym.it).getD false)) ∧ w = w' := by
  have HT := hide (rthere_any h n)
  cases hx : rget O n with
  | none =>
    rw [rget_none hx] at HT
    clear h hx
    go_enter Tryd.func59, Tryd.ntmps59
    go_wp2_with fail
    refine (Calls.mono (HT.out)) ?_
    rintro r w2 ⟨rfl, rfl⟩
    go_wp2
    go_ret
    exact ⟨rfl, rfl⟩
  | some x =>
    obtain ⟨i, rfl, hi, hb⟩ := rget_some hx
    rw [hb] at HT
    obtain ⟨g, off, c, rfl, _, _, _, hc⟩ := h.at_ (by have := (List.getElem?_eq_some_iff.1 hi).1; omega)
    obtain ⟨c0, -, p1, -, -, -, -⟩ := hc i x hi
    obtain ⟨k, hk⟩ : ∃ k, k = O.length := ⟨_, rfl⟩
    have hlt : (i : Int) < (k : Int) := by have := (List.getElem?_eq_some_iff.1 hi).1; omega
    have h0 : (0 : Int) ≤ (i : Int) := by omega
    rw [← hk] at c0
    clear h hx hc hi hb hk
    go_enter Tryd.func59, Tryd.ntmps59
    go_wp2_with fail
    refine (Calls.mono (HT.out)) ?_
    rintro r w2 ⟨rfl, rfl⟩
    go_wp2
    go_ret
    exact ⟨rfl, rfl⟩
/-- What Func returns. -/
def funcR (o : Option (Bool × Int × Int)) : Value := match o with
  | some (true, k, m) => .tuple #[.agg #[.int .i64 k, .int .i64 m], .bool true]
  | _ => .tuple #[.agg #[.int .i64 0, .int .i64 0], .bool false]
set_option maxRecDepth 100000 in
set_option maxHeartbeats 4000000 in
theorem rfunc_any (h : RAt W w ob lv O R) (n : Int) : Calls Tryd.prog 56 #[.pointer (some ⟨ob, 0, none⟩), .int .i64 n] w fun e w' => e = .returned (funcR ((rget O n).map fun x => (x.has, x.fk, x.fn))) ∧ Below w.heap.size w w' := by
  have hB : Below w.heap.size w (w.alloc (.cells #[.int .i64 0, .int .i64 0] 44)) := (Below.refl _ _).alloc (Nat.le_refl _) _
  have hbk : Blk (w.alloc (.cells #[.int .i64 0, .int .i64 0] 44)) w.heap.size 44 #[.int .i64 0, .int .i64 0] := heap_alloc_new w _
  have hA := h.below hB
  have HLT := hide (show ob < w.heap.size from h.blk.lt)
  have HGLT := hide (fun g (hg : lv.ownBlock = some g) => h.sl.lt g hg)
  go_enter Tryd.func56, Tryd.ntmps56
  go_wp2_with fail
  generalize w.alloc (.cells #[.int .i64 0, .int .i64 0] 44) = w1 at *
  have HT := hide (rthere_any hA n)
  have k0 : w1.cell? ⟨w.heap.size, 0, none⟩ = some (.int .i64 0) := by rw [hbk.cell]; rfl
  have k1 : w1.cell? ⟨w.heap.size, 1, none⟩ = some (.int .i64 0) := by rw [hbk.cell]; rfl
  have f0 := hbk.frozen 0
  have f1 := hbk.frozen 1
  have HB := hide hB
  have HBK := hide hbk
  cases hx : rget O n with
  | none =>
    have HE := hide (show funcR ((rget O n).map fun x => (x.has, x.fk, x.fn)) = .tuple #[.agg #[.int .i64 0, .int .i64 0], .bool false] by rw [hx]; rfl)
    rw [rget_none hx] at HT
    have HK := hide ((hbk.set_ 0 (.int .i64 0)).set_ 1 (.int .i64 0))
    have HB2 := hide ((hB.setCell (p := ⟨w.heap.size, 0, none⟩) (Nat.le_refl _) (.int .i64 0)).setCell (p := ⟨w.heap.size, 1, none⟩) (Nat.le_refl _) (.int .i64 0))
    clear h hx hA hbk hB
    refine (Calls.mono HT.out) ?_
    rintro e w2 ⟨rfl, rfl⟩
    go_wp2
    refine bodyPost_ret (v := .tuple #[.agg #[.int .i64 0, .int .i64 0], .bool false]) ?_ rfl ⟨by rw [HE.out], HB2.out⟩
    rw [results_cell_tmp rfl]
    show ((loadVar 44 ⟨w.heap.size, 0, none⟩).run Tryd.prog _).andThen _ = _
    rw [run_loadVar_row _ w.heap.size 44 44 #[.int .i64 0, .int .i64 0] (0, 0) _ HK.out Tryd.underlying44 rfl (by kernel_rfl)]
    rfl
  | some x =>
    obtain ⟨i, rfl, hi, hb⟩ := rget_some hx
    rw [hb] at HT
    obtain ⟨g, off, c, rfl, _, _, _, hc⟩ := hA.at_ (by have := (List.getElem?_eq_some_iff.1 hi).1; omega)
    obtain ⟨c0, -, -, p2, p3, p4, -⟩ := hc i x hi
    obtain ⟨k, hk⟩ : ∃ k, k = O.length := ⟨_, rfl⟩
    have hlt : (i : Int) < (k : Int) := by have := (List.getElem?_eq_some_iff.1 hi).1; omega
    have h0 : (0 : Int) ≤ (i : Int) := by omega
    have n1 : ¬ ob = w.heap.size := by have := HLT.out; omega
    have n2 : ¬ g = w.heap.size := by have := HGLT.out g rfl; omega
    have n3 : ¬ w.heap.size = ob := by omega
    have n4 : ¬ w.heap.size = g := by omega
    rw [← hk] at c0
    cases hh : x.has with
    | false =>
      rw [hh] at p2
      have HE := hide (show funcR ((rget O (i : Int)).map fun x => (x.has, x.fk, x.fn)) = .tuple #[.agg #[.int .i64 0, .int .i64 0], .bool false] by rw [hx]; simp [funcR, hh])
      have HK := hide ((hbk.set_ 0 (.int .i64 0)).set_ 1 (.int .i64 0))
      have HB2 := hide ((hB.setCell (p := ⟨w.heap.size, 0, none⟩) (Nat.le_refl _) (.int .i64 0)).setCell (p := ⟨w.heap.size, 1, none⟩) (Nat.le_refl _) (.int .i64 0))
      clear h hx hc hi hb hk hA hbk hB hh p3 p4
      refine (Calls.mono HT.out) ?_
      rintro e w2 ⟨rfl, rfl⟩
      go_wp2
      refine bodyPost_ret (v := .tuple #[.agg #[.int .i64 0, .int .i64 0], .bool false]) ?_ rfl ⟨by rw [HE.out], HB2.out⟩
      rw [results_cell_tmp rfl]
      show ((loadVar 44 ⟨w.heap.size, 0, none⟩).run Tryd.prog _).andThen _ = _
      rw [run_loadVar_row _ w.heap.size 44 44 #[.int .i64 0, .int .i64 0] (0, 0) _ HK.out Tryd.underlying44 rfl (by kernel_rfl)]
      rfl
    | true =>
      rw [hh] at p2
      have HE := hide (show funcR ((rget O (i : Int)).map fun x => (x.has, x.fk, x.fn)) = .tuple #[.agg #[.int .i64 x.fk, .int .i64 x.fn], .bool true] by rw [hx]; simp [funcR, hh])
      have HK := hide ((hbk.set_ 0 (.int .i64 x.fk)).set_ 1 (.int .i64 x.fn))
      have HB2 := hide ((hB.setCell (p := ⟨w.heap.size, 0, none⟩) (Nat.le_refl _) (.int .i64 x.fk)).setCell (p := ⟨w.heap.size, 1, none⟩) (Nat.le_refl _) (.int .i64 x.fn))
      clear h hx hc hi hb hk hA hbk hB hh
      refine (Calls.mono HT.out) ?_
      rintro e w2 ⟨rfl, rfl⟩
      go_wp2
      refine bodyPost_ret (v := .tuple #[.agg #[.int .i64 x.fk, .int .i64 x.fn], .bool true]) ?_ rfl ⟨by rw [HE.out], HB2.out⟩
      rw [results_cell_tmp rfl]
      show ((loadVar 44 ⟨w.heap.size, 0, none⟩).run Tryd.prog _).andThen _ = _
      rw [run_loadVar_row _ w.heap.size 44 44 #[.int .i64 x.fk, .int .i64 x.fn] (0, 0) _ HK.out Tryd.underlying44 rfl (by kernel_rfl)]
      rfl
/-- What may returns. -/
def mayR (len : Nat) (n : Int) : Int := if 0 ≤ n ∧ n < (len : Int) then (if n = 0 ∨ n = 1 then 10 else 0) else 8
set_option maxRecDepth 100000 in
set_option maxHeartbeats 4000000 in
theorem rmay_any (h : RAt W w ob lv O R) (n : Int) : Calls Tryd.prog 69 #[.pointer (some ⟨ob, 0, none⟩), .int .i64 n] w fun e w' => e = .returned (.int .i64 (mayR O.length n)) ∧ w = w' := by
  have HT := hide (rthere_any h n)
  obtain ⟨k, hk⟩ : ∃ k, k = O.length := ⟨_, rfl⟩
  rw [← hk] at HT ⊢
  clear h hk
  by_cases h1 : 0 ≤ n ∧ n < (k : Int)
  · rw [decide_eq_true h1] at HT
    by_cases h2 : n = 0
    · have z2 : decide (n = 0) = true := by simpa using h2
      have HE := hide (show mayR k n = 10 by unfold mayR; rw [if_pos h1, if_pos (.inl h2)])
      subst h2
      clear h1
      go_enter Tryd.func69, Tryd.ntmps69
      go_wp2_with fail
      refine (Calls.mono (HT.out)) ?_
      rintro r w2 ⟨rfl, rfl⟩
      go_wp2
      go_ret
      exact ⟨by rw [HE.out]; rfl, rfl⟩
    · have z2 : decide (n = 0) = false := by simpa using h2
      have z2b : (n == 0) = false := by simpa using h2
      by_cases h3 : n = 1
      · have HE := hide (show mayR k n = 10 by unfold mayR; rw [if_pos h1, if_pos (.inr h3)])
        subst h3
        clear h1 h2
        go_enter Tryd.func69, Tryd.ntmps69
        go_wp2_with fail
        refine (Calls.mono (HT.out)) ?_
        rintro r w2 ⟨rfl, rfl⟩
        go_wp2
        go_ret
        exact ⟨by rw [HE.out]; rfl, rfl⟩
      · have z3 : decide (n = 1) = false := by simpa using h3
        have z3b : (n == 1) = false := by simpa using h3
        have HE := hide (show mayR k n = 0 by unfold mayR; rw [if_pos h1, if_neg (by omega)])
        clear h1 h2 h3
        go_enter Tryd.func69, Tryd.ntmps69
        go_wp2_with fail
        refine (Calls.mono (HT.out)) ?_
        rintro r w2 ⟨rfl, rfl⟩
        go_wp2
        go_ret
        exact ⟨by rw [HE.out]; rfl, rfl⟩
  · rw [decide_eq_false h1] at HT
    have HE := hide (show mayR k n = 8 by unfold mayR; rw [if_neg h1])
    clear h1
    go_enter Tryd.func69, Tryd.ntmps69
    go_wp2_with fail
    refine (Calls.mono (HT.out)) ?_
    rintro r w2 ⟨rfl, rfl⟩
    go_wp2
    go_ret
    exact ⟨by rw [HE.out]; rfl, rfl⟩
end
end Go.Proofs.YtkhjdhoaephdkaaDoor
