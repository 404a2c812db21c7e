/- What the rows of the undo log's laws have in common: the listed variables, the acts that come in. No condition. -/
import Derived.Test.YtghcmakhfdnimaaDoorUndLim
import Derived.Test.YtghcmakhfdnimaaDoorArgs
import Derived.Test.YtghcmakhfdnimaaDoorCards
import Derived.Test.YtghcmakhfdnimaaDoorTie
import Derived.ProofKit
import Derived.OpenShut
import Derived.Deep.DeepHandedRow
import Derived.Lib.LaidIn
import Derived.Lib.LaidU8T
namespace Go.Proofs.YtghcmakhfdnimaaDoor.undoRow
open Go.ChangeShapes Go.WideShapes Go.ChangeAt Go.RowKit Go.Lib Go.Shelf Go.Deep

theorem own : ownKnob Tryd.prog.godebug = none := by kernel_rfl
theorem laidOut : laidOutB Tryd.prog = true := by kernel_rfl
theorem first_eq : Go.Pinned.utf8First = Lib.firstData := by kernel_rfl
section
variable {H : Type} {enc : TypeId × Value → H} {P : Program} {w : World} {base : Nat} {sp : Nat → Bool} {held : Bool}
/-- A struct of four booleans that reads as these holds them. -/
theorem bools_of_struct {fuel : Nat} {t e : TypeId} {f0 f1 f2 f3 : Field} {cs : List Value} {a b c d : Bool} {p : List MemPlace} (ht : P.underlying t = some (.struct #[f0, f1, f2, f3])) (hb : P.underlying e = some .bool) (hc : P.cellsOf e = 1)
    (h0 : f0.type = e ∧ f0.offset = 0) (h1 : f1.type = e ∧ f1.offset = 1) (h2 : f2.type = e ∧ f2.offset = 2) (h3 : f3.type = e ∧ f3.offset = 3) (hct : P.cellsOf t = 4)
    (h : DataW.trod enc P w base sp held fuel t cs = some (.agg [.lit (.bool a), .lit (.bool b), .lit (.bool c), .lit (.bool d)], p)) : cs = [.bool a, .bool b, .bool c, .bool d] := by
  obtain ⟨xs, n, rfl, hx, hl, hxl, hall⟩ := DataW.trod_struct ht h
  rw [hct] at hl
  match cs, hl with
  | [v0, v1, v2, v3], _ =>
    match xs, hxl with
    | [y0, y1, y2, y3], _ =>
      have e0 := hall 0 f0 rfl
      have e1 := hall 1 f1 rfl
      have e2 := hall 2 f2 rfl
      have e3 := hall 3 f3 rfl
      rw [h0.1, h0.2, hc] at e0
      rw [h1.1, h1.2, hc] at e1
      rw [h2.1, h2.2, hc] at e2
      rw [h3.1, h3.2, hc] at e3
      obtain ⟨z0, q0, r0⟩ := DataW.trod_bool hb e0
      obtain ⟨z1, q1, r1⟩ := DataW.trod_bool hb e1
      obtain ⟨z2, q2, r2⟩ := DataW.trod_bool hb e2
      obtain ⟨z3, q3, r3⟩ := DataW.trod_bool hb e3
      simp only [List.drop_zero, List.drop_succ_cons, List.take_succ_cons, List.take_zero, List.cons.injEq, and_true] at q0 q1 q2 q3
      subst r0 r1 r2 r3
      simp at hx
      obtain ⟨⟨ha, hb', hc', hd⟩, _⟩ := hx
      subst ha hb' hc' hd
      subst q0 q1 q2 q3
      rfl
end
theorem rule_cells : Tryd.prog.cellsOf 87 = 4 := by kernel_rfl
/-- What the row's list gives. -/
theorem rules {W : World} (h : laidMetH Tryd.prog Rows.undoLimitRow.laid W) : Rules W := by
  have h2 : laidMet Tryd.prog [("unicode/utf8.acceptRanges", Rows.laid_unicode_utf8_acceptRanges), ("copyist/undo.rules", Rows.laid_copyist_undo_rules), ("unicode/utf8.first", Rows.laid_unicode_utf8_first)] W := h
  have hf : VarReads Tryd.prog W "unicode/utf8.first" Lib.firstData := by
    rw [← first_eq]
    exact Lib.laidMet.reads h2 (.tail _ (.tail _ (.head _)))
  have ha : VarReads Tryd.prog W "unicode/utf8.acceptRanges" Lib.acceptData := Lib.laidMet.reads h2 (.head _)
  have hr : VarReads Tryd.prog W "copyist/undo.rules" Rows.laid_copyist_undo_rules := Lib.laidMet.reads h2 (.tail _ (.head _))
  have hT : Tabs W := utf8Tabs_of_readsT (U8Types.of196 Tryd.lays196) ⟨by kernel_rfl, by kernel_rfl, by kernel_rfl, by kernel_rfl, by kernel_rfl, by kernel_rfl, by kernel_rfl⟩ hf ha
  obtain ⟨g, t, cs, fuel, p, hg, ht, hvar, hd⟩ := hr
  obtain rfl : 0 = g := Option.some.inj ((show Tryd.prog.globalNamed "copyist/undo.rules" = some 0 by kernel_rfl).symm.trans hg)
  obtain rfl : 88 = t := Option.some.inj ((show (Tryd.prog.globals[0]?).map (·.type) = some 88 by kernel_rfl).symm.trans ht)
  have row : ∀ (i : Nat) (a b c d : Bool), i < 7 → ([.agg [.lit (.bool false), .lit (.bool false), .lit (.bool false), .lit (.bool false)], .agg [.lit (.bool true), .lit (.bool true), .lit (.bool false), .lit (.bool false)], .agg [.lit (.bool true), .lit (.bool false), .lit (.bool false), .lit (.bool true)], .agg [.lit (.bool true), .lit (.bool false), .lit (.bool false), .lit (.bool false)], .agg [.lit (.bool true), .lit (.bool false), .lit (.bool false), .lit (.bool false)], .agg [.lit (.bool true), .lit (.bool true), .lit (.bool true), .lit (.bool false)], .agg [.lit (.bool false), .lit (.bool false), .lit (.bool false), .lit (.bool false)]] : List (DataW Unit))[i]? = some (.agg [.lit (.bool a), .lit (.bool b), .lit (.bool c), .lit (.bool d)]) → RuleIs W i a b c d := by
    intro i a b c d hi hd0
    obtain ⟨fuel', d', q, h1, h3⟩ := array_elem Tryd.underlying88 hd i hi
    rw [hd0] at h1
    cases h1
    rw [rule_cells] at h3
    have h4 := bools_of_struct Tryd.underlying87 Tryd.underlying4 (by kernel_rfl) ⟨rfl, rfl⟩ ⟨rfl, rfl⟩ ⟨rfl, rfl⟩ ⟨rfl, rfl⟩ rule_cells h3
    have cell : ∀ j, j < 4 → W.cell? ⟨0, i * 4 + j, none⟩ = [Value.bool a, .bool b, .bool c, .bool d][j]? := fun j hj => by
      rw [World.var?_cell hg hvar (i * 4 + j), ← h4, List.getElem?_take_of_lt hj, List.getElem?_drop]
      simp
    exact ⟨cell 0 (by omega), cell 1 (by omega), cell 2 (by omega), cell 3 (by omega)⟩
  exact ⟨hT, World.block_lt_of_cell? _ _ (row 1 true true false false (by omega) rfl).r0, row 1 _ _ _ _ (by omega) rfl, row 2 _ _ _ _ (by omega) rfl, row 3 _ _ _ _ (by omega) rfl, row 4 _ _ _ _ (by omega) rfl, row 5 _ _ _ _ (by omega) rfl, row 6 _ _ _ _ (by omega) rfl⟩

/-- A world for the witness: the settled one, the variables holding what their initialisers lay. -/
noncomputable def laidWorld (os : Os) : World :=
  let w0 := World.holding Tryd.prog os ⟨#[], #[], []⟩
  let put (h : Array Obj) (g : Nat) (cs : Array Value) : Array Obj := h.modify g fun
    | .cells _ t frozen => .cells cs t frozen
    | o => o
  let h0 := put w0.heap 0 ([false, false, false, false, true, true, false, false, true, false, false, true, true, false, false, false, true, false, false, false, true, true, true, false, false, false, false, false].map Value.bool).toArray
  let h1 := put h0 1 (Lib.firstTab.map fun z => Value.int .u8 z).toArray
  let h2 := put h1 2 ((List.range 16).flatMap fun i => [Value.int .u8 (Lib.accLo i), Value.int .u8 (Lib.accHi i)]).toArray
  { w0 with heap := h2 }
theorem laid_met (os : Os) (args : Array Value) : laidMet Tryd.prog Rows.undoLimitRow.laid ((laidWorld os).forCall (fun _ _ => 0) ⟨#[], args, []⟩).memory :=
  (LaidIn.of_run (l := Rows.undoLimitRow.laid) [2, 0, 1] 8 (by kernel_rfl) (by kernel_rfl) (by kernel_rfl) (by kernel_rfl)).met

/-! ### The acts that come in -/
section
variable {H : Type} {enc : TypeId × Value → H} {w : World} {base : Nat} {sp : Nat → Bool} {held : Bool}
theorem cInt : Tryd.prog.cellsOf 3 = 1 := by kernel_rfl
theorem cStr : Tryd.prog.cellsOf 9 = 1 := by kernel_rfl
theorem cBool : Tryd.prog.cellsOf 4 = 1 := by kernel_rfl
theorem cWord : Tryd.prog.cellsOf 49 = 2 := by kernel_rfl
theorem cChg : Tryd.prog.cellsOf 51 = 9 := by kernel_rfl
theorem cAct : Tryd.prog.cellsOf 53 = 11 := by kernel_rfl
theorem field_at {P : Program} {fs : Array Field} {n : Nat} {cs : List Value} {xs : List (DataW H × List MemPlace)} (hall : ∀ (i : Nat) (f : Field), fs[i]? = some f → DataW.trod enc P w base sp held n f.type ((cs.drop f.offset).take (P.cellsOf f.type)) = xs[i]?)
    (i : Nat) (t : TypeId) (off c : Nat) (hf : (fs[i]?).map (fun f => (f.type, f.offset)) = some (t, off)) (hc : P.cellsOf t = c) : DataW.trod enc P w base sp held n t ((cs.drop off).take c) = xs[i]? := by
  obtain ⟨f, h1, h2⟩ := Option.map_eq_some_iff.1 hf
  simp only [Prod.mk.injEq] at h2
  obtain ⟨rfl, rfl⟩ := h2
  subst hc
  exact hall i f h1
set_option maxRecDepth 100000 in
theorem word_of {fuel : Nat} {cs : List Value} {x : DataW H × List MemPlace} (h : DataW.trod enc Tryd.prog w base sp held fuel 49 cs = some x) : ∃ k n : Int, cs = [.int .i64 k, .int .i64 n] := by
  obtain ⟨xs, n, rfl, -, hl, hxl, hall⟩ := DataW.trod_struct Tryd.underlying49 h
  rw [cWord] at hl
  match cs, hl with
  | [v0, v1], _ =>
    match xs, hxl with
    | [y0, y1], _ =>
      obtain ⟨z0, q0, _⟩ := DataW.trod_int Tryd.underlying3 (show DataW.trod enc Tryd.prog w base sp held n 3 [v0] = some y0 from field_at hall 0 3 0 1 rfl cInt)
      obtain ⟨z1, q1, _⟩ := DataW.trod_int Tryd.underlying3 (show DataW.trod enc Tryd.prog w base sp held n 3 [v1] = some y1 from field_at hall 1 3 1 1 rfl cInt)
      simp only [List.cons.injEq, and_true] at q0 q1
      exact ⟨z0, z1, by rw [q0, q1]⟩
set_option maxRecDepth 100000 in
theorem chg_of {fuel : Nat} {cs : List Value} {x : DataW H × List MemPlace} (h : DataW.trod enc Tryd.prog w base sp held fuel 51 cs = some x) : ∃ c : Chg, cs = c.cells := by
  obtain ⟨xs, n, rfl, -, hl, hxl, hall⟩ := DataW.trod_struct Tryd.underlying51 h
  rw [cChg] at hl
  match cs, hl with
  | [v0, v1, v2, v3, v4, v5, v6, v7, v8], _ =>
    match xs, hxl with
    | [y0, y1, y2, y3, y4, y5, y6, y7], _ =>
      obtain ⟨z0, q0, _⟩ := DataW.trod_int Tryd.underlying3 (show DataW.trod enc Tryd.prog w base sp held n 3 [v0] = some y0 from field_at hall 0 3 0 1 rfl cInt)
      obtain ⟨z1, q1, _⟩ := DataW.trod_int Tryd.underlying3 (show DataW.trod enc Tryd.prog w base sp held n 3 [v1] = some y1 from field_at hall 1 3 1 1 rfl cInt)
      obtain ⟨z2, q2, _⟩ := DataW.trod_int Tryd.underlying3 (show DataW.trod enc Tryd.prog w base sp held n 3 [v2] = some y2 from field_at hall 2 3 2 1 rfl cInt)
      obtain ⟨z3, q3, _⟩ := DataW.trod_int Tryd.underlying3 (show DataW.trod enc Tryd.prog w base sp held n 3 [v3] = some y3 from field_at hall 3 3 3 1 rfl cInt)
      obtain ⟨z4, q4, _⟩ := DataW.trod_int Tryd.underlying3 (show DataW.trod enc Tryd.prog w base sp held n 3 [v4] = some y4 from field_at hall 4 3 4 1 rfl cInt)
      obtain ⟨z5, q5, _⟩ := DataW.trod_string Tryd.underlying9 (show DataW.trod enc Tryd.prog w base sp held n 9 [v5] = some y5 from field_at hall 5 9 5 1 rfl cStr)
      obtain ⟨z6, z7, q6⟩ := word_of (show DataW.trod enc Tryd.prog w base sp held n 49 [v6, v7] = some y6 from field_at hall 6 49 6 2 rfl cWord)
      obtain ⟨z8, q8, _⟩ := DataW.trod_bool Tryd.underlying4 (show DataW.trod enc Tryd.prog w base sp held n 4 [v8] = some y7 from field_at hall 7 4 8 1 rfl cBool)
      simp only [List.cons.injEq, and_true] at q0 q1 q2 q3 q4 q5 q6 q8
      exact ⟨⟨z0, z1, z2, z3, z4, z5, z6, z7, z8⟩, by rw [q0, q1, q2, q3, q4, q5, q6.1, q6.2, q8]; rfl⟩
set_option maxRecDepth 100000 in
theorem act_of {fuel : Nat} {cs : List Value} {x : DataW H × List MemPlace} (h : DataW.trod enc Tryd.prog w base sp held fuel 53 cs = some x) : ∃ a : Acn, cs = a.cells := by
  obtain ⟨xs, n, rfl, -, hl, hxl, hall⟩ := DataW.trod_struct Tryd.underlying53 h
  rw [cAct] at hl
  match cs, hl with
  | [v0, v1, v2, v3, v4, v5, v6, v7, v8, v9, v10], _ =>
    match xs, hxl with
    | [y0, y1, y2], _ =>
      obtain ⟨z0, q0, _⟩ := DataW.trod_int Tryd.underlying3 (show DataW.trod enc Tryd.prog w base sp held n 3 [v0] = some y0 from field_at hall 0 3 0 1 rfl cInt)
      obtain ⟨c, q1⟩ := chg_of (show DataW.trod enc Tryd.prog w base sp held n 51 [v1, v2, v3, v4, v5, v6, v7, v8, v9] = some y1 from field_at hall 1 51 1 9 rfl cChg)
      obtain ⟨z2, q2, _⟩ := DataW.trod_bool Tryd.underlying4 (show DataW.trod enc Tryd.prog w base sp held n 4 [v10] = some y2 from field_at hall 2 4 10 1 rfl cBool)
      simp only [Chg.cells, List.cons.injEq, and_true] at q0 q1 q2
      obtain ⟨e1, e2, e3, e4, e5, e6, e7, e8, e9⟩ := q1
      exact ⟨⟨z0, c, z2⟩, by rw [q0, q2, e1, e2, e3, e4, e5, e6, e7, e8, e9]; rfl⟩
/-- A slice of acts that came in. -/
theorem open_acts {fuel : Nat} {cs : List Value} {x : DataW H × List MemPlace} (h : DataW.trod enc Tryd.prog w base (fun _ => true) held fuel 45 cs = some x) : ∃ A c, ∃ l : List Acn, cs = [.slice A l.length c] ∧ l.length ≤ maxLen ∧ Rd w (.slice A l.length c) 11 l.length (rows Acn.cells l) := by
  rcases open_slice Tryd.underlying45 h with ⟨rfl, _⟩ | ⟨a, len, cap, m, n, D, Pl, rfl, _, hl, hm, hmm, _, hi⟩
  · exact ⟨none, 0, [], rfl, Nat.zero_le _, Rd.nil _ _⟩
  · simp only [if_true] at hmm
    have key : ∀ k, k ≤ len → ∃ l : List Acn, l.length = k ∧ ∀ i b, l[i]? = some b → ∀ j u, b.cells[j]? = some u → w.cell? (a.add (i * 11 + j)) = some u := by
      intro k
      induction k with
      | zero => exact fun _ => ⟨[], rfl, fun i b hb => by simp at hb⟩
      | succ k ih =>
        intro hk
        obtain ⟨l, hl1, hl2⟩ := ih (by omega)
        obtain ⟨cs', hc, ht⟩ := hi k (by omega)
        rw [cAct] at hc
        obtain ⟨b, rfl⟩ := act_of ht
        obtain ⟨_, _, hat⟩ := World.cells?_some hc
        refine ⟨l ++ [b], by simp [hl1], fun i c hic j u hju => ?_⟩
        by_cases e : i < l.length
        · rw [List.getElem?_append_left e] at hic
          exact hl2 i c hic j u hju
        · rw [List.getElem?_append_right (by omega)] at hic
          have e2 : i = k := by
            have := (List.getElem?_eq_some_iff.1 hic).1
            simp at this
            omega
          subst e2
          rw [hl1, Nat.sub_self] at hic
          simp at hic
          subst hic
          have hj : j < 11 := by have := (List.getElem?_eq_some_iff.1 hju).1; simpa [Acn.cells] using this
          have h1 := hat j hj
          rw [← Go.Deep.add_add, h1]
          rw [← hju]
    obtain ⟨l, hl1, hl2⟩ := key len (Nat.le_refl _)
    refine ⟨some a, cap, l, by rw [hl1], by rw [hl1]; omega, ?_⟩
    refine ⟨_, _, rfl, by rw [rows_len act_len], fun hp => ?_⟩
    obtain ⟨b0, hb0⟩ : ∃ b0, l[0]? = some b0 := ⟨_, List.getElem?_eq_getElem hp⟩
    have h0 := hl2 0 b0 hb0 0 _ rfl
    obtain ⟨bk, off, spot⟩ := a
    have hspot : spot = none := by simpa [Addr.add] using World.cell?_spot h0
    subst hspot
    refine ⟨bk, off, rfl, fun j u hu => ?_⟩
    have hjl : j < l.length * 11 := by have := (List.getElem?_eq_some_iff.1 hu).1; rwa [rows_len act_len] at this
    obtain ⟨b, hb⟩ : ∃ b, l[j / 11]? = some b := ⟨_, List.getElem?_eq_getElem (by omega)⟩
    have e := rows_at act_len l (j / 11) (j % 11) b hb (Nat.mod_lt _ (by omega))
    rw [show j / 11 * 11 + j % 11 = j by omega] at e
    have h1 := hl2 (j / 11) b hb (j % 11) u (by rw [← e]; exact hu)
    rw [show j / 11 * 11 + j % 11 = j by omega] at h1
    rwa [Addr.add_lit] at h1
end
end Go.Proofs.YtghcmakhfdnimaaDoor.undoRow
