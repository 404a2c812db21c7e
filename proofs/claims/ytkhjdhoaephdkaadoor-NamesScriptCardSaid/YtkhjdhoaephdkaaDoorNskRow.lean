/- NamesScript returns true for every list of acts and leaves everything that was there as it was: the given statement and its card, for every input, where the two tables of utf8 hold what their initialisers lay. -/
import Derived.Test.YtkhjdhoaephdkaaDoorNsk
import Derived.Test.YtkhjdhoaephdkaaDoorArgs
import Derived.Test.YtkhjdhoaephdkaaDoorNamFullRow
namespace Go.Proofs.YtkhjdhoaephdkaaDoor.namesScript
open Go.ChangeShapes Go.WideShapes Go.ChangeAt Go.RowKit Go.Lib Go.Shelf Go.Deep

theorem laidOut : laidOutB Tryd.prog = true := by kernel_rfl
theorem own : ownKnob Tryd.prog.godebug = none := by kernel_rfl
section
variable {H : Type} {enc : TypeId × Value → H} {w : World} {base : Nat} {sp : Nat → Bool} {held : Bool}
theorem cInt : Tryd.prog.cellsOf 3 = 1 := by kernel_rfl
theorem cStr : Tryd.prog.cellsOf 9 = 1 := by kernel_rfl
theorem cWord : Tryd.prog.cellsOf 44 = 2 := by kernel_rfl
theorem cAct : Tryd.prog.cellsOf 66 = 6 := by kernel_rfl
theorem field_at {P : Program} {fs : Array Field} {n : Nat} {cs : List Value} {xs : List (DataW H × List MemPlace)} (hall : ∀ (i : Nat) (f : Field), fs[i]? = some f → DataW.trod enc P w base sp held n f.type ((cs.drop f.offset).take (P.cellsOf f.type)) = xs[i]?)
    (i : Nat) (t : TypeId) (off c : Nat) (hf : (fs[i]?).map (fun f => (f.type, f.offset)) = some (t, off)) (hc : P.cellsOf t = c) : DataW.trod enc P w base sp held n t ((cs.drop off).take c) = xs[i]? := by
  obtain ⟨f, h1, h2⟩ := Option.map_eq_some_iff.1 hf
  simp only [Prod.mk.injEq] at h2
  obtain ⟨rfl, rfl⟩ := h2
  subst hc
  exact hall i f h1
set_option maxRecDepth 100000 in
theorem word_of {fuel : Nat} {cs : List Value} {x : DataW H × List MemPlace} (h : DataW.trod enc Tryd.prog w base sp held fuel 44 cs = some x) : ∃ k n : Int, cs = [.int .i64 k, .int .i64 n] := by
  obtain ⟨xs, n, rfl, -, hl, hxl, hall⟩ := DataW.trod_struct Tryd.underlying44 h
  rw [cWord] at hl
  match cs, hl with
  | [v0, v1], _ =>
    match xs, hxl with
    | [y0, y1], _ =>
      obtain ⟨z0, q0, _⟩ := DataW.trod_int Tryd.underlying3 (show DataW.trod enc Tryd.prog w base sp held n 3 [v0] = some y0 from field_at hall 0 3 0 1 rfl cInt)
      obtain ⟨z1, q1, _⟩ := DataW.trod_int Tryd.underlying3 (show DataW.trod enc Tryd.prog w base sp held n 3 [v1] = some y1 from field_at hall 1 3 1 1 rfl cInt)
      simp only [List.cons.injEq, and_true] at q0 q1
      exact ⟨z0, z1, by rw [q0, q1]⟩
set_option maxRecDepth 100000 in
theorem ac3_of {fuel : Nat} {cs : List Value} {x : DataW H × List MemPlace} (h : DataW.trod enc Tryd.prog w base sp held fuel 66 cs = some x) : ∃ a : Ac3, cs = a.cells := by
  obtain ⟨xs, n, rfl, -, hl, hxl, hall⟩ := DataW.trod_struct Tryd.underlying66 h
  rw [cAct] at hl
  match cs, hl with
  | [v0, v1, v2, v3, v4, v5], _ =>
    match xs, hxl with
    | [y0, y1, y2, y3, y4], _ =>
      obtain ⟨z0, q0, _⟩ := DataW.trod_int Tryd.underlying3 (show DataW.trod enc Tryd.prog w base sp held n 3 [v0] = some y0 from field_at hall 0 3 0 1 rfl cInt)
      obtain ⟨z1, q1, _⟩ := DataW.trod_int Tryd.underlying3 (show DataW.trod enc Tryd.prog w base sp held n 3 [v1] = some y1 from field_at hall 1 3 1 1 rfl cInt)
      obtain ⟨z2, q2, _⟩ := DataW.trod_int Tryd.underlying3 (show DataW.trod enc Tryd.prog w base sp held n 3 [v2] = some y2 from field_at hall 2 3 2 1 rfl cInt)
      obtain ⟨z3, q3, _⟩ := DataW.trod_string Tryd.underlying9 (show DataW.trod enc Tryd.prog w base sp held n 9 [v3] = some y3 from field_at hall 3 9 3 1 rfl cStr)
      obtain ⟨z4, z5, q4⟩ := word_of (show DataW.trod enc Tryd.prog w base sp held n 44 [v4, v5] = some y4 from field_at hall 4 44 4 2 rfl cWord)
      simp only [List.cons.injEq, and_true] at q0 q1 q2 q3 q4
      exact ⟨⟨z0, z1, z2, z3, z4, z5⟩, by rw [q0, q1, q2, q3, q4.1, q4.2]; rfl⟩
/-- A slice of acts that came in. -/
theorem open_acts {fuel : Nat} {cs : List Value} {x : DataW H × List MemPlace} (h : DataW.trod enc Tryd.prog w base (fun _ => true) held fuel 60 cs = some x) : ∃ A c, ∃ l : List Ac3, cs = [.slice A l.length c] ∧ l.length ≤ maxLen ∧ Rd w (.slice A l.length c) 6 l.length (rows Ac3.cells l) := by
  rcases open_slice Tryd.underlying60 h with ⟨rfl, _⟩ | ⟨a, len, cap, m, n, D, Pl, rfl, _, hl, hm, hmm, _, hi⟩
  · exact ⟨none, 0, [], rfl, Nat.zero_le _, Rd.nil _ _⟩
  · simp only [if_true] at hmm
    have key : ∀ k, k ≤ len → ∃ l : List Ac3, l.length = k ∧ ∀ i b, l[i]? = some b → ∀ j u, b.cells[j]? = some u → w.cell? (a.add (i * 6 + j)) = some u := by
      intro k
      induction k with
      | zero => exact fun _ => ⟨[], rfl, fun i b hb => by simp at hb⟩
      | succ k ih =>
        intro hk
        obtain ⟨l, hl1, hl2⟩ := ih (by omega)
        obtain ⟨cs', hc, ht⟩ := hi k (by omega)
        rw [cAct] at hc
        obtain ⟨b, rfl⟩ := ac3_of ht
        obtain ⟨_, _, hat⟩ := World.cells?_some hc
        refine ⟨l ++ [b], by simp [hl1], fun i c hic j u hju => ?_⟩
        by_cases e : i < l.length
        · rw [List.getElem?_append_left e] at hic
          exact hl2 i c hic j u hju
        · rw [List.getElem?_append_right (by omega)] at hic
          have e2 : i = k := by
            have := (List.getElem?_eq_some_iff.1 hic).1
            simp at this
            omega
          subst e2
          rw [hl1, Nat.sub_self] at hic
          simp at hic
          subst hic
          have hj : j < 6 := by have := (List.getElem?_eq_some_iff.1 hju).1; simpa [Ac3.cells] using this
          have h1 := hat j hj
          rw [← Go.Deep.add_add, h1]
          rw [← hju]
    obtain ⟨l, hl1, hl2⟩ := key len (Nat.le_refl _)
    refine ⟨some a, cap, l, by rw [hl1], by rw [hl1]; omega, ?_⟩
    refine ⟨_, _, rfl, by rw [rows_len ac3_len], fun hp => ?_⟩
    obtain ⟨b0, hb0⟩ : ∃ b0, l[0]? = some b0 := ⟨_, List.getElem?_eq_getElem hp⟩
    have h0 := hl2 0 b0 hb0 0 _ rfl
    obtain ⟨bk, off, spot⟩ := a
    have hspot : spot = none := by simpa [Addr.add] using World.cell?_spot h0
    subst hspot
    refine ⟨bk, off, rfl, fun j u hu => ?_⟩
    have hjl : j < l.length * 6 := by have := (List.getElem?_eq_some_iff.1 hu).1; rwa [rows_len ac3_len] at this
    obtain ⟨b, hb⟩ : ∃ b, l[j / 6]? = some b := ⟨_, List.getElem?_eq_getElem (by omega)⟩
    have e := rows_at ac3_len l (j / 6) (j % 6) b hb (Nat.mod_lt _ (by omega))
    rw [show j / 6 * 6 + j % 6 = j by omega] at e
    have h1 := hl2 (j / 6) b hb (j % 6) u (by rw [← e]; exact hu)
    rw [show j / 6 * 6 + j % 6 = j by omega] at h1
    rwa [Addr.add_lit] at h1
end
/-- What the row's list gives: the two tables. -/
theorem tabs {W : World} (h : laidMetH Tryd.prog Rows.namesScriptRow.laid W) : Tabs W := namesFull.tabs (W := W) h
theorem laid_met (os : Os) (args : Array Value) : laidMet Tryd.prog Rows.namesScriptRow.laid ((namesFull.laidWorld os).forCall (fun _ _ => 0) ⟨#[], args, []⟩).memory := namesFull.laid_met os args
theorem reads (os : Os) {H : Type} (enc : TypeId × Value → H) : ∃ places, DataW.whole enc Tryd.prog ((namesFull.laidWorld os).forCall (fun _ _ => 0) ⟨#[], #[.slice none 0 0], []⟩).memory Tryd.f8.params.toList Rows.namesScriptSpec.vars false (#[Value.slice none 0 0] : Array Value).toList 8 = some ([.nil], [], places) :=
  ⟨[], by kernel_rfl⟩

set_option maxRecDepth 100000 in
set_option maxHeartbeats 2000000 in
theorem contract (H : Type) (enc : TypeId × Value → H) (W : World) (base : Nat) (args : Array Value) (ds gs : List (DataW H)) (before : List MemPlace)
    (hval : ∀ (j : Nat) t v, Tryd.f8.params[j]? = some t → args[j]? = some v → Value.okWide Tryd.prog W .any base t v) (hW : DataW.Whole enc Tryd.prog Tryd.f8.params.toList Rows.namesScriptSpec.vars false W args.toList ds gs before) (hL : laidMetH Tryd.prog Rows.namesScriptRow.laid W) :
    Calls Tryd.prog 8 args W fun e W' => ∃ v, e = .returned v ∧ Rows.namesScriptSpec.post enc Tryd.prog Tryd.f8 false true false false W args v W' := by
  have hW' := hW
  obtain ⟨p, q, hA0, hV, rfl, hfz, hnd⟩ := hW
  have hA : DataW.TrodAll enc Tryd.prog W 0 (fun _ => true) true Tryd.f8.params.toList args.toList ds p := hA0
  rw [Tryd.params8] at hA hval
  obtain ⟨v0, d0, rfl, rfl, h0⟩ := trodAll_one hA
  obtain ⟨rfl, rfl⟩ := trodVars_none hV
  obtain ⟨a0, l0, n0, rfl⟩ := okWide_slice Tryd.underlying60 (hval 0 60 v0 rfl rfl)
  have h0k := h0
  obtain ⟨fuel0, hf0⟩ := h0
  clear hA0
  simp only [List.append_nil] at hW'
  have hlt : ∀ x ∈ p, x.block < W.heap.size := fun x hx => by simpa using hW'.lt x hx
  obtain ⟨A0, c0, ss, e0, m0, r0⟩ := open_acts hf0
  simp only [Value.cells, List.cons.injEq, Value.slice.injEq, and_true] at e0
  obtain ⟨rfl, rfl, rfl⟩ := e0
  refine (script_walk ss _ W (tabs hL) r0 m0).mono ?_
  rintro e W' ⟨rfl, bel⟩
  refine ⟨_, rfl, _, _, _, [], p, [], hW', ?_, ?_, ?_, bel.frame _, fun h => by cases h⟩
  · exact trodAll_mk1 (shut_bool Tryd.underlying4 _)
  · exact trodAll_mk1 (Below.trod laidOut (by kernel_rfl) (of_decide_eq_true (by kernel_rfl)) h0k bel hlt)
  · rfl

set_option maxRecDepth 100000 in
theorem lifted (os : Os) (started : os.Started) (H : Type) (enc : TypeId × Value → H) (F : Stop.Interp) :
    ReturnsInHanded {} Tryd.checked os 8 .any ((OpenSpec.ofChange Rows.namesScriptSpec).preRow enc Tryd.prog Tryd.f8 Rows.namesScriptRow.domain false Rows.namesScriptRow.laid) (((OpenSpec.ofChange Rows.namesScriptSpec).at F).post enc Tryd.prog Tryd.f8 false true false false) := by
  obtain ⟨places, hx⟩ := reads os enc
  refine returnsInHanded_of_row (C := Tryd.checked) (s := OpenSpec.ofChange Rows.namesScriptSpec) own started (by kernel_rfl) Tryd.func8
    (witness_row_at (enc := enc) (C := Tryd.checked) false (namesFull.laidWorld os) #[.slice none 0 0] rfl (by kernel_rfl) (by kernel_rfl) (by kernel_rfl)
      (OpenSpec.preRow_of_cond 8 hx (by kernel_rfl) (fun k hk => by cases hk) (by kernel_rfl) (laid_met os _))) ?_
  intro W base args ds gs before hval hW _ _ hwt hL _ _
  exact contract H enc W base args ds gs before hval hW hL

set_option maxRecDepth 100000 in
theorem said : Rows.NamesScriptSaid :=
  OpenClaim.holds_of_cond 8 Tryd.f8 rfl rfl rfl rfl rfl rfl rfl ⟨rfl, rfl, rfl, rfl, rfl⟩ rfl rfl rfl rfl rfl (by kernel_rfl) Tryd.func8 (by kernel_rfl)
    (of_decide_eq_true (by kernel_rfl)) (by unfold Func.isWrapper; rw [if_neg (of_decide_eq_false (by kernel_rfl))]; exact ⟨rfl, rfl⟩)
    (fun os started H enc _ F => by rw [OpenClaim.pre_eq_preRow]; exact lifted os started H enc F)

/-- No parameter wants a stand-in; the program's own looks are on: what the card asks. -/
theorem plain (f : FuncId) (fn : Func) (hf : Tryd.pinned.checked.prog.funcNamed "copyist/copyistlaw03.NamesScript" = some f) (hfn : Tryd.pinned.checked.prog.funcs[f]? = some fn) :
    true = Tryd.pinned.checked.prog.looks [] ∧ ∀ (j : Nat) t, fn.params[j]? = some t → Tryd.pinned.checked.prog.wantsStandIn t = false := by
  obtain rfl : f = 8 := Option.some.inj ((show Tryd.prog.funcNamed "copyist/copyistlaw03.NamesScript" = some 8 by kernel_rfl).symm.trans hf) |>.symm
  obtain rfl : fn = Tryd.f8 := (Option.some.inj (Tryd.func8.symm.trans hfn)).symm
  refine ⟨by kernel_rfl, fun j t ht => ?_⟩
  rw [Tryd.params8] at ht
  obtain rfl : t = 60 := by simpa using Array.mem_of_getElem? ht
  exact (show Tryd.prog.wantsStandIn 60 = false by kernel_rfl)

set_option maxRecDepth 100000 in
theorem card : Rows.NamesScriptCardSaid :=
  Claim7.holds_tied_plain_at .later [] _ _ _ _ said (fun _ h => by cases h) (by kernel_rfl) (fun _ h => by cases h) namesScript_row_tie rfl ⟨rfl, rfl⟩ (by kernel_rfl) rfl plain (by kernel_rfl)

end Go.Proofs.YtkhjdhoaephdkaaDoor.namesScript
