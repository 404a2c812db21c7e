/- UndoBack returns true for every text and every list of edits and leaves everything that was there as it was: the given statement of the second form and its card: what comes in is of bulk at most 1048576; the table of rules and the two tables of utf8 hold what their initialisers lay. -/
import Derived.Test.YtghcmakhfdnimaaDoorUndRow0
import Derived.Test.YtghcmakhfdnimaaDoorUcc
namespace Go.Proofs.YtghcmakhfdnimaaDoor.undoBack
open Go.ChangeShapes Go.WideShapes Go.ChangeAt Go.RowKit Go.Lib Go.Shelf Go.Deep Go.Proofs.YtghcmakhfdnimaaDoor.undoRow
open Go.ChangeMaps (open_string shut_string)

section
variable {H : Type} {enc : TypeId × Value → H} {w : World} {base : Nat} {sp : Nat → Bool} {held : Bool}
theorem cEdt : Tryd.prog.cellsOf 34 = 4 := by kernel_rfl
set_option maxRecDepth 100000 in
theorem edt_of {fuel : Nat} {cs : List Value} {x : DataW H × List MemPlace} (h : DataW.trod enc Tryd.prog w base sp held fuel 34 cs = some x) : ∃ a : Edt, cs = a.cells := by
  obtain ⟨xs, n, rfl, -, hl, hxl, hall⟩ := DataW.trod_struct Tryd.underlying34 h
  rw [cEdt] at hl
  match cs, hl with
  | [v0, v1, v2, v3], _ =>
    match xs, hxl with
    | [y0, y1, y2, y3], _ =>
      obtain ⟨z0, q0, _⟩ := DataW.trod_int Tryd.underlying3 (show DataW.trod enc Tryd.prog w base sp held n 3 [v0] = some y0 from field_at hall 0 3 0 1 rfl cInt)
      obtain ⟨z1, q1, _⟩ := DataW.trod_int Tryd.underlying3 (show DataW.trod enc Tryd.prog w base sp held n 3 [v1] = some y1 from field_at hall 1 3 1 1 rfl cInt)
      obtain ⟨z2, q2, _⟩ := DataW.trod_string Tryd.underlying9 (show DataW.trod enc Tryd.prog w base sp held n 9 [v2] = some y2 from field_at hall 2 9 2 1 rfl cStr)
      obtain ⟨z3, q3, _⟩ := DataW.trod_bool Tryd.underlying4 (show DataW.trod enc Tryd.prog w base sp held n 4 [v3] = some y3 from field_at hall 3 4 3 1 rfl cBool)
      simp only [List.cons.injEq, and_true] at q0 q1 q2 q3
      exact ⟨⟨z0, z1, z2, z3⟩, by rw [q0, q1, q2, q3]; rfl⟩
/-- A slice of edits that came in. -/
theorem open_edits {fuel : Nat} {cs : List Value} {x : DataW H × List MemPlace} (h : DataW.trod enc Tryd.prog w base (fun _ => true) held fuel 22 cs = some x) : ∃ A c, ∃ l : List Edt, cs = [.slice A l.length c] ∧ l.length ≤ maxLen ∧ Rd w (.slice A l.length c) 4 l.length (rows Edt.cells l) := by
  rcases open_slice Tryd.underlying22 h with ⟨rfl, _⟩ | ⟨a, len, cap, m, n, D, Pl, rfl, _, hl, hm, hmm, _, hi⟩
  · exact ⟨none, 0, [], rfl, Nat.zero_le _, Rd.nil _ _⟩
  · simp only [if_true] at hmm
    have key : ∀ k, k ≤ len → ∃ l : List Edt, l.length = k ∧ ∀ i b, l[i]? = some b → ∀ j u, b.cells[j]? = some u → w.cell? (a.add (i * 4 + j)) = some u := by
      intro k
      induction k with
      | zero => exact fun _ => ⟨[], rfl, fun i b hb => by simp at hb⟩
      | succ k ih =>
        intro hk
        obtain ⟨l, hl1, hl2⟩ := ih (by omega)
        obtain ⟨cs', hc, ht⟩ := hi k (by omega)
        rw [cEdt] at hc
        obtain ⟨b, rfl⟩ := edt_of ht
        obtain ⟨_, _, hat⟩ := World.cells?_some hc
        refine ⟨l ++ [b], by simp [hl1], fun i c hic j u hju => ?_⟩
        by_cases e : i < l.length
        · rw [List.getElem?_append_left e] at hic
          exact hl2 i c hic j u hju
        · rw [List.getElem?_append_right (by omega)] at hic
          have e2 : i = k := by
            have := (List.getElem?_eq_some_iff.1 hic).1
            simp at this
            omega
          subst e2
          rw [hl1, Nat.sub_self] at hic
          simp at hic
          subst hic
          have hj : j < 4 := by have := (List.getElem?_eq_some_iff.1 hju).1; simpa [Edt.cells] using this
          have h1 := hat j hj
          rw [← Go.Deep.add_add, h1]
          rw [← hju]
    obtain ⟨l, hl1, hl2⟩ := key len (Nat.le_refl _)
    refine ⟨some a, cap, l, by rw [hl1], by rw [hl1]; omega, ?_⟩
    refine ⟨_, _, rfl, by rw [rows_len edt_len], fun hp => ?_⟩
    obtain ⟨b0, hb0⟩ : ∃ b0, l[0]? = some b0 := ⟨_, List.getElem?_eq_getElem hp⟩
    have h0 := hl2 0 b0 hb0 0 _ rfl
    obtain ⟨bk, off, spot⟩ := a
    have hspot : spot = none := by simpa [Addr.add] using World.cell?_spot h0
    subst hspot
    refine ⟨bk, off, rfl, fun j u hu => ?_⟩
    have hjl : j < l.length * 4 := by have := (List.getElem?_eq_some_iff.1 hu).1; rwa [rows_len edt_len] at this
    obtain ⟨b, hb⟩ : ∃ b, l[j / 4]? = some b := ⟨_, List.getElem?_eq_getElem (by omega)⟩
    have e := rows_at edt_len l (j / 4) (j % 4) b hb (Nat.mod_lt _ (by omega))
    rw [show j / 4 * 4 + j % 4 = j by omega] at e
    have h1 := hl2 (j / 4) b hb (j % 4) u (by rw [← e]; exact hu)
    rw [show j / 4 * 4 + j % 4 = j by omega] at h1
    rwa [Addr.add_lit] at h1
end
theorem short {H : Type} {s : ByteArray} {d : DataW H} (hk : Rows.uptoSmall H [.lit (.string s.data.toList), d] = true) : s.size ≤ 1048576 := by
  have h : Rows.uptoBulkAll [DataW.lit (H := H) (.string s.data.toList), d] ≤ 1048576 := of_decide_eq_true hk
  simp only [Rows.uptoBulkAll, Rows.uptoBulk] at h
  have e : s.data.toList.length = s.size := by rw [Array.length_toList]; rfl
  omega
theorem reads (os : Os) {H : Type} (enc : TypeId × Value → H) : ∃ places, DataW.whole enc Tryd.prog ((laidWorld os).forCall (fun _ _ => 0) ⟨#[], #[.string ⟨#[]⟩, .slice none 0 0], []⟩).memory Tryd.f3.params.toList Rows.undoBackSpec.vars false (#[Value.string ⟨#[]⟩, Value.slice none 0 0] : Array Value).toList 8 = some ([.lit (.string []), .nil], [], places) :=
  ⟨[], by kernel_rfl⟩

set_option maxRecDepth 100000 in
set_option maxHeartbeats 2000000 in
theorem contract (H : Type) (enc : TypeId × Value → H) (W : World) (base : Nat) (args : Array Value) (ds gs : List (DataW H)) (before : List MemPlace)
    (hval : ∀ (j : Nat) t v, Tryd.f3.params[j]? = some t → args[j]? = some v → Value.okWide Tryd.prog W .any base t v) (hk : Rows.uptoSmall H (ds ++ gs) = true)
    (hW : DataW.Whole enc Tryd.prog Tryd.f3.params.toList Rows.undoBackSpec.vars false W args.toList ds gs before) (hL : laidMetH Tryd.prog Rows.undoBackUptoRow.laid W) :
    Calls Tryd.prog 3 args W fun e W' => ∃ v, e = .returned v ∧ Rows.undoBackSpec.post enc Tryd.prog Tryd.f3 false true false false W args v W' := by
  have hW' := hW
  obtain ⟨p, q, hA0, hV, rfl, hfz, hnd⟩ := hW
  have hA : DataW.TrodAll enc Tryd.prog W 0 (fun _ => true) true Tryd.f3.params.toList args.toList ds p := hA0
  rw [Tryd.params3] at hA hval
  obtain ⟨v0, v1, d0, d1, p0, p1, rfl, rfl, rfl, h0, h1⟩ := trodAll_two hA
  obtain ⟨rfl, rfl⟩ := trodVars_none hV
  have h1k := h1
  obtain ⟨s, rfl, rfl, rfl, hs0⟩ := open_string Tryd.underlying9 (hval 0 9 v0 rfl rfl) h0
  obtain ⟨a1, l1, n1, rfl⟩ := okWide_slice Tryd.underlying22 (hval 1 22 v1 rfl rfl)
  obtain ⟨fuel1, hf1⟩ := h1
  clear hA0
  have hz := short hk
  have hlt : ∀ x ∈ [] ++ p1, x.block < W.heap.size := fun x hx => hW'.lt x (by simpa using hx)
  obtain ⟨A1, c1, l, e1, m1, r1⟩ := open_edits hf1
  simp only [Value.cells, List.cons.injEq, Value.slice.injEq, and_true] at e1
  obtain ⟨rfl, rfl, rfl⟩ := e1
  refine (back_walk s l _ W (rules hL) r1 m1 hz).mono ?_
  rintro e W' ⟨rfl, bel⟩
  refine ⟨_, rfl, _, _, _, [], [] ++ p1, [], by simpa using hW', ?_, ?_, ?_, bel.frame _, fun h => by cases h⟩
  · exact trodAll_mk1 (shut_bool Tryd.underlying4 _)
  · exact trodAll_mk2 (shut_string Tryd.underlying9 hs0) (Below.trod laidOut (by kernel_rfl) (of_decide_eq_true (by kernel_rfl)) h1k bel (fun x hx => hlt x (by simp [hx])))
  · rfl

set_option maxRecDepth 100000 in
theorem lifted (os : Os) (started : os.Started) (H : Type) (enc : TypeId × Value → H) (F : Stop.Interp) :
    ReturnsInHanded {} Tryd.checked os 3 .any ((Rows.OpenSpec.upto Rows.undoBackSpec).preRow enc Tryd.prog Tryd.f3 Rows.undoBackUptoRow.domain false Rows.undoBackUptoRow.laid) (((Rows.OpenSpec.upto Rows.undoBackSpec).at F).post enc Tryd.prog Tryd.f3 false true false false) := by
  obtain ⟨places, hx⟩ := reads os enc
  refine returnsInHanded_of_row (C := Tryd.checked) (s := Rows.OpenSpec.upto Rows.undoBackSpec) own started (by kernel_rfl) Tryd.func3
    (witness_row_at (enc := enc) (C := Tryd.checked) false (laidWorld os) #[.string ⟨#[]⟩, .slice none 0 0] rfl (by kernel_rfl) (by kernel_rfl) (by kernel_rfl)
      (OpenSpec.preRow_of_cond 8 hx (by kernel_rfl) (fun k hk => by cases hk; kernel_rfl) (by kernel_rfl) (laid_met os _))) ?_
  intro W base args ds gs before hval hW _ hcond _ hL _ _
  exact contract H enc W base args ds gs before hval (hcond _ rfl) hW hL

set_option maxRecDepth 100000 in
theorem said : Rows.UndoBackUptoSaid :=
  OpenClaim.holds_of_cond 3 Tryd.f3 rfl rfl rfl rfl rfl rfl rfl ⟨rfl, rfl, rfl, rfl, rfl⟩ rfl rfl rfl rfl rfl (by kernel_rfl) Tryd.func3 (by kernel_rfl)
    (of_decide_eq_true (by kernel_rfl)) (by unfold Func.isWrapper; rw [if_neg (of_decide_eq_false (by kernel_rfl))]; exact ⟨rfl, rfl⟩)
    (fun os started H enc _ F => by rw [OpenClaim.pre_eq_preRow]; exact lifted os started H enc F)

/-- No parameter wants a stand-in; the program's own looks are on: what the card asks. -/
theorem plain (f : FuncId) (fn : Func) (hf : Tryd.pinned.checked.prog.funcNamed "copyist/copyistlaw19.UndoBack" = some f) (hfn : Tryd.pinned.checked.prog.funcs[f]? = some fn) :
    false = Tryd.pinned.checked.prog.looks [] ∧ ∀ (j : Nat) t, fn.params[j]? = some t → Tryd.pinned.checked.prog.wantsStandIn t = false := by
  obtain rfl : f = 3 := Option.some.inj ((show Tryd.prog.funcNamed "copyist/copyistlaw19.UndoBack" = some 3 by kernel_rfl).symm.trans hf) |>.symm
  obtain rfl : fn = Tryd.f3 := (Option.some.inj (Tryd.func3.symm.trans hfn)).symm
  refine ⟨by kernel_rfl, fun j t ht => ?_⟩
  rw [Tryd.params3] at ht
  have hm : t = 9 ∨ t = 22 := by simpa using Array.mem_of_getElem? ht
  rcases hm with rfl | rfl
  · exact (show Tryd.prog.wantsStandIn 9 = false by kernel_rfl)
  · exact (show Tryd.prog.wantsStandIn 22 = false by kernel_rfl)

set_option maxRecDepth 100000 in
theorem card : Rows.UndoBackUptoCardSaid :=
  Claim7.holds_tied_plain_at .later [] _ _ _ _ said (fun _ h => by cases h) (by kernel_rfl) (fun _ h => by cases h) undoBackUpto_row_tie rfl ⟨rfl, rfl⟩ (by kernel_rfl) rfl plain (by kernel_rfl)

end Go.Proofs.YtghcmakhfdnimaaDoor.undoBack
