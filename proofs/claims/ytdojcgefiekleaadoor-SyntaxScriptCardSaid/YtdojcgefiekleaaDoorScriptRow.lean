/- SyntaxScript returns true for every input and leaves everything that was there as it was: the given statement and its card, for every input, where the two tables of utf8 hold what their initialisers lay. -/
import Derived.Test.YtdojcgefiekleaaDoorSyRowA
import Derived.Test.YtdojcgefiekleaaDoorSds
namespace Go.Proofs.YtdojcgefiekleaaDoor.syntaxScript
open Go.ChangeShapes Go.WideShapes Go.ChangeAt Go.RowKit Go.Lib Go.Shelf Go.Proofs.YtdojcgefiekleaaDoor.syRow
open Go.ChangeMaps (open_string shut_string)

section
variable {H : Type} {enc : TypeId × Value → H} {W : World}
/-- Seven arguments. -/
theorem trodAll_seven {base : Nat} {sp : Nat → Bool} {held : Bool} {t t1 t2 t3 t4 t5 t6 : TypeId} {args : Array Value} {ds : List (DataW H)} {ps : List MemPlace} (h : DataW.TrodAll enc Tryd.prog W base sp held [t, t1, t2, t3, t4, t5, t6] args.toList ds ps) :
    ∃ v v1 v2 v3 v4 v5 v6 d d1 d2 d3 d4 d5 d6 p p1 p2 p3 p4 p5 p6, args = #[v, v1, v2, v3, v4, v5, v6] ∧ ds = [d, d1, d2, d3, d4, d5, d6] ∧ ps = p ++ (p1 ++ (p2 ++ (p3 ++ (p4 ++ (p5 ++ (p6)))))) ∧ DataW.Trod enc Tryd.prog W base sp held t v d p ∧ DataW.Trod enc Tryd.prog W base sp held t1 v1 d1 p1 ∧ DataW.Trod enc Tryd.prog W base sp held t2 v2 d2 p2 ∧ DataW.Trod enc Tryd.prog W base sp held t3 v3 d3 p3 ∧ DataW.Trod enc Tryd.prog W base sp held t4 v4 d4 p4 ∧ DataW.Trod enc Tryd.prog W base sp held t5 v5 d5 p5 ∧ DataW.Trod enc Tryd.prog W base sp held t6 v6 d6 p6 := by
  obtain ⟨v, vs, d, ds', p, q, hargs, rfl, rfl, h0, hr⟩ := trodAll_cons h
  obtain ⟨v1, vs1, d1, ds1, p1, q1, rfl, rfl, rfl, h1, hr⟩ := trodAll_cons hr
  obtain ⟨v2, vs2, d2, ds2, p2, q2, rfl, rfl, rfl, h2, hr⟩ := trodAll_cons hr
  obtain ⟨v3, vs3, d3, ds3, p3, q3, rfl, rfl, rfl, h3, hr⟩ := trodAll_cons hr
  obtain ⟨v4, vs4, d4, ds4, p4, q4, rfl, rfl, rfl, h4, hr⟩ := trodAll_cons hr
  obtain ⟨v5, vs5, d5, ds5, p5, q5, rfl, rfl, rfl, h5, hr⟩ := trodAll_cons hr
  obtain ⟨v6, vs6, d6, ds6, p6, q6, rfl, rfl, rfl, h6, hr⟩ := trodAll_cons hr
  obtain ⟨rfl, rfl, rfl⟩ := trodAll_nil hr
  exact ⟨v, v1, v2, v3, v4, v5, v6, d, d1, d2, d3, d4, d5, d6, p, p1, p2, p3, p4, p5, p6, by cases args; simp_all, rfl, by simp, h0, h1, h2, h3, h4, h5, h6⟩
theorem trodAll_mk7 {base : Nat} {sp : Nat → Bool} {held : Bool} {t t1 t2 t3 t4 t5 t6 : TypeId} {v v1 v2 v3 v4 v5 v6 : Value} {d d1 d2 d3 d4 d5 d6 : DataW H} {p p1 p2 p3 p4 p5 p6 : List MemPlace} (h0 : DataW.Trod enc Tryd.prog W base sp held t v d p) (h1 : DataW.Trod enc Tryd.prog W base sp held t1 v1 d1 p1) (h2 : DataW.Trod enc Tryd.prog W base sp held t2 v2 d2 p2) (h3 : DataW.Trod enc Tryd.prog W base sp held t3 v3 d3 p3) (h4 : DataW.Trod enc Tryd.prog W base sp held t4 v4 d4 p4) (h5 : DataW.Trod enc Tryd.prog W base sp held t5 v5 d5 p5) (h6 : DataW.Trod enc Tryd.prog W base sp held t6 v6 d6 p6) :
    DataW.TrodAll enc Tryd.prog W base sp held [t, t1, t2, t3, t4, t5, t6] [v, v1, v2, v3, v4, v5, v6] [d, d1, d2, d3, d4, d5, d6] (p ++ (p1 ++ (p2 ++ (p3 ++ (p4 ++ (p5 ++ (p6))))))) := ⟨p, p1 ++ (p2 ++ (p3 ++ (p4 ++ (p5 ++ (p6))))), h0, ⟨p1, p2 ++ (p3 ++ (p4 ++ (p5 ++ (p6)))), h1, ⟨p2, p3 ++ (p4 ++ (p5 ++ (p6))), h2, trodAll_mk4 h3 h4 h5 h6, rfl⟩, rfl⟩, rfl⟩
end
/-- What the row's list gives. -/
theorem tabs {W : World} (h : laidMetH Tryd.prog Rows.syntaxScriptRow.laid W) : Tabs W := syRow.tabs (W := W) h
theorem laid_met (os : Os) (args : Array Value) : laidMet Tryd.prog Rows.syntaxScriptRow.laid ((laidWorld os).forCall (fun _ _ => 0) ⟨#[], args, []⟩).memory := syRow.laid_met os args
theorem reads (os : Os) {H : Type} (enc : TypeId × Value → H) : ∃ places, DataW.whole enc Tryd.prog ((laidWorld os).forCall (fun _ _ => 0) ⟨#[], #[.bool false, .slice none 0 0, .string ⟨#[]⟩, .int .i64 0, .int .i64 0, .int .i64 0, .agg #[.slice none 0 0, .int .i64 0, .int .i64 0, .bool false, .int .i64 0, .bool false]], []⟩).memory Tryd.f9.params.toList Rows.syntaxScriptSpec.vars false (#[Value.bool false, Value.slice none 0 0, Value.string ⟨#[]⟩, Value.int .i64 0, Value.int .i64 0, Value.int .i64 0, Value.agg #[.slice none 0 0, .int .i64 0, .int .i64 0, .bool false, .int .i64 0, .bool false]] : Array Value).toList 8 = some ([.lit (.bool false), .nil, .lit (.string []), .lit (.int .i64 0), .lit (.int .i64 0), .lit (.int .i64 0), .agg [.nil, .lit (.int .i64 0), .lit (.int .i64 0), .lit (.bool false), .lit (.int .i64 0), .lit (.bool false)]], [], places) :=
  ⟨[], by kernel_rfl⟩

set_option maxRecDepth 100000 in
set_option maxHeartbeats 2000000 in
theorem contract (H : Type) (enc : TypeId × Value → H) (W : World) (base : Nat) (args : Array Value) (ds gs : List (DataW H)) (before : List MemPlace)
    (hval : ∀ (j : Nat) t v, Tryd.f9.params[j]? = some t → args[j]? = some v → Value.okWide Tryd.prog W .any base t v) (hwt : (DataW.weightsEach Tryd.prog (Tryd.f9.params.toList ++ (OpenSpec.ofChange Rows.syntaxScriptSpec).bare.plain.varTypes Tryd.prog) (ds ++ gs)).all (· ≤ reachBytes) = true)
    (hW : DataW.Whole enc Tryd.prog Tryd.f9.params.toList Rows.syntaxScriptSpec.vars false W args.toList ds gs before) (hL : laidMetH Tryd.prog Rows.syntaxScriptRow.laid W) :
    Calls Tryd.prog 9 args W fun e W' => ∃ v, e = .returned v ∧ Rows.syntaxScriptSpec.post enc Tryd.prog Tryd.f9 false true false false W args v W' := by
  have hW' := hW
  obtain ⟨p, q, hA0, hV, rfl, hfz, hnd⟩ := hW
  have hA : DataW.TrodAll enc Tryd.prog W 0 (fun _ => true) true Tryd.f9.params.toList args.toList ds p := hA0
  rw [Tryd.params9] at hA hval hwt
  obtain ⟨v0, v1, v2, v3, v4, v5, v6, d0, d1, d2, d3, d4, d5, d6, p0, p1, p2, p3, p4, p5, p6, rfl, rfl, rfl, h0, h1, h2, h3, h4, h5, h6⟩ := trodAll_seven hA
  obtain ⟨rfl, rfl⟩ := trodVars_none hV
  have h0k := h0
  have h1k := h1
  have h2k := h2
  have h3k := h3
  have h4k := h4
  have h5k := h5
  have h6k := h6
  obtain ⟨a0, rfl, rfl, rfl⟩ := open_bool Tryd.underlying4 (hval 0 4 v0 rfl rfl) h0
  obtain ⟨s1, n1, k1, rfl⟩ := okWide_slice Tryd.underlying22 (hval 1 22 v1 rfl rfl)
  obtain ⟨fuel1, hf1⟩ := h1
  obtain ⟨A1, c1, l1, e1, m1, r1⟩ := open_rules hf1
  simp only [Value.cells, List.cons.injEq, Value.slice.injEq, and_true] at e1
  obtain ⟨rfl, rfl, rfl⟩ := e1
  obtain ⟨a2, rfl, rfl, rfl, hs2⟩ := open_string Tryd.underlying9 (hval 2 9 v2 rfl rfl) h2
  obtain ⟨a3, rfl, _⟩ := open_int Tryd.underlying3 (hval 3 3 v3 rfl rfl) h3
  obtain ⟨a4, rfl, _⟩ := open_int Tryd.underlying3 (hval 4 3 v4 rfl rfl) h4
  obtain ⟨a5, rfl, _⟩ := open_int Tryd.underlying3 (hval 5 3 v5 rfl rfl) h5
  obtain ⟨A6, c6, S6, rfl, m6, r6, u6⟩ := open_state (hval 6 50 v6 rfl rfl) h6
  clear hA0
  simp only [List.cons_append, List.nil_append, DataW.weightsEach, DataW.weights, Array.length_toList] at hwt
  have hz2 : a2.size ≤ 140737488351232 := of_decide_eq_true (List.all_eq_true.1 hwt a2.data.size (by simp))
  have hlt : ∀ x ∈ [] ++ (p1 ++ ([] ++ (p3 ++ (p4 ++ (p5 ++ (p6)))))), x.block < W.heap.size := fun x hx => hW'.lt x (by simpa using hx)
  refine (script_walk a0 l1 _ a2 a3 a4 a5 A6 c6 S6 W (tabs hL) r1 (by omega) r6 m6 u6).mono ?_
  rintro e W' ⟨rfl, bel⟩
  refine ⟨_, rfl, _, _, _, [], [] ++ (p1 ++ ([] ++ (p3 ++ (p4 ++ (p5 ++ (p6)))))), [], by simpa using hW', ?_, ?_, ?_, bel.frame _, fun h => by cases h⟩
  · exact trodAll_mk1 (shut_bool Tryd.underlying4 _)
  · exact trodAll_mk7 (shut_bool Tryd.underlying4 _) (Below.trod laidOut (by kernel_rfl) (of_decide_eq_true (by kernel_rfl)) h1k bel (fun x hx => hlt x (by simp at hx ⊢; simp [hx]))) (shut_string Tryd.underlying9 hs2) (Below.trod laidOut (by kernel_rfl) (of_decide_eq_true (by kernel_rfl)) h3k bel (fun x hx => hlt x (by simp at hx ⊢; simp [hx]))) (Below.trod laidOut (by kernel_rfl) (of_decide_eq_true (by kernel_rfl)) h4k bel (fun x hx => hlt x (by simp at hx ⊢; simp [hx]))) (Below.trod laidOut (by kernel_rfl) (of_decide_eq_true (by kernel_rfl)) h5k bel (fun x hx => hlt x (by simp at hx ⊢; simp [hx]))) (Below.trod laidOut (by kernel_rfl) (of_decide_eq_true (by kernel_rfl)) h6k bel (fun x hx => hlt x (by simp at hx ⊢; simp [hx])))
  · rfl

set_option maxRecDepth 100000 in
theorem lifted (os : Os) (started : os.Started) (H : Type) (enc : TypeId × Value → H) (F : Stop.Interp) :
    ReturnsInHanded {} Tryd.checked os 9 .any ((OpenSpec.ofChange Rows.syntaxScriptSpec).preRow enc Tryd.prog Tryd.f9 Rows.syntaxScriptRow.domain false Rows.syntaxScriptRow.laid) (((OpenSpec.ofChange Rows.syntaxScriptSpec).at F).post enc Tryd.prog Tryd.f9 false true false false) := by
  obtain ⟨places, hx⟩ := reads os enc
  refine returnsInHanded_of_row (C := Tryd.checked) (s := OpenSpec.ofChange Rows.syntaxScriptSpec) own started (by kernel_rfl) Tryd.func9
    (witness_row_at (enc := enc) (C := Tryd.checked) false (laidWorld os) #[.bool false, .slice none 0 0, .string ⟨#[]⟩, .int .i64 0, .int .i64 0, .int .i64 0, .agg #[.slice none 0 0, .int .i64 0, .int .i64 0, .bool false, .int .i64 0, .bool false]] rfl (by kernel_rfl) (by kernel_rfl) (by kernel_rfl)
      (OpenSpec.preRow_of_cond 8 hx (by kernel_rfl) (fun k hk => by cases hk) (by kernel_rfl) (laid_met os _))) ?_
  intro W base args ds gs before hval hW _ _ hwt hL _ _
  exact contract H enc W base args ds gs before hval hwt hW hL

set_option maxRecDepth 100000 in
theorem said : Rows.SyntaxScriptSaid :=
  OpenClaim.holds_of_cond 9 Tryd.f9 rfl rfl rfl rfl rfl rfl rfl ⟨rfl, rfl, rfl, rfl, rfl⟩ rfl rfl rfl rfl rfl (by kernel_rfl) Tryd.func9 (by kernel_rfl)
    (of_decide_eq_true (by kernel_rfl)) (by unfold Func.isWrapper; rw [if_neg (of_decide_eq_false (by kernel_rfl))]; exact ⟨rfl, rfl⟩)
    (fun os started H enc _ F => by rw [OpenClaim.pre_eq_preRow]; exact lifted os started H enc F)

/-- No parameter wants a stand-in; the program's own looks are on: what the card asks. -/
theorem plain (f : FuncId) (fn : Func) (hf : Tryd.pinned.checked.prog.funcNamed "copyist/copyistlaw21.SyntaxScript" = some f) (hfn : Tryd.pinned.checked.prog.funcs[f]? = some fn) :
    false = Tryd.pinned.checked.prog.looks [] ∧ ∀ (j : Nat) t, fn.params[j]? = some t → Tryd.pinned.checked.prog.wantsStandIn t = false := by
  obtain rfl : f = 9 := Option.some.inj ((show Tryd.prog.funcNamed "copyist/copyistlaw21.SyntaxScript" = some 9 by kernel_rfl).symm.trans hf) |>.symm
  obtain rfl : fn = Tryd.f9 := (Option.some.inj (Tryd.func9.symm.trans hfn)).symm
  refine ⟨by kernel_rfl, fun j t ht => ?_⟩
  rw [Tryd.params9] at ht
  have hm : t = 50 ∨ t = 4 ∨ t = 3 ∨ t = 22 ∨ t = 9 := by
    have h1 := Array.mem_of_getElem? ht
    by_cases e0 : t = 50
    · exact .inl e0
    by_cases e1 : t = 4
    · exact .inr (.inl e1)
    by_cases e2 : t = 3
    · exact .inr (.inr (.inl e2))
    by_cases e3 : t = 22
    · exact .inr (.inr (.inr (.inl e3)))
    simp [e0, e1, e2, e3] at h1
    exact .inr (.inr (.inr (.inr (h1))))
  rcases hm with rfl | rfl | rfl | rfl | rfl
  · exact (show Tryd.prog.wantsStandIn 50 = false by kernel_rfl)
  · exact (show Tryd.prog.wantsStandIn 4 = false by kernel_rfl)
  · exact (show Tryd.prog.wantsStandIn 3 = false by kernel_rfl)
  · exact (show Tryd.prog.wantsStandIn 22 = false by kernel_rfl)
  · exact (show Tryd.prog.wantsStandIn 9 = false by kernel_rfl)

set_option maxRecDepth 100000 in
theorem card : Rows.SyntaxScriptCardSaid :=
  Claim7.holds_tied_plain_at .later [] _ _ _ _ said (fun _ h => by cases h) (by kernel_rfl) (fun _ h => by cases h) syntaxScript_row_tie rfl ⟨rfl, rfl⟩ (by kernel_rfl) rfl plain (by kernel_rfl)

end Go.Proofs.YtdojcgefiekleaaDoor.syntaxScript
