/- What the rows of the syntax laws have in common: the listed variables. No condition. -/
import Derived.Test.YtdojcgefiekleaaDoorScn
import Derived.Test.YtdojcgefiekleaaDoorArgs
import Derived.Test.YtdojcgefiekleaaDoorCards
import Derived.Test.YtdojcgefiekleaaDoorTie
import Derived.ProofKit
import Derived.OpenShut
import Derived.Deep.DeepHandedRow
import Derived.Lib.LaidIn
import Derived.Lib.LaidU8T
namespace Go.Proofs.YtdojcgefiekleaaDoor.syRow
open Go.ChangeShapes Go.WideShapes Go.ChangeAt Go.RowKit Go.Lib Go.Shelf Go.Deep

theorem own : ownKnob Tryd.prog.godebug = none := by kernel_rfl
theorem laidOut : laidOutB Tryd.prog = true := by kernel_rfl
theorem first_eq : Go.Pinned.utf8First = Lib.firstData := by kernel_rfl
/-- What the row's list gives: the two tables. -/
theorem tabs {W : World} (h : laidMetH Tryd.prog Rows.syntaxManyRow.laid W) : Tabs W := by
  have h2 : laidMet Tryd.prog [("unicode/utf8.acceptRanges", Rows.laid_unicode_utf8_acceptRanges), ("unicode/utf8.first", Rows.laid_unicode_utf8_first)] W := h
  have hf : VarReads Tryd.prog W "unicode/utf8.first" Lib.firstData := by
    rw [← first_eq]
    exact Lib.laidMet.reads h2 (.tail _ (.head _))
  have ha : VarReads Tryd.prog W "unicode/utf8.acceptRanges" Lib.acceptData := Lib.laidMet.reads h2 (.head _)
  exact utf8Tabs_of_readsT (U8Types.of196 Tryd.lays196) ⟨by kernel_rfl, by kernel_rfl, by kernel_rfl, by kernel_rfl, by kernel_rfl, by kernel_rfl, by kernel_rfl⟩ hf ha

/-- A world for the witness: the settled one, the two tables holding what their initialisers lay. -/
noncomputable def laidWorld (os : Os) : World :=
  let w0 := World.holding Tryd.prog os ⟨#[], #[], []⟩
  let put (h : Array Obj) (g : Nat) (cs : Array Value) : Array Obj := h.modify g fun
    | .cells _ t frozen => .cells cs t frozen
    | o => o
  let h1 := put w0.heap 1 (Lib.firstTab.map fun z => Value.int .u8 z).toArray
  let h2 := put h1 2 ((List.range 16).flatMap fun i => [Value.int .u8 (Lib.accLo i), Value.int .u8 (Lib.accHi i)]).toArray
  { w0 with heap := h2 }
theorem laid_met (os : Os) (args : Array Value) : laidMet Tryd.prog Rows.syntaxManyRow.laid ((laidWorld os).forCall (fun _ _ => 0) ⟨#[], args, []⟩).memory :=
  (LaidIn.of_run (l := Rows.syntaxManyRow.laid) [2, 1] 8 (by kernel_rfl) (by kernel_rfl) (by kernel_rfl) (by kernel_rfl)).met
section
variable {H : Type} {enc : TypeId × Value → H} {w : World} {base : Nat} {sp : Nat → Bool} {held : Bool}
theorem cInt : Tryd.prog.cellsOf 3 = 1 := by kernel_rfl
theorem cRule : Tryd.prog.cellsOf 60 = 3 := by kernel_rfl
theorem field_at {P : Program} {fs : Array Field} {n : Nat} {cs : List Value} {xs : List (DataW H × List MemPlace)} (hall : ∀ (i : Nat) (f : Field), fs[i]? = some f → DataW.trod enc P w base sp held n f.type ((cs.drop f.offset).take (P.cellsOf f.type)) = xs[i]?)
    (i : Nat) (t : TypeId) (off c : Nat) (hf : (fs[i]?).map (fun f => (f.type, f.offset)) = some (t, off)) (hc : P.cellsOf t = c) : DataW.trod enc P w base sp held n t ((cs.drop off).take c) = xs[i]? := by
  obtain ⟨f, h1, h2⟩ := Option.map_eq_some_iff.1 hf
  simp only [Prod.mk.injEq] at h2
  obtain ⟨rfl, rfl⟩ := h2
  subst hc
  exact hall i f h1
set_option maxRecDepth 100000 in
theorem rule_of {fuel : Nat} {cs : List Value} {x : DataW H × List MemPlace} (h : DataW.trod enc Tryd.prog w base sp held fuel 60 cs = some x) : ∃ a : Int × Int × Int, cs = clE a := by
  obtain ⟨xs, n, rfl, -, hl, hxl, hall⟩ := DataW.trod_struct Tryd.underlying60 h
  rw [cRule] at hl
  match cs, hl with
  | [v0, v1, v2], _ =>
    match xs, hxl with
    | [y0, y1, y2], _ =>
      obtain ⟨z0, q0, _⟩ := DataW.trod_int Tryd.underlying3 (show DataW.trod enc Tryd.prog w base sp held n 3 [v0] = some y0 from field_at hall 0 3 0 1 rfl cInt)
      obtain ⟨z1, q1, _⟩ := DataW.trod_int Tryd.underlying3 (show DataW.trod enc Tryd.prog w base sp held n 3 [v1] = some y1 from field_at hall 1 3 1 1 rfl cInt)
      obtain ⟨z2, q2, _⟩ := DataW.trod_int Tryd.underlying3 (show DataW.trod enc Tryd.prog w base sp held n 3 [v2] = some y2 from field_at hall 2 3 2 1 rfl cInt)
      simp only [List.cons.injEq, and_true] at q0 q1 q2
      exact ⟨(z0, z1, z2), by rw [q0, q1, q2]; rfl⟩
/-- A slice of rules that came in. -/
theorem open_rules {fuel : Nat} {cs : List Value} {x : DataW H × List MemPlace} (h : DataW.trod enc Tryd.prog w base (fun _ => true) held fuel 22 cs = some x) : ∃ A c, ∃ l : List (Int × Int × Int), cs = [.slice A l.length c] ∧ l.length ≤ maxLen ∧ Rd w (.slice A l.length c) 3 l.length (rows clE l) := by
  rcases open_slice Tryd.underlying22 h with ⟨rfl, _⟩ | ⟨a, len, cap, m, n, D, Pl, rfl, _, hl, hm, hmm, _, hi⟩
  · exact ⟨none, 0, [], rfl, Nat.zero_le _, Rd.nil _ _⟩
  · simp only [if_true] at hmm
    have key : ∀ k, k ≤ len → ∃ l : List (Int × Int × Int), l.length = k ∧ ∀ i b, l[i]? = some b → ∀ j u, (clE b)[j]? = some u → w.cell? (a.add (i * 3 + j)) = some u := by
      intro k
      induction k with
      | zero => exact fun _ => ⟨[], rfl, fun i b hb => by simp at hb⟩
      | succ k ih =>
        intro hk
        obtain ⟨l, hl1, hl2⟩ := ih (by omega)
        obtain ⟨cs', hc, ht⟩ := hi k (by omega)
        rw [cRule] at hc
        obtain ⟨b, rfl⟩ := rule_of ht
        obtain ⟨_, _, hat⟩ := World.cells?_some hc
        refine ⟨l ++ [b], by simp [hl1], fun i c hic j u hju => ?_⟩
        by_cases e : i < l.length
        · rw [List.getElem?_append_left e] at hic
          exact hl2 i c hic j u hju
        · rw [List.getElem?_append_right (by omega)] at hic
          have e2 : i = k := by
            have := (List.getElem?_eq_some_iff.1 hic).1
            simp at this
            omega
          subst e2
          rw [hl1, Nat.sub_self] at hic
          simp at hic
          subst hic
          have hj : j < 3 := by have := (List.getElem?_eq_some_iff.1 hju).1; simpa [clE] using this
          have h1 := hat j hj
          rw [← Go.Deep.add_add, h1]
          rw [← hju]
    obtain ⟨l, hl1, hl2⟩ := key len (Nat.le_refl _)
    refine ⟨some a, cap, l, by rw [hl1], by rw [hl1]; omega, ?_⟩
    refine ⟨_, _, rfl, by rw [rows_len clE_len], fun hp => ?_⟩
    obtain ⟨b0, hb0⟩ : ∃ b0, l[0]? = some b0 := ⟨_, List.getElem?_eq_getElem hp⟩
    have h0 := hl2 0 b0 hb0 0 _ rfl
    obtain ⟨bk, off, spot⟩ := a
    have hspot : spot = none := by simpa [Addr.add] using World.cell?_spot h0
    subst hspot
    refine ⟨bk, off, rfl, fun j u hu => ?_⟩
    have hjl : j < l.length * 3 := by have := (List.getElem?_eq_some_iff.1 hu).1; rwa [rows_len clE_len] at this
    obtain ⟨b, hb⟩ : ∃ b, l[j / 3]? = some b := ⟨_, List.getElem?_eq_getElem (by omega)⟩
    have e := rows_at clE_len l (j / 3) (j % 3) b hb (Nat.mod_lt _ (by omega))
    rw [show j / 3 * 3 + j % 3 = j by omega] at e
    have h1 := hl2 (j / 3) b hb (j % 3) u (by rw [← e]; exact hu)
    rw [show j / 3 * 3 + j % 3 = j by omega] at h1
    rwa [Addr.add_lit] at h1
set_option maxRecDepth 100000 in
/-- A rule that came in. -/
theorem open_rule {v : Value} {d : DataW H} {p : List MemPlace} {b0 : Nat} (hv : Value.okWide Tryd.prog w .any b0 60 v) (h : DataW.Trod enc Tryd.prog w base sp held 60 v d p) : ∃ x y z : Int, v = .agg #[.int .i64 x, .int .i64 y, .int .i64 z] := by
  obtain ⟨cs, rfl, _⟩ := okWide_struct Tryd.underlying60 hv
  obtain ⟨fuel, hf⟩ := h
  obtain ⟨⟨x, y, z⟩, e⟩ := rule_of hf
  obtain rfl : cs = (clE (x, y, z)).toArray := Array.toList_inj.1 e
  exact ⟨x, y, z, rfl⟩
end
end Go.Proofs.YtdojcgefiekleaaDoor.syRow
