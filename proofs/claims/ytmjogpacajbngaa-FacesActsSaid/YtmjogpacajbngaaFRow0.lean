/- What the rows of the faces' laws have in common: attributes that come in. No condition but those written. -/
import Derived.Test.YtmjogpacajbngaaFa
import Derived.Test.YtmjogpacajbngaaRows
import Derived.ProofKit
import Derived.OpenShut
import Derived.Lib.SmallJoins
namespace Go.Proofs.Ytmjogpacajbngaa.facesRow
open Go.ChangeShapes Go.WideShapes Go.ChangeAt Go.RowKit Go.Lib

theorem own : ownKnob Try.prog.godebug = none := by kernel_rfl
theorem laidOut : laidOutB Try.prog = true := by kernel_rfl
theorem cInt : Try.prog.cellsOf 3 = 1 := by kernel_rfl
theorem cStr : Try.prog.cellsOf 9 = 1 := by kernel_rfl
theorem cAtt : Try.prog.cellsOf 23 = 6 := by kernel_rfl
section
variable {H : Type} {enc : TypeId × Value → H} {w : World} {base : Nat} {sp : Nat → Bool} {held : Bool}
theorem field_at {P : Program} {fs : Array Field} {n : Nat} {cs : List Value} {xs : List (DataW H × List MemPlace)} (hall : ∀ (i : Nat) (f : Field), fs[i]? = some f → DataW.trod enc P w base sp held n f.type ((cs.drop f.offset).take (P.cellsOf f.type)) = xs[i]?)
    (i : Nat) (t : TypeId) (off c : Nat) (hf : (fs[i]?).map (fun f => (f.type, f.offset)) = some (t, off)) (hc : P.cellsOf t = c) : DataW.trod enc P w base sp held n t ((cs.drop off).take c) = xs[i]? := by
  obtain ⟨f, h1, h2⟩ := Option.map_eq_some_iff.1 hf
  simp only [Prod.mk.injEq] at h2
  obtain ⟨rfl, rfl⟩ := h2
  subst hc
  exact hall i f h1
set_option maxRecDepth 100000 in
theorem att_of {fuel : Nat} {cs : List Value} {x : DataW H × List MemPlace} (h : DataW.trod enc Try.prog w base sp held fuel 23 cs = some x) : ∃ a : Att, cs = a.cells := by
  obtain ⟨xs, n, rfl, -, hl, hxl, hall⟩ := DataW.trod_struct Try.underlying23 h
  rw [cAtt] at hl
  match cs, hl with
  | [v0, v1, v2, v3, v4, v5], _ =>
    match xs, hxl with
    | [y0, y1, y2, y3, y4, y5], _ =>
      obtain ⟨z0, q0, _⟩ := DataW.trod_int Try.underlying3 (show DataW.trod enc Try.prog w base sp held n 3 [v0] = some y0 from field_at hall 0 3 0 1 rfl cInt)
      obtain ⟨z1, q1, _⟩ := DataW.trod_int Try.underlying3 (show DataW.trod enc Try.prog w base sp held n 3 [v1] = some y1 from field_at hall 1 3 1 1 rfl cInt)
      obtain ⟨z2, q2, _⟩ := DataW.trod_int Try.underlying3 (show DataW.trod enc Try.prog w base sp held n 3 [v2] = some y2 from field_at hall 2 3 2 1 rfl cInt)
      obtain ⟨z3, q3, _⟩ := DataW.trod_int Try.underlying3 (show DataW.trod enc Try.prog w base sp held n 3 [v3] = some y3 from field_at hall 3 3 3 1 rfl cInt)
      obtain ⟨z4, q4, _⟩ := DataW.trod_int Try.underlying3 (show DataW.trod enc Try.prog w base sp held n 3 [v4] = some y4 from field_at hall 4 3 4 1 rfl cInt)
      obtain ⟨z5, q5, _⟩ := DataW.trod_string Try.underlying9 (show DataW.trod enc Try.prog w base sp held n 9 [v5] = some y5 from field_at hall 5 9 5 1 rfl cStr)
      simp only [List.cons.injEq, and_true] at q0 q1 q2 q3 q4 q5
      exact ⟨⟨z0, z1, z2, z3, z4, z5⟩, by rw [q0, q1, q2, q3, q4, q5]⟩
set_option maxRecDepth 100000 in
/-- Attributes that came in. -/
theorem open_att {v : Value} {d : DataW H} {p : List MemPlace} {b0 : Nat} (hv : Value.okWide Try.prog w .any b0 23 v) (h : DataW.Trod enc Try.prog w base sp held 23 v d p) : ∃ a : Att, v = a.val := by
  obtain ⟨cs, rfl, _⟩ := okWide_struct Try.underlying23 hv
  obtain ⟨fuel, hf⟩ := h
  obtain ⟨a, e⟩ := att_of hf
  obtain rfl : cs = a.cells.toArray := Array.toList_inj.1 e
  exact ⟨a, rfl⟩
end
end Go.Proofs.Ytmjogpacajbngaa.facesRow
