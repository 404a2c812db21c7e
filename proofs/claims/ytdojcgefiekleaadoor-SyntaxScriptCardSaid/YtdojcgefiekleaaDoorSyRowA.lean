/- What the rows of the syntax laws with states or lists of integers have in common. No condition. -/
import Derived.Test.YtdojcgefiekleaaDoorSyRow0
import Derived.Test.YtdojcgefiekleaaDoorSdd
import Derived.ChangeSlices
namespace Go.Proofs.YtdojcgefiekleaaDoor.syRow
open Go.ChangeShapes Go.WideShapes Go.ChangeAt Go.RowKit Go.Lib Go.Shelf Go.Deep

section
variable {H : Type} {enc : TypeId × Value → H} {w : World} {base : Nat} {held : Bool}
theorem open_ints_in {t e : TypeId} {fuel : Nat} {cs : List Value} {x : DataW H × List MemPlace} {P : Program} (ht : P.underlying t = some (.slice e)) (he : P.underlying e = some (.int .i64)) (hc : P.cellsOf e = 1)
    (h : DataW.trod enc P w base (fun _ => true) held fuel t cs = some x) : ∃ A c, ∃ l : List Int, cs = [.slice A l.length c] ∧ l.length ≤ maxLen ∧ Rd w (.slice A l.length c) 1 l.length (zints l) := by
  rcases open_ints ht he hc h with ⟨rfl, _⟩ | ⟨a, len, cap, zs, rfl, _, hl, hm, hz, _, hcell, _⟩
  · exact ⟨none, 0, [], rfl, Nat.zero_le _, Rd.nil _ _⟩
  · simp only [if_true] at hz
    have e : (zs.take len).length = len := by simp; omega
    refine ⟨some a, cap, zs.take len, by rw [e], by omega, ?_⟩
    refine rd_of_cells (by simp [zints]) fun i u hu => ?_
    have hi : i < len := by
      have := (List.getElem?_eq_some_iff.1 hu).1
      simp [zints] at this
      omega
    have h1 := hcell i (by omega)
    rw [h1]
    unfold zints at hu
    rw [List.getElem?_map, List.getElem?_take_of_lt hi, List.getElem?_eq_getElem (by omega)] at hu
    rw [List.getD_eq_getElem?_getD, List.getElem?_eq_getElem (by omega)]
    simpa using hu
theorem cState : Tryd.prog.cellsOf 50 = 6 := by kernel_rfl
theorem cInts : Tryd.prog.cellsOf 24 = 1 := by kernel_rfl
theorem cBool : Tryd.prog.cellsOf 4 = 1 := by kernel_rfl
set_option maxRecDepth 100000 in
/-- A state that came in. -/
theorem open_state {v : Value} {d : DataW H} {p : List MemPlace} {b0 : Nat} (hv : Value.okWide Tryd.prog w .any b0 50 v) (h : DataW.Trod enc Tryd.prog w base (fun _ => true) held 50 v d p) :
    ∃ (A : Option Addr) (c : Nat) (S : Sta), v = .agg #[.slice A S.opens.length c, .int .i64 S.under, .int .i64 S.inn, .bool S.comment, .int .i64 S.start, .bool S.quoted] ∧ S.opens.length ≤ maxLen ∧ Rd w (.slice A S.opens.length c) 1 S.opens.length (zints S.opens) ∧ -9223372036854775808 ≤ S.under ∧ S.under ≤ 9223372036854775807 := by
  obtain ⟨cs, rfl, _⟩ := okWide_struct Tryd.underlying50 hv
  obtain ⟨fuel, hf⟩ := h
  obtain ⟨xs, n, rfl, -, hl, hxl, hall⟩ := DataW.trod_struct Tryd.underlying50 hf
  rw [cState] at hl
  obtain ⟨l⟩ := cs
  match l, hl with
  | [v0, v1, v2, v3, v4, v5], _ =>
    match xs, hxl with
    | [y0, y1, y2, y3, y4, y5], _ =>
      obtain ⟨A, c, l0, q0, m0, r0⟩ := open_ints_in Tryd.underlying24 Tryd.underlying3 cInt (show DataW.trod enc Tryd.prog w base (fun _ => true) held n 24 [v0] = some y0 from field_at hall 0 24 0 1 rfl cInts)
      obtain ⟨z1, q1, _, w1⟩ := DataW.trod_int Tryd.underlying3 (show DataW.trod enc Tryd.prog w base (fun _ => true) held n 3 [v1] = some y1 from field_at hall 1 3 1 1 rfl cInt)
      obtain ⟨z2, q2, _, _⟩ := DataW.trod_int Tryd.underlying3 (show DataW.trod enc Tryd.prog w base (fun _ => true) held n 3 [v2] = some y2 from field_at hall 2 3 2 1 rfl cInt)
      obtain ⟨z3, q3, _⟩ := DataW.trod_bool Tryd.underlying4 (show DataW.trod enc Tryd.prog w base (fun _ => true) held n 4 [v3] = some y3 from field_at hall 3 4 3 1 rfl cBool)
      obtain ⟨z4, q4, _, _⟩ := DataW.trod_int Tryd.underlying3 (show DataW.trod enc Tryd.prog w base (fun _ => true) held n 3 [v4] = some y4 from field_at hall 4 3 4 1 rfl cInt)
      obtain ⟨z5, q5, _⟩ := DataW.trod_bool Tryd.underlying4 (show DataW.trod enc Tryd.prog w base (fun _ => true) held n 4 [v5] = some y5 from field_at hall 5 4 5 1 rfl cBool)
      simp only [List.cons.injEq, and_true] at q0 q1 q2 q3 q4 q5
      refine ⟨A, c, ⟨l0, z1, z2, z3, z4, z5⟩, by rw [q0, q1, q2, q3, q4, q5], m0, r0, (bounds_i64 w1).1, (bounds_i64 w1).2⟩
end
end Go.Proofs.YtdojcgefiekleaaDoor.syRow
