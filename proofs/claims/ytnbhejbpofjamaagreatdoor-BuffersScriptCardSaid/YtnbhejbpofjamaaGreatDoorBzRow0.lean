/- What the rows of the buffers' great laws have in common: the listed variables. No condition. -/
import Derived.Test.YtnbhejbpofjamaaGreatDoorBms
import Derived.Test.YtnbhejbpofjamaaGreatDoorArgs
import Derived.Test.YtnbhejbpofjamaaGreatDoorCards
import Derived.Test.YtnbhejbpofjamaaGreatDoorTie
import Derived.ProofKit
import Derived.OpenShut
import Derived.Deep.DeepHandedRow
import Derived.Lib.LaidIn
import Derived.Lib.LaidU8T
import Derived.Lib.LaidTab
namespace Go.Proofs.YtnbhejbpofjamaaGreatDoor.bzRow
open Go.ChangeShapes Go.WideShapes Go.ChangeAt Go.RowKit Go.Lib Go.Shelf Go.Deep

theorem own : ownKnob Tryz.prog.godebug = none := by kernel_rfl
theorem laidOut : laidOutB Tryz.prog = true := by kernel_rfl
theorem first_eq : Go.Pinned.utf8First = Lib.firstData := by kernel_rfl
theorem pow_eq : Rows.laid_internal_strconv_uint64pow10 = tabData (H := Unit) .u64 pow10Tab := by kernel_rfl
theorem tabIs_of_reads {P : Program} {W : World} {name : String} {k : IntKind} {zs : List Int} {g : Nat} {t e : TypeId} {n : Nat}
    (hg : P.globalNamed name = some g) (hty : (P.globals[g]?).map (·.type) = some t) (ht : P.underlying t = some (.array n e)) (he : P.underlying e = some (.int k)) (hce : P.cellsOf e = 1) (hct : P.cellsOf t = n)
    (h : VarReads P W name (tabData k zs)) : TabIs P W name k zs := by
  obtain ⟨g', t', cs, fuel, p, hg', ht', hvar, hd⟩ := h
  obtain rfl := Option.some.inj (hg.symm.trans hg')
  obtain rfl := Option.some.inj (hty.symm.trans ht')
  unfold TabIs
  rw [hvar, ← cells_of_tab ht he hce hct hd]
section
variable {H : Type} {enc : TypeId × Value → H} {P : Program} {w : World} {base : Nat} {sp : Nat → Bool} {held : Bool}
/-- A struct of four booleans that reads as these holds them. -/
theorem bools_of_struct {fuel : Nat} {t e : TypeId} {f0 f1 f2 f3 : Field} {cs : List Value} {a b c d : Bool} {p : List MemPlace} (ht : P.underlying t = some (.struct #[f0, f1, f2, f3])) (hb : P.underlying e = some .bool) (hc : P.cellsOf e = 1)
    (h0 : f0.type = e ∧ f0.offset = 0) (h1 : f1.type = e ∧ f1.offset = 1) (h2 : f2.type = e ∧ f2.offset = 2) (h3 : f3.type = e ∧ f3.offset = 3) (hct : P.cellsOf t = 4)
    (h : DataW.trod enc P w base sp held fuel t cs = some (.agg [.lit (.bool a), .lit (.bool b), .lit (.bool c), .lit (.bool d)], p)) : cs = [.bool a, .bool b, .bool c, .bool d] := by
  obtain ⟨xs, n, rfl, hx, hl, hxl, hall⟩ := DataW.trod_struct ht h
  rw [hct] at hl
  match cs, hl with
  | [v0, v1, v2, v3], _ =>
    match xs, hxl with
    | [y0, y1, y2, y3], _ =>
      have e0 := hall 0 f0 rfl
      have e1 := hall 1 f1 rfl
      have e2 := hall 2 f2 rfl
      have e3 := hall 3 f3 rfl
      rw [h0.1, h0.2, hc] at e0
      rw [h1.1, h1.2, hc] at e1
      rw [h2.1, h2.2, hc] at e2
      rw [h3.1, h3.2, hc] at e3
      obtain ⟨z0, q0, r0⟩ := DataW.trod_bool hb e0
      obtain ⟨z1, q1, r1⟩ := DataW.trod_bool hb e1
      obtain ⟨z2, q2, r2⟩ := DataW.trod_bool hb e2
      obtain ⟨z3, q3, r3⟩ := DataW.trod_bool hb e3
      simp only [List.drop_zero, List.drop_succ_cons, List.take_succ_cons, List.take_zero, List.cons.injEq, and_true] at q0 q1 q2 q3
      subst r0 r1 r2 r3
      simp at hx
      obtain ⟨⟨ha, hb', hc', hd⟩, _⟩ := hx
      subst ha hb' hc' hd
      subst q0 q1 q2 q3
      rfl
end
theorem rule_cells : Tryz.prog.cellsOf 256 = 4 := by kernel_rfl
/-- What the row's list gives. -/
theorem tabs {W : World} (h : laidMetH Tryz.prog Rows.buffersFindRow.laid W) : Rules W ∧ Pow W := by
  have h2 : laidMet Tryz.prog Rows.buffersFindRow.laid W := h
  have hf : VarReads Tryz.prog W "unicode/utf8.first" Lib.firstData := by
    rw [← first_eq]
    exact Lib.laidMet.reads h2 (.tail _ (.tail _ (.tail _ (.tail _ (.tail _ (.head _))))))
  have ha : VarReads Tryz.prog W "unicode/utf8.acceptRanges" Lib.acceptData := Lib.laidMet.reads h2 (.tail _ (.tail _ (.tail _ (.head _))))
  have hr : VarReads Tryz.prog W "copyist/undo.rules" Rows.laid_copyist_undo_rules := Lib.laidMet.reads h2 (.tail _ (.tail _ (.tail _ (.tail _ (.head _)))))
  have hp : VarReads Tryz.prog W "internal/strconv.uint64pow10" (tabData .u64 pow10Tab) := by
    rw [← pow_eq]
    exact Lib.laidMet.reads h2 (.tail _ (.tail _ (.head _)))
  have hP : Pow W := tabIs_of_reads (g := 2) (t := 242) (by kernel_rfl) (by kernel_rfl) Tryz.underlying242 Tryz.underlying207 (by kernel_rfl) (by kernel_rfl) hp
  have hT : Tabs W := utf8Tabs_of_readsT (U8Types.of196 Tryz.lays196) ⟨by kernel_rfl, by kernel_rfl, by kernel_rfl, by kernel_rfl, by kernel_rfl, by kernel_rfl, by kernel_rfl⟩ hf ha
  refine ⟨?_, hP⟩
  obtain ⟨g, t, cs, fuel, p, hg, ht, hvar, hd⟩ := hr
  obtain rfl : 3 = g := Option.some.inj ((show Tryz.prog.globalNamed "copyist/undo.rules" = some 3 by kernel_rfl).symm.trans hg)
  obtain rfl : 257 = t := Option.some.inj ((show (Tryz.prog.globals[3]?).map (·.type) = some 257 by kernel_rfl).symm.trans ht)
  have row : ∀ (i : Nat) (a b c d : Bool), i < 7 → ([.agg [.lit (.bool false), .lit (.bool false), .lit (.bool false), .lit (.bool false)], .agg [.lit (.bool true), .lit (.bool true), .lit (.bool false), .lit (.bool false)], .agg [.lit (.bool true), .lit (.bool false), .lit (.bool false), .lit (.bool true)], .agg [.lit (.bool true), .lit (.bool false), .lit (.bool false), .lit (.bool false)], .agg [.lit (.bool true), .lit (.bool false), .lit (.bool false), .lit (.bool false)], .agg [.lit (.bool true), .lit (.bool true), .lit (.bool true), .lit (.bool false)], .agg [.lit (.bool false), .lit (.bool false), .lit (.bool false), .lit (.bool false)]] : List (DataW Unit))[i]? = some (.agg [.lit (.bool a), .lit (.bool b), .lit (.bool c), .lit (.bool d)]) → RuleIs W i a b c d := by
    intro i a b c d hi hd0
    obtain ⟨fuel', d', q, h1, h3⟩ := array_elem Tryz.underlying257 hd i hi
    rw [hd0] at h1
    cases h1
    rw [rule_cells] at h3
    have h4 := bools_of_struct Tryz.underlying256 Tryz.underlying4 (by kernel_rfl) ⟨rfl, rfl⟩ ⟨rfl, rfl⟩ ⟨rfl, rfl⟩ ⟨rfl, rfl⟩ rule_cells h3
    have cell : ∀ j, j < 4 → W.cell? ⟨3, i * 4 + j, none⟩ = [Value.bool a, .bool b, .bool c, .bool d][j]? := fun j hj => by
      rw [World.var?_cell hg hvar (i * 4 + j), ← h4, List.getElem?_take_of_lt hj, List.getElem?_drop]
      simp
    exact ⟨cell 0 (by omega), cell 1 (by omega), cell 2 (by omega), cell 3 (by omega)⟩
  exact ⟨hT, World.block_lt_of_cell? _ _ (row 1 true true false false (by omega) rfl).r0, row 1 _ _ _ _ (by omega) rfl, row 2 _ _ _ _ (by omega) rfl, row 3 _ _ _ _ (by omega) rfl, row 4 _ _ _ _ (by omega) rfl, row 5 _ _ _ _ (by omega) rfl, row 6 _ _ _ _ (by omega) rfl⟩

/-- The cells of a row of numbers. -/
def litsOf : DataW Unit → List Value
  | .agg l => l.map fun | .lit x => x.value | _ => .bool false
  | _ => []
/-- A world for the witness: the settled one, the tables holding what their initialisers lay. -/
noncomputable def laidWorld (os : Os) : World :=
  let w0 := World.holding Tryz.prog os ⟨#[], #[], []⟩
  let put (h : Array Obj) (g : Nat) (cs : Array Value) : Array Obj := h.modify g fun
    | .cells _ t frozen => .cells cs t frozen
    | o => o
  let h1 := put w0.heap 0 (Lib.firstTab.map fun z => Value.int .u8 z).toArray
  let h2 := put h1 1 ((List.range 16).flatMap fun i => [Value.int .u8 (Lib.accLo i), Value.int .u8 (Lib.accHi i)]).toArray
  let h3 := put h2 2 (litsOf Rows.laid_internal_strconv_uint64pow10).toArray
  let h4 := put h3 4 (litsOf Rows.laid_math_bits_deBruijn32tab).toArray
  let h5 := put h4 5 (litsOf Rows.laid_math_bits_deBruijn64tab).toArray
  let h6 := put h5 3 ([false, false, false, false, true, true, false, false, true, false, false, true, true, false, false, false, true, false, false, false, true, true, true, false, false, false, false, false].map Value.bool).toArray
  { w0 with heap := h6 }
theorem laid_met (os : Os) (args : Array Value) : laidMet Tryz.prog Rows.buffersFindRow.laid ((laidWorld os).forCall (fun _ _ => 0) ⟨#[], args, []⟩).memory :=
  (LaidIn.of_run (l := Rows.buffersFindRow.laid) [4, 5, 2, 1, 3, 0] 8 (by kernel_rfl) (by kernel_rfl) (by kernel_rfl) (by kernel_rfl)).met
end Go.Proofs.YtnbhejbpofjamaaGreatDoor.bzRow
