/- What the rows of the buffers' laws have in common: the listed variables. No condition. -/
import Derived.Test.YtnbhejbpofjamaaDoorBfj
import Derived.Test.YtnbhejbpofjamaaDoorArgs
import Derived.Test.YtnbhejbpofjamaaDoorCards
import Derived.Test.YtnbhejbpofjamaaDoorTie
import Derived.ProofKit
import Derived.OpenShut
import Derived.Deep.DeepHandedRow
import Derived.Lib.LaidIn
import Derived.Lib.LaidU8T
import Derived.Lib.LaidTab
namespace Go.Proofs.YtnbhejbpofjamaaDoor.bfRow
open Go.ChangeShapes Go.WideShapes Go.ChangeAt Go.RowKit Go.Lib Go.Shelf Go.Deep

theorem own : ownKnob Tryd.prog.godebug = none := by kernel_rfl
theorem laidOut : laidOutB Tryd.prog = true := by kernel_rfl
theorem first_eq : Go.Pinned.utf8First = Lib.firstData := by kernel_rfl
theorem pow_eq : Rows.laid_internal_strconv_uint64pow10 = tabData (H := Unit) .u64 pow10Tab := by kernel_rfl
theorem tabIs_of_reads {P : Program} {W : World} {name : String} {k : IntKind} {zs : List Int} {g : Nat} {t e : TypeId} {n : Nat}
    (hg : P.globalNamed name = some g) (hty : (P.globals[g]?).map (·.type) = some t) (ht : P.underlying t = some (.array n e)) (he : P.underlying e = some (.int k)) (hce : P.cellsOf e = 1) (hct : P.cellsOf t = n)
    (h : VarReads P W name (tabData k zs)) : TabIs P W name k zs := by
  obtain ⟨g', t', cs, fuel, p, hg', ht', hvar, hd⟩ := h
  obtain rfl := Option.some.inj (hg.symm.trans hg')
  obtain rfl := Option.some.inj (hty.symm.trans ht')
  unfold TabIs
  rw [hvar, ← cells_of_tab ht he hce hct hd]
/-- What the row's list gives: the tables. -/
theorem tabs {W : World} (h : laidMetH Tryd.prog Rows.buffersFullRow.laid W) : Tabs W ∧ Pow W := by
  have h2 : laidMet Tryd.prog Rows.buffersFullRow.laid W := h
  have hf : VarReads Tryd.prog W "unicode/utf8.first" Lib.firstData := by
    rw [← first_eq]
    exact Lib.laidMet.reads h2 (.tail _ (.tail _ (.tail _ (.tail _ (.head _)))))
  have ha : VarReads Tryd.prog W "unicode/utf8.acceptRanges" Lib.acceptData := Lib.laidMet.reads h2 (.tail _ (.tail _ (.tail _ (.head _))))
  have hp : VarReads Tryd.prog W "internal/strconv.uint64pow10" (tabData .u64 pow10Tab) := by
    rw [← pow_eq]
    exact Lib.laidMet.reads h2 (.tail _ (.tail _ (.head _)))
  exact ⟨utf8Tabs_of_readsT (U8Types.of196 Tryd.lays196) ⟨by kernel_rfl, by kernel_rfl, by kernel_rfl, by kernel_rfl, by kernel_rfl, by kernel_rfl, by kernel_rfl⟩ hf ha, tabIs_of_reads (g := 2) (t := 119) (by kernel_rfl) (by kernel_rfl) Tryd.underlying119 Tryd.underlying109 (by kernel_rfl) (by kernel_rfl) hp⟩

/-- The cells of a row of numbers. -/
def litsOf : DataW Unit → List Value
  | .agg l => l.map fun | .lit x => x.value | _ => .bool false
  | _ => []
/-- A world for the witness: the settled one, the tables holding what their initialisers lay. -/
noncomputable def laidWorld (os : Os) : World :=
  let w0 := World.holding Tryd.prog os ⟨#[], #[], []⟩
  let put (h : Array Obj) (g : Nat) (cs : Array Value) : Array Obj := h.modify g fun
    | .cells _ t frozen => .cells cs t frozen
    | o => o
  let h1 := put w0.heap 0 (Lib.firstTab.map fun z => Value.int .u8 z).toArray
  let h2 := put h1 1 ((List.range 16).flatMap fun i => [Value.int .u8 (Lib.accLo i), Value.int .u8 (Lib.accHi i)]).toArray
  let h3 := put h2 2 (litsOf Rows.laid_internal_strconv_uint64pow10).toArray
  let h4 := put h3 3 (litsOf Rows.laid_math_bits_deBruijn32tab).toArray
  let h5 := put h4 4 (litsOf Rows.laid_math_bits_deBruijn64tab).toArray
  { w0 with heap := h5 }
theorem laid_met (os : Os) (args : Array Value) : laidMet Tryd.prog Rows.buffersFullRow.laid ((laidWorld os).forCall (fun _ _ => 0) ⟨#[], args, []⟩).memory :=
  (LaidIn.of_run (l := Rows.buffersFullRow.laid) [3, 4, 2, 1, 0] 8 (by kernel_rfl) (by kernel_rfl) (by kernel_rfl) (by kernel_rfl)).met
end Go.Proofs.YtnbhejbpofjamaaDoor.bfRow
