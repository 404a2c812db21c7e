/-
  NARROWER THAN 'FOR EVERY INPUT', by the rows' own cells (each row's printed sentence says how): GapPlain: laid · GapBack: laid · GapFull: laid · GapFinds: laid · GapLines: laid · GapNames: laid · GapScript: laid · GapApart: laid.
  DERIVED. THE GIVEN ROWS OF THIS SEAT. 8 by the template 'for every input the law returns true; each argument reads behind the call as it read before'; 0 by the template 'total and deterministic' (their statements: YtbljppcaikhjhaaDoorTotals.lean).
  GIVEN WITH THE SEED: the statements are not yours to turn. If you find one false, say at which input.
  Laid BY PROGRAM, IN A SANDBOX (cutbox-rows.mjs): the forced cells as the released guide's own fill.sh prints them over the translation 30d7f3ff284ef602… (all of the seat's roots in one cut). By AI agents, Wed Nov 11 2026. No macro, syntax, notation, axiom, sorry.
-/
import Derived.Test.YtbljppcaikhjhaaDoorChecked
import GoSem.PinnedTables
import GoSem.Claim
import GoSem.ClaimJoined
import GoSem.ClaimMapViews
import Derived.JoinedTies
import Derived.KernelRfl
namespace Go.Proofs.YtbljppcaikhjhaaDoor
/- THE CELL 'sum', in the pinned program and in every row, IS THE sha256 OF THE DUMP (.gsa) THAT YtbljppcaikhjhaaDoorProg.lean LOADS. Nothing in Lean hashes anything: it is a label: what it is worth is what the hold of that sum in a sandbox is worth. -/
noncomputable def Tryd.pinned : Pinned := { name := "ytbljppcaikhjhaadoor", sum := "30d7f3ff284ef602a4507219c4871d3571e2604e1033a03f4856d62f5ef2d034", checked := Tryd.checked }
namespace Rows
def none {H : Type} : Left H := { results := [], args := [] }

/- WHAT THE LISTED PACKAGE-LEVEL VARIABLES READ AS WHEN THE CALL BEGINS. Each datum BY PROGRAM (the guide's laid-datum.mjs) off the statement by which the dump's own 'gosem.cut.vars' lays the variable. In a bare row this is a premise. The card (YtbljppcaikhjhaaDoorCards.lean) ties it to the program's text. -/
def laid_unicode_utf8_acceptRanges {H : Type} : DataW H := .agg [.agg [.lit (.int .u8 128), .lit (.int .u8 191)], .agg [.lit (.int .u8 160), .lit (.int .u8 191)], .agg [.lit (.int .u8 128), .lit (.int .u8 159)], .agg [.lit (.int .u8 144), .lit (.int .u8 191)], .agg [.lit (.int .u8 128), .lit (.int .u8 143)], .agg [.lit (.int .u8 0), .lit (.int .u8 0)], .agg [.lit (.int .u8 0), .lit (.int .u8 0)], .agg [.lit (.int .u8 0), .lit (.int .u8 0)], .agg [.lit (.int .u8 0), .lit (.int .u8 0)], .agg [.lit (.int .u8 0), .lit (.int .u8 0)], .agg [.lit (.int .u8 0), .lit (.int .u8 0)], .agg [.lit (.int .u8 0), .lit (.int .u8 0)], .agg [.lit (.int .u8 0), .lit (.int .u8 0)], .agg [.lit (.int .u8 0), .lit (.int .u8 0)], .agg [.lit (.int .u8 0), .lit (.int .u8 0)], .agg [.lit (.int .u8 0), .lit (.int .u8 0)]]
/-- One of Go's own tables, pinned by name: the form's constant. -/
def laid_unicode_utf8_first : DataW Unit := Go.Pinned.utf8First

/-- 'copyistlaw15.GapPlain': WHATEVER THE INPUT: true; the input reads as it did. -/
def gapPlainSpec : ChangeSpec := { name := "gapPlain", fn := fun _ => fun
  | [d1, d2] => { results := [.lit (.bool true)], args := [d1, d2] }
  | _ => none }
def gapPlainRow : OpenClaim := { program := "ytbljppcaikhjhaadoor", sum := "30d7f3ff284ef602a4507219c4871d3571e2604e1033a03f4856d62f5ef2d034", func := "copyist/copyistlaw15.GapPlain", spec := "gapPlain", inPlace := ["slices.overlaps[int]"], named := ["unicode/utf8.first", "unicode/utf8.acceptRanges"], apart := false, laid := [("unicode/utf8.acceptRanges", laid_unicode_utf8_acceptRanges), ("unicode/utf8.first", laid_unicode_utf8_first)] }
def GapPlainSaid : Prop := gapPlainRow.holds Tryd.pinned (OpenSpec.ofChange gapPlainSpec)

/-- ITS FALSE NEIGHBOUR: 'it returns false'. Refute it at one input. -/
def gapPlainWrong : ChangeSpec := { name := "gapPlain", fn := fun _ => fun
  | [d1, d2] => { results := [.lit (.bool false)], args := [d1, d2] }
  | _ => none }
def GapPlainWrongFalsely : Prop := gapPlainRow.holds Tryd.pinned (OpenSpec.ofChange gapPlainWrong)

/-- 'copyistlaw15.GapBack': WHATEVER THE INPUT: true; the input reads as it did. -/
def gapBackSpec : ChangeSpec := { name := "gapBack", fn := fun _ => fun
  | [d1, d2, d3, d4] => { results := [.lit (.bool true)], args := [d1, d2, d3, d4] }
  | _ => none }
def gapBackRow : OpenClaim := { program := "ytbljppcaikhjhaadoor", sum := "30d7f3ff284ef602a4507219c4871d3571e2604e1033a03f4856d62f5ef2d034", func := "copyist/copyistlaw15.GapBack", spec := "gapBack", inPlace := ["slices.overlaps[int]"], named := ["unicode/utf8.first", "unicode/utf8.acceptRanges"], apart := false, laid := [("unicode/utf8.acceptRanges", laid_unicode_utf8_acceptRanges), ("unicode/utf8.first", laid_unicode_utf8_first)] }
def GapBackSaid : Prop := gapBackRow.holds Tryd.pinned (OpenSpec.ofChange gapBackSpec)

/-- ITS FALSE NEIGHBOUR: 'it returns false'. Refute it at one input. -/
def gapBackWrong : ChangeSpec := { name := "gapBack", fn := fun _ => fun
  | [d1, d2, d3, d4] => { results := [.lit (.bool false)], args := [d1, d2, d3, d4] }
  | _ => none }
def GapBackWrongFalsely : Prop := gapBackRow.holds Tryd.pinned (OpenSpec.ofChange gapBackWrong)

/-- 'copyistlaw15.GapFull': WHATEVER THE INPUT: true; the input reads as it did. -/
def gapFullSpec : ChangeSpec := { name := "gapFull", fn := fun _ => fun
  | [d1, d2, d3] => { results := [.lit (.bool true)], args := [d1, d2, d3] }
  | _ => none }
def gapFullRow : OpenClaim := { program := "ytbljppcaikhjhaadoor", sum := "30d7f3ff284ef602a4507219c4871d3571e2604e1033a03f4856d62f5ef2d034", func := "copyist/copyistlaw15.GapFull", spec := "gapFull", inPlace := ["slices.overlaps[int]"], named := ["unicode/utf8.first", "unicode/utf8.acceptRanges"], apart := false, laid := [("unicode/utf8.acceptRanges", laid_unicode_utf8_acceptRanges), ("unicode/utf8.first", laid_unicode_utf8_first)] }
def GapFullSaid : Prop := gapFullRow.holds Tryd.pinned (OpenSpec.ofChange gapFullSpec)

/-- ITS FALSE NEIGHBOUR: 'it returns false'. Refute it at one input. -/
def gapFullWrong : ChangeSpec := { name := "gapFull", fn := fun _ => fun
  | [d1, d2, d3] => { results := [.lit (.bool false)], args := [d1, d2, d3] }
  | _ => none }
def GapFullWrongFalsely : Prop := gapFullRow.holds Tryd.pinned (OpenSpec.ofChange gapFullWrong)

/-- 'copyistlaw15.GapFinds': WHATEVER THE INPUT: true; the input reads as it did. -/
def gapFindsSpec : ChangeSpec := { name := "gapFinds", fn := fun _ => fun
  | [d1, d2, d3, d4] => { results := [.lit (.bool true)], args := [d1, d2, d3, d4] }
  | _ => none }
def gapFindsRow : OpenClaim := { program := "ytbljppcaikhjhaadoor", sum := "30d7f3ff284ef602a4507219c4871d3571e2604e1033a03f4856d62f5ef2d034", func := "copyist/copyistlaw15.GapFinds", spec := "gapFinds", inPlace := ["slices.overlaps[int]"], named := ["unicode/utf8.first", "unicode/utf8.acceptRanges"], apart := false, laid := [("unicode/utf8.acceptRanges", laid_unicode_utf8_acceptRanges), ("unicode/utf8.first", laid_unicode_utf8_first)] }
def GapFindsSaid : Prop := gapFindsRow.holds Tryd.pinned (OpenSpec.ofChange gapFindsSpec)

/-- ITS FALSE NEIGHBOUR: 'it returns false'. Refute it at one input. -/
def gapFindsWrong : ChangeSpec := { name := "gapFinds", fn := fun _ => fun
  | [d1, d2, d3, d4] => { results := [.lit (.bool false)], args := [d1, d2, d3, d4] }
  | _ => none }
def GapFindsWrongFalsely : Prop := gapFindsRow.holds Tryd.pinned (OpenSpec.ofChange gapFindsWrong)

/-- 'copyistlaw15.GapLines': WHATEVER THE INPUT: true; the input reads as it did. -/
def gapLinesSpec : ChangeSpec := { name := "gapLines", fn := fun _ => fun
  | [d1, d2, d3] => { results := [.lit (.bool true)], args := [d1, d2, d3] }
  | _ => none }
def gapLinesRow : OpenClaim := { program := "ytbljppcaikhjhaadoor", sum := "30d7f3ff284ef602a4507219c4871d3571e2604e1033a03f4856d62f5ef2d034", func := "copyist/copyistlaw15.GapLines", spec := "gapLines", inPlace := ["slices.overlaps[int]"], named := ["unicode/utf8.first", "unicode/utf8.acceptRanges"], apart := false, laid := [("unicode/utf8.acceptRanges", laid_unicode_utf8_acceptRanges), ("unicode/utf8.first", laid_unicode_utf8_first)] }
def GapLinesSaid : Prop := gapLinesRow.holds Tryd.pinned (OpenSpec.ofChange gapLinesSpec)

/-- ITS FALSE NEIGHBOUR: 'it returns false'. Refute it at one input. -/
def gapLinesWrong : ChangeSpec := { name := "gapLines", fn := fun _ => fun
  | [d1, d2, d3] => { results := [.lit (.bool false)], args := [d1, d2, d3] }
  | _ => none }
def GapLinesWrongFalsely : Prop := gapLinesRow.holds Tryd.pinned (OpenSpec.ofChange gapLinesWrong)

/-- 'copyistlaw15.GapNames': WHATEVER THE INPUT: true; the input reads as it did. -/
def gapNamesSpec : ChangeSpec := { name := "gapNames", fn := fun _ => fun
  | [] => { results := [.lit (.bool true)], args := [] }
  | _ => none }
def gapNamesRow : OpenClaim := { program := "ytbljppcaikhjhaadoor", sum := "30d7f3ff284ef602a4507219c4871d3571e2604e1033a03f4856d62f5ef2d034", func := "copyist/copyistlaw15.GapNames", spec := "gapNames", inPlace := ["slices.overlaps[int]"], named := ["unicode/utf8.first", "unicode/utf8.acceptRanges"], apart := false, laid := [("unicode/utf8.acceptRanges", laid_unicode_utf8_acceptRanges), ("unicode/utf8.first", laid_unicode_utf8_first)] }
def GapNamesSaid : Prop := gapNamesRow.holds Tryd.pinned (OpenSpec.ofChange gapNamesSpec)

/-- ITS FALSE NEIGHBOUR: 'it returns false'. Refute it at one input. -/
def gapNamesWrong : ChangeSpec := { name := "gapNames", fn := fun _ => fun
  | [] => { results := [.lit (.bool false)], args := [] }
  | _ => none }
def GapNamesWrongFalsely : Prop := gapNamesRow.holds Tryd.pinned (OpenSpec.ofChange gapNamesWrong)

/-- 'copyistlaw15.GapScript': WHATEVER THE INPUT: true; the input reads as it did. -/
def gapScriptSpec : ChangeSpec := { name := "gapScript", fn := fun _ => fun
  | [d1, d2, d3, d4, d5] => { results := [.lit (.bool true)], args := [d1, d2, d3, d4, d5] }
  | _ => none }
def gapScriptRow : OpenClaim := { program := "ytbljppcaikhjhaadoor", sum := "30d7f3ff284ef602a4507219c4871d3571e2604e1033a03f4856d62f5ef2d034", func := "copyist/copyistlaw15.GapScript", spec := "gapScript", inPlace := ["slices.overlaps[int]"], named := ["unicode/utf8.first", "unicode/utf8.acceptRanges"], apart := false, laid := [("unicode/utf8.acceptRanges", laid_unicode_utf8_acceptRanges), ("unicode/utf8.first", laid_unicode_utf8_first)] }
def GapScriptSaid : Prop := gapScriptRow.holds Tryd.pinned (OpenSpec.ofChange gapScriptSpec)

/-- ITS FALSE NEIGHBOUR: 'it returns false'. Refute it at one input. -/
def gapScriptWrong : ChangeSpec := { name := "gapScript", fn := fun _ => fun
  | [d1, d2, d3, d4, d5] => { results := [.lit (.bool false)], args := [d1, d2, d3, d4, d5] }
  | _ => none }
def GapScriptWrongFalsely : Prop := gapScriptRow.holds Tryd.pinned (OpenSpec.ofChange gapScriptWrong)

/-- 'copyistlaw15.GapApart': WHATEVER THE INPUT: true; the input reads as it did. -/
def gapApartSpec : ChangeSpec := { name := "gapApart", fn := fun _ => fun
  | [d1, d2, d3] => { results := [.lit (.bool true)], args := [d1, d2, d3] }
  | _ => none }
def gapApartRow : OpenClaim := { program := "ytbljppcaikhjhaadoor", sum := "30d7f3ff284ef602a4507219c4871d3571e2604e1033a03f4856d62f5ef2d034", func := "copyist/copyistlaw15.GapApart", spec := "gapApart", inPlace := ["slices.overlaps[int]"], named := ["unicode/utf8.first", "unicode/utf8.acceptRanges"], apart := false, laid := [("unicode/utf8.acceptRanges", laid_unicode_utf8_acceptRanges), ("unicode/utf8.first", laid_unicode_utf8_first)] }
def GapApartSaid : Prop := gapApartRow.holds Tryd.pinned (OpenSpec.ofChange gapApartSpec)

/-- ITS FALSE NEIGHBOUR: 'it returns false'. Refute it at one input. -/
def gapApartWrong : ChangeSpec := { name := "gapApart", fn := fun _ => fun
  | [d1, d2, d3] => { results := [.lit (.bool false)], args := [d1, d2, d3] }
  | _ => none }
def GapApartWrongFalsely : Prop := gapApartRow.holds Tryd.pinned (OpenSpec.ofChange gapApartWrong)

/- THE SECOND FORM. 'bulk': how many values and letters a reading holds, each counted each time it is reached (what is shared counts as often as it is met; a slice's spare places count too). A statement '..UptoSaid' is the law's where the arguments, and the package variables that the reading takes, are together of bulk at most 1048576: NARROWER than '..Said'. Prove '..Said' where nothing that the law and all that it calls make is longer than what came in: it says more and counts as full. Else prove '..UptoSaid'. A law counts once. -/
mutual
def uptoBulk {H : Type} : DataW H → Nat
  | .lit (.string bytes) => bytes.length + 1
  | .lit _ => 1
  | .nil => 1
  | .ptr d => uptoBulk d + 1
  | .slice elems spare => uptoBulkAll elems + uptoBulkAll spare + 1
  | .agg parts => uptoBulkAll parts + 1
  | .iface _ d => uptoBulk d + 1
  | .map entries => uptoBulkEntries entries + 1
  | .held _ => 1
def uptoBulkAll {H : Type} : List (DataW H) → Nat
  | [] => 0
  | d :: r => uptoBulk d + uptoBulkAll r
def uptoBulkEntries {H : Type} : List (Lit × DataW H) → Nat
  | [] => 0
  | x :: r => uptoBulkEntry x + uptoBulkEntries r
def uptoBulkEntry {H : Type} : Lit × DataW H → Nat
  | (.string bytes, d) => bytes.length + uptoBulk d + 1
  | (_, d) => uptoBulk d + 1
 end
def uptoSmall : (H : Type) → List (DataW H) → Bool := fun _ ds => decide (uptoBulkAll ds ≤ 1048576)
def OpenSpec.upto (s : _root_.Go.ChangeSpec) : _root_.Go.OpenSpec := { _root_.Go.OpenSpec.ofChange s with cond := some uptoSmall }

/-- 'copyistlaw15.GapPlain', WHERE WHAT IT READS IS OF BULK AT MOST 1048576: true; the input reads as it did. -/
def gapPlainUptoRow : OpenClaim := { program := "ytbljppcaikhjhaadoor", sum := "30d7f3ff284ef602a4507219c4871d3571e2604e1033a03f4856d62f5ef2d034", func := "copyist/copyistlaw15.GapPlain", spec := "gapPlain", inPlace := ["slices.overlaps[int]"], named := ["unicode/utf8.first", "unicode/utf8.acceptRanges"], apart := false, laid := [("unicode/utf8.acceptRanges", laid_unicode_utf8_acceptRanges), ("unicode/utf8.first", laid_unicode_utf8_first)], narrowed := true }
def GapPlainUptoSaid : Prop := gapPlainUptoRow.holds Tryd.pinned (OpenSpec.upto gapPlainSpec)

/-- 'copyistlaw15.GapBack', WHERE WHAT IT READS IS OF BULK AT MOST 1048576: true; the input reads as it did. -/
def gapBackUptoRow : OpenClaim := { program := "ytbljppcaikhjhaadoor", sum := "30d7f3ff284ef602a4507219c4871d3571e2604e1033a03f4856d62f5ef2d034", func := "copyist/copyistlaw15.GapBack", spec := "gapBack", inPlace := ["slices.overlaps[int]"], named := ["unicode/utf8.first", "unicode/utf8.acceptRanges"], apart := false, laid := [("unicode/utf8.acceptRanges", laid_unicode_utf8_acceptRanges), ("unicode/utf8.first", laid_unicode_utf8_first)], narrowed := true }
def GapBackUptoSaid : Prop := gapBackUptoRow.holds Tryd.pinned (OpenSpec.upto gapBackSpec)

/-- 'copyistlaw15.GapFull', WHERE WHAT IT READS IS OF BULK AT MOST 1048576: true; the input reads as it did. -/
def gapFullUptoRow : OpenClaim := { program := "ytbljppcaikhjhaadoor", sum := "30d7f3ff284ef602a4507219c4871d3571e2604e1033a03f4856d62f5ef2d034", func := "copyist/copyistlaw15.GapFull", spec := "gapFull", inPlace := ["slices.overlaps[int]"], named := ["unicode/utf8.first", "unicode/utf8.acceptRanges"], apart := false, laid := [("unicode/utf8.acceptRanges", laid_unicode_utf8_acceptRanges), ("unicode/utf8.first", laid_unicode_utf8_first)], narrowed := true }
def GapFullUptoSaid : Prop := gapFullUptoRow.holds Tryd.pinned (OpenSpec.upto gapFullSpec)

/-- 'copyistlaw15.GapFinds', WHERE WHAT IT READS IS OF BULK AT MOST 1048576: true; the input reads as it did. -/
def gapFindsUptoRow : OpenClaim := { program := "ytbljppcaikhjhaadoor", sum := "30d7f3ff284ef602a4507219c4871d3571e2604e1033a03f4856d62f5ef2d034", func := "copyist/copyistlaw15.GapFinds", spec := "gapFinds", inPlace := ["slices.overlaps[int]"], named := ["unicode/utf8.first", "unicode/utf8.acceptRanges"], apart := false, laid := [("unicode/utf8.acceptRanges", laid_unicode_utf8_acceptRanges), ("unicode/utf8.first", laid_unicode_utf8_first)], narrowed := true }
def GapFindsUptoSaid : Prop := gapFindsUptoRow.holds Tryd.pinned (OpenSpec.upto gapFindsSpec)

/-- 'copyistlaw15.GapLines', WHERE WHAT IT READS IS OF BULK AT MOST 1048576: true; the input reads as it did. -/
def gapLinesUptoRow : OpenClaim := { program := "ytbljppcaikhjhaadoor", sum := "30d7f3ff284ef602a4507219c4871d3571e2604e1033a03f4856d62f5ef2d034", func := "copyist/copyistlaw15.GapLines", spec := "gapLines", inPlace := ["slices.overlaps[int]"], named := ["unicode/utf8.first", "unicode/utf8.acceptRanges"], apart := false, laid := [("unicode/utf8.acceptRanges", laid_unicode_utf8_acceptRanges), ("unicode/utf8.first", laid_unicode_utf8_first)], narrowed := true }
def GapLinesUptoSaid : Prop := gapLinesUptoRow.holds Tryd.pinned (OpenSpec.upto gapLinesSpec)

/-- 'copyistlaw15.GapNames', WHERE WHAT IT READS IS OF BULK AT MOST 1048576: true; the input reads as it did. -/
def gapNamesUptoRow : OpenClaim := { program := "ytbljppcaikhjhaadoor", sum := "30d7f3ff284ef602a4507219c4871d3571e2604e1033a03f4856d62f5ef2d034", func := "copyist/copyistlaw15.GapNames", spec := "gapNames", inPlace := ["slices.overlaps[int]"], named := ["unicode/utf8.first", "unicode/utf8.acceptRanges"], apart := false, laid := [("unicode/utf8.acceptRanges", laid_unicode_utf8_acceptRanges), ("unicode/utf8.first", laid_unicode_utf8_first)], narrowed := true }
def GapNamesUptoSaid : Prop := gapNamesUptoRow.holds Tryd.pinned (OpenSpec.upto gapNamesSpec)

/-- 'copyistlaw15.GapScript', WHERE WHAT IT READS IS OF BULK AT MOST 1048576: true; the input reads as it did. -/
def gapScriptUptoRow : OpenClaim := { program := "ytbljppcaikhjhaadoor", sum := "30d7f3ff284ef602a4507219c4871d3571e2604e1033a03f4856d62f5ef2d034", func := "copyist/copyistlaw15.GapScript", spec := "gapScript", inPlace := ["slices.overlaps[int]"], named := ["unicode/utf8.first", "unicode/utf8.acceptRanges"], apart := false, laid := [("unicode/utf8.acceptRanges", laid_unicode_utf8_acceptRanges), ("unicode/utf8.first", laid_unicode_utf8_first)], narrowed := true }
def GapScriptUptoSaid : Prop := gapScriptUptoRow.holds Tryd.pinned (OpenSpec.upto gapScriptSpec)

/-- 'copyistlaw15.GapApart', WHERE WHAT IT READS IS OF BULK AT MOST 1048576: true; the input reads as it did. -/
def gapApartUptoRow : OpenClaim := { program := "ytbljppcaikhjhaadoor", sum := "30d7f3ff284ef602a4507219c4871d3571e2604e1033a03f4856d62f5ef2d034", func := "copyist/copyistlaw15.GapApart", spec := "gapApart", inPlace := ["slices.overlaps[int]"], named := ["unicode/utf8.first", "unicode/utf8.acceptRanges"], apart := false, laid := [("unicode/utf8.acceptRanges", laid_unicode_utf8_acceptRanges), ("unicode/utf8.first", laid_unicode_utf8_first)], narrowed := true }
def GapApartUptoSaid : Prop := gapApartUptoRow.holds Tryd.pinned (OpenSpec.upto gapApartSpec)

end Rows
end Go.Proofs.YtbljppcaikhjhaaDoor
