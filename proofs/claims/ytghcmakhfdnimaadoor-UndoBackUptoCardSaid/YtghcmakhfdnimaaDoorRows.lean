/-
  NARROWER THAN 'FOR EVERY INPUT', by the rows' own cells (each row's printed sentence says how): UndoBack: laid · UndoGroups: laid · UndoLimit: laid · UndoNames: laid · UndoScript: laid · UndoApart: laid.
  DERIVED. THE GIVEN ROWS OF THIS SEAT. 6 by the template 'for every input the law returns true; each argument reads behind the call as it read before'; 0 by the template 'total and deterministic' (their statements: YtghcmakhfdnimaaDoorTotals.lean).
  GIVEN WITH THE SEED: the statements are not yours to turn. If you find one false, say at which input.
  Laid BY PROGRAM, IN A SANDBOX (cutbox-rows.mjs): the forced cells as the released guide's own fill.sh prints them over the translation f39ac6b6789b3202… (all of the seat's roots in one cut). By AI agents, Wed Nov 11 2026. No macro, syntax, notation, axiom, sorry.
-/
import Derived.Test.YtghcmakhfdnimaaDoorChecked
import GoSem.PinnedTables
import GoSem.Claim
import GoSem.ClaimJoined
import GoSem.ClaimMapViews
import Derived.JoinedTies
import Derived.KernelRfl
namespace Go.Proofs.YtghcmakhfdnimaaDoor
/- THE CELL 'sum', in the pinned program and in every row, IS THE sha256 OF THE DUMP (.gsa) THAT YtghcmakhfdnimaaDoorProg.lean LOADS. Nothing in Lean hashes anything: it is a label: what it is worth is what the hold of that sum in a sandbox is worth. -/
noncomputable def Tryd.pinned : Pinned := { name := "ytghcmakhfdnimaadoor", sum := "f39ac6b6789b3202c2f47e02fe90b357d8cd954bfb297a3a575a62cd511e3d0e", checked := Tryd.checked }
namespace Rows
def none {H : Type} : Left H := { results := [], args := [] }

/- WHAT THE LISTED PACKAGE-LEVEL VARIABLES READ AS WHEN THE CALL BEGINS. Each datum BY PROGRAM (the guide's laid-datum.mjs) off the statement by which the dump's own 'gosem.cut.vars' lays the variable. In a bare row this is a premise. The card (YtghcmakhfdnimaaDoorCards.lean) ties it to the program's text. -/
def laid_unicode_utf8_acceptRanges {H : Type} : DataW H := .agg [.agg [.lit (.int .u8 128), .lit (.int .u8 191)], .agg [.lit (.int .u8 160), .lit (.int .u8 191)], .agg [.lit (.int .u8 128), .lit (.int .u8 159)], .agg [.lit (.int .u8 144), .lit (.int .u8 191)], .agg [.lit (.int .u8 128), .lit (.int .u8 143)], .agg [.lit (.int .u8 0), .lit (.int .u8 0)], .agg [.lit (.int .u8 0), .lit (.int .u8 0)], .agg [.lit (.int .u8 0), .lit (.int .u8 0)], .agg [.lit (.int .u8 0), .lit (.int .u8 0)], .agg [.lit (.int .u8 0), .lit (.int .u8 0)], .agg [.lit (.int .u8 0), .lit (.int .u8 0)], .agg [.lit (.int .u8 0), .lit (.int .u8 0)], .agg [.lit (.int .u8 0), .lit (.int .u8 0)], .agg [.lit (.int .u8 0), .lit (.int .u8 0)], .agg [.lit (.int .u8 0), .lit (.int .u8 0)], .agg [.lit (.int .u8 0), .lit (.int .u8 0)]]
def laid_copyist_undo_rules {H : Type} : DataW H := .agg [.agg [.lit (.bool false), .lit (.bool false), .lit (.bool false), .lit (.bool false)], .agg [.lit (.bool true), .lit (.bool true), .lit (.bool false), .lit (.bool false)], .agg [.lit (.bool true), .lit (.bool false), .lit (.bool false), .lit (.bool true)], .agg [.lit (.bool true), .lit (.bool false), .lit (.bool false), .lit (.bool false)], .agg [.lit (.bool true), .lit (.bool false), .lit (.bool false), .lit (.bool false)], .agg [.lit (.bool true), .lit (.bool true), .lit (.bool true), .lit (.bool false)], .agg [.lit (.bool false), .lit (.bool false), .lit (.bool false), .lit (.bool false)]]
/-- One of Go's own tables, pinned by name: the form's constant. -/
def laid_unicode_utf8_first : DataW Unit := Go.Pinned.utf8First

/-- 'copyistlaw19.UndoBack': WHATEVER THE INPUT: true; the input reads as it did. -/
def undoBackSpec : ChangeSpec := { name := "undoBack", fn := fun _ => fun
  | [d1, d2] => { results := [.lit (.bool true)], args := [d1, d2] }
  | _ => none }
def undoBackRow : OpenClaim := { program := "ytghcmakhfdnimaadoor", sum := "f39ac6b6789b3202c2f47e02fe90b357d8cd954bfb297a3a575a62cd511e3d0e", func := "copyist/copyistlaw19.UndoBack", spec := "undoBack", named := ["copyist/undo.rules", "unicode/utf8.first", "unicode/utf8.acceptRanges"], apart := false, laid := [("unicode/utf8.acceptRanges", laid_unicode_utf8_acceptRanges), ("copyist/undo.rules", laid_copyist_undo_rules), ("unicode/utf8.first", laid_unicode_utf8_first)] }
def UndoBackSaid : Prop := undoBackRow.holds Tryd.pinned (OpenSpec.ofChange undoBackSpec)

/-- ITS FALSE NEIGHBOUR: 'it returns false'. Refute it at one input. -/
def undoBackWrong : ChangeSpec := { name := "undoBack", fn := fun _ => fun
  | [d1, d2] => { results := [.lit (.bool false)], args := [d1, d2] }
  | _ => none }
def UndoBackWrongFalsely : Prop := undoBackRow.holds Tryd.pinned (OpenSpec.ofChange undoBackWrong)

/-- 'copyistlaw19.UndoGroups': WHATEVER THE INPUT: true; the input reads as it did. -/
def undoGroupsSpec : ChangeSpec := { name := "undoGroups", fn := fun _ => fun
  | [d] => { results := [.lit (.bool true)], args := [d] }
  | _ => none }
def undoGroupsRow : OpenClaim := { program := "ytghcmakhfdnimaadoor", sum := "f39ac6b6789b3202c2f47e02fe90b357d8cd954bfb297a3a575a62cd511e3d0e", func := "copyist/copyistlaw19.UndoGroups", spec := "undoGroups", named := ["copyist/undo.rules", "unicode/utf8.first", "unicode/utf8.acceptRanges"], apart := false, laid := [("unicode/utf8.acceptRanges", laid_unicode_utf8_acceptRanges), ("copyist/undo.rules", laid_copyist_undo_rules), ("unicode/utf8.first", laid_unicode_utf8_first)] }
def UndoGroupsSaid : Prop := undoGroupsRow.holds Tryd.pinned (OpenSpec.ofChange undoGroupsSpec)

/-- ITS FALSE NEIGHBOUR: 'it returns false'. Refute it at one input. -/
def undoGroupsWrong : ChangeSpec := { name := "undoGroups", fn := fun _ => fun
  | [d] => { results := [.lit (.bool false)], args := [d] }
  | _ => none }
def UndoGroupsWrongFalsely : Prop := undoGroupsRow.holds Tryd.pinned (OpenSpec.ofChange undoGroupsWrong)

/-- 'copyistlaw19.UndoLimit': WHATEVER THE INPUT: true; the input reads as it did. -/
def undoLimitSpec : ChangeSpec := { name := "undoLimit", fn := fun _ => fun
  | [d1, d2] => { results := [.lit (.bool true)], args := [d1, d2] }
  | _ => none }
def undoLimitRow : OpenClaim := { program := "ytghcmakhfdnimaadoor", sum := "f39ac6b6789b3202c2f47e02fe90b357d8cd954bfb297a3a575a62cd511e3d0e", func := "copyist/copyistlaw19.UndoLimit", spec := "undoLimit", named := ["copyist/undo.rules", "unicode/utf8.first", "unicode/utf8.acceptRanges"], apart := false, laid := [("unicode/utf8.acceptRanges", laid_unicode_utf8_acceptRanges), ("copyist/undo.rules", laid_copyist_undo_rules), ("unicode/utf8.first", laid_unicode_utf8_first)] }
def UndoLimitSaid : Prop := undoLimitRow.holds Tryd.pinned (OpenSpec.ofChange undoLimitSpec)

/-- ITS FALSE NEIGHBOUR: 'it returns false'. Refute it at one input. -/
def undoLimitWrong : ChangeSpec := { name := "undoLimit", fn := fun _ => fun
  | [d1, d2] => { results := [.lit (.bool false)], args := [d1, d2] }
  | _ => none }
def UndoLimitWrongFalsely : Prop := undoLimitRow.holds Tryd.pinned (OpenSpec.ofChange undoLimitWrong)

/-- 'copyistlaw19.UndoNames': WHATEVER THE INPUT: true; the input reads as it did. -/
def undoNamesSpec : ChangeSpec := { name := "undoNames", fn := fun _ => fun
  | [] => { results := [.lit (.bool true)], args := [] }
  | _ => none }
def undoNamesRow : OpenClaim := { program := "ytghcmakhfdnimaadoor", sum := "f39ac6b6789b3202c2f47e02fe90b357d8cd954bfb297a3a575a62cd511e3d0e", func := "copyist/copyistlaw19.UndoNames", spec := "undoNames", named := ["copyist/undo.rules", "unicode/utf8.first", "unicode/utf8.acceptRanges"], apart := false, laid := [("unicode/utf8.acceptRanges", laid_unicode_utf8_acceptRanges), ("copyist/undo.rules", laid_copyist_undo_rules), ("unicode/utf8.first", laid_unicode_utf8_first)] }
def UndoNamesSaid : Prop := undoNamesRow.holds Tryd.pinned (OpenSpec.ofChange undoNamesSpec)

/-- ITS FALSE NEIGHBOUR: 'it returns false'. Refute it at one input. -/
def undoNamesWrong : ChangeSpec := { name := "undoNames", fn := fun _ => fun
  | [] => { results := [.lit (.bool false)], args := [] }
  | _ => none }
def UndoNamesWrongFalsely : Prop := undoNamesRow.holds Tryd.pinned (OpenSpec.ofChange undoNamesWrong)

/-- 'copyistlaw19.UndoScript': WHATEVER THE INPUT: true; the input reads as it did. -/
def undoScriptSpec : ChangeSpec := { name := "undoScript", fn := fun _ => fun
  | [d1, d2] => { results := [.lit (.bool true)], args := [d1, d2] }
  | _ => none }
def undoScriptRow : OpenClaim := { program := "ytghcmakhfdnimaadoor", sum := "f39ac6b6789b3202c2f47e02fe90b357d8cd954bfb297a3a575a62cd511e3d0e", func := "copyist/copyistlaw19.UndoScript", spec := "undoScript", named := ["copyist/undo.rules", "unicode/utf8.first", "unicode/utf8.acceptRanges"], apart := false, laid := [("unicode/utf8.acceptRanges", laid_unicode_utf8_acceptRanges), ("copyist/undo.rules", laid_copyist_undo_rules), ("unicode/utf8.first", laid_unicode_utf8_first)] }
def UndoScriptSaid : Prop := undoScriptRow.holds Tryd.pinned (OpenSpec.ofChange undoScriptSpec)

/-- ITS FALSE NEIGHBOUR: 'it returns false'. Refute it at one input. -/
def undoScriptWrong : ChangeSpec := { name := "undoScript", fn := fun _ => fun
  | [d1, d2] => { results := [.lit (.bool false)], args := [d1, d2] }
  | _ => none }
def UndoScriptWrongFalsely : Prop := undoScriptRow.holds Tryd.pinned (OpenSpec.ofChange undoScriptWrong)

/-- 'copyistlaw19.UndoApart': WHATEVER THE INPUT: true; the input reads as it did. -/
def undoApartSpec : ChangeSpec := { name := "undoApart", fn := fun _ => fun
  | [d1, d2] => { results := [.lit (.bool true)], args := [d1, d2] }
  | _ => none }
def undoApartRow : OpenClaim := { program := "ytghcmakhfdnimaadoor", sum := "f39ac6b6789b3202c2f47e02fe90b357d8cd954bfb297a3a575a62cd511e3d0e", func := "copyist/copyistlaw19.UndoApart", spec := "undoApart", named := ["copyist/undo.rules", "unicode/utf8.first", "unicode/utf8.acceptRanges"], apart := false, laid := [("unicode/utf8.acceptRanges", laid_unicode_utf8_acceptRanges), ("copyist/undo.rules", laid_copyist_undo_rules), ("unicode/utf8.first", laid_unicode_utf8_first)] }
def UndoApartSaid : Prop := undoApartRow.holds Tryd.pinned (OpenSpec.ofChange undoApartSpec)

/-- ITS FALSE NEIGHBOUR: 'it returns false'. Refute it at one input. -/
def undoApartWrong : ChangeSpec := { name := "undoApart", fn := fun _ => fun
  | [d1, d2] => { results := [.lit (.bool false)], args := [d1, d2] }
  | _ => none }
def UndoApartWrongFalsely : Prop := undoApartRow.holds Tryd.pinned (OpenSpec.ofChange undoApartWrong)

/- THE SECOND FORM. 'bulk': how many values and letters a reading holds, each counted each time it is reached (what is shared counts as often as it is met; a slice's spare places count too). A statement '..UptoSaid' is the law's where the arguments, and the package variables that the reading takes, are together of bulk at most 1048576: NARROWER than '..Said'. Prove '..Said' where nothing that the law and all that it calls make is longer than what came in: it says more and counts as full. Else prove '..UptoSaid'. A law counts once. -/
mutual
def uptoBulk {H : Type} : DataW H → Nat
  | .lit (.string bytes) => bytes.length + 1
  | .lit _ => 1
  | .nil => 1
  | .ptr d => uptoBulk d + 1
  | .slice elems spare => uptoBulkAll elems + uptoBulkAll spare + 1
  | .agg parts => uptoBulkAll parts + 1
  | .iface _ d => uptoBulk d + 1
  | .map entries => uptoBulkEntries entries + 1
  | .held _ => 1
def uptoBulkAll {H : Type} : List (DataW H) → Nat
  | [] => 0
  | d :: r => uptoBulk d + uptoBulkAll r
def uptoBulkEntries {H : Type} : List (Lit × DataW H) → Nat
  | [] => 0
  | x :: r => uptoBulkEntry x + uptoBulkEntries r
def uptoBulkEntry {H : Type} : Lit × DataW H → Nat
  | (.string bytes, d) => bytes.length + uptoBulk d + 1
  | (_, d) => uptoBulk d + 1
 end
def uptoSmall : (H : Type) → List (DataW H) → Bool := fun _ ds => decide (uptoBulkAll ds ≤ 1048576)
def OpenSpec.upto (s : _root_.Go.ChangeSpec) : _root_.Go.OpenSpec := { _root_.Go.OpenSpec.ofChange s with cond := some uptoSmall }

/-- 'copyistlaw19.UndoBack', WHERE WHAT IT READS IS OF BULK AT MOST 1048576: true; the input reads as it did. -/
def undoBackUptoRow : OpenClaim := { program := "ytghcmakhfdnimaadoor", sum := "f39ac6b6789b3202c2f47e02fe90b357d8cd954bfb297a3a575a62cd511e3d0e", func := "copyist/copyistlaw19.UndoBack", spec := "undoBack", named := ["copyist/undo.rules", "unicode/utf8.first", "unicode/utf8.acceptRanges"], apart := false, laid := [("unicode/utf8.acceptRanges", laid_unicode_utf8_acceptRanges), ("copyist/undo.rules", laid_copyist_undo_rules), ("unicode/utf8.first", laid_unicode_utf8_first)], narrowed := true }
def UndoBackUptoSaid : Prop := undoBackUptoRow.holds Tryd.pinned (OpenSpec.upto undoBackSpec)

/-- 'copyistlaw19.UndoGroups', WHERE WHAT IT READS IS OF BULK AT MOST 1048576: true; the input reads as it did. -/
def undoGroupsUptoRow : OpenClaim := { program := "ytghcmakhfdnimaadoor", sum := "f39ac6b6789b3202c2f47e02fe90b357d8cd954bfb297a3a575a62cd511e3d0e", func := "copyist/copyistlaw19.UndoGroups", spec := "undoGroups", named := ["copyist/undo.rules", "unicode/utf8.first", "unicode/utf8.acceptRanges"], apart := false, laid := [("unicode/utf8.acceptRanges", laid_unicode_utf8_acceptRanges), ("copyist/undo.rules", laid_copyist_undo_rules), ("unicode/utf8.first", laid_unicode_utf8_first)], narrowed := true }
def UndoGroupsUptoSaid : Prop := undoGroupsUptoRow.holds Tryd.pinned (OpenSpec.upto undoGroupsSpec)

/-- 'copyistlaw19.UndoLimit', WHERE WHAT IT READS IS OF BULK AT MOST 1048576: true; the input reads as it did. -/
def undoLimitUptoRow : OpenClaim := { program := "ytghcmakhfdnimaadoor", sum := "f39ac6b6789b3202c2f47e02fe90b357d8cd954bfb297a3a575a62cd511e3d0e", func := "copyist/copyistlaw19.UndoLimit", spec := "undoLimit", named := ["copyist/undo.rules", "unicode/utf8.first", "unicode/utf8.acceptRanges"], apart := false, laid := [("unicode/utf8.acceptRanges", laid_unicode_utf8_acceptRanges), ("copyist/undo.rules", laid_copyist_undo_rules), ("unicode/utf8.first", laid_unicode_utf8_first)], narrowed := true }
def UndoLimitUptoSaid : Prop := undoLimitUptoRow.holds Tryd.pinned (OpenSpec.upto undoLimitSpec)

/-- 'copyistlaw19.UndoNames', WHERE WHAT IT READS IS OF BULK AT MOST 1048576: true; the input reads as it did. -/
def undoNamesUptoRow : OpenClaim := { program := "ytghcmakhfdnimaadoor", sum := "f39ac6b6789b3202c2f47e02fe90b357d8cd954bfb297a3a575a62cd511e3d0e", func := "copyist/copyistlaw19.UndoNames", spec := "undoNames", named := ["copyist/undo.rules", "unicode/utf8.first", "unicode/utf8.acceptRanges"], apart := false, laid := [("unicode/utf8.acceptRanges", laid_unicode_utf8_acceptRanges), ("copyist/undo.rules", laid_copyist_undo_rules), ("unicode/utf8.first", laid_unicode_utf8_first)], narrowed := true }
def UndoNamesUptoSaid : Prop := undoNamesUptoRow.holds Tryd.pinned (OpenSpec.upto undoNamesSpec)

/-- 'copyistlaw19.UndoScript', WHERE WHAT IT READS IS OF BULK AT MOST 1048576: true; the input reads as it did. -/
def undoScriptUptoRow : OpenClaim := { program := "ytghcmakhfdnimaadoor", sum := "f39ac6b6789b3202c2f47e02fe90b357d8cd954bfb297a3a575a62cd511e3d0e", func := "copyist/copyistlaw19.UndoScript", spec := "undoScript", named := ["copyist/undo.rules", "unicode/utf8.first", "unicode/utf8.acceptRanges"], apart := false, laid := [("unicode/utf8.acceptRanges", laid_unicode_utf8_acceptRanges), ("copyist/undo.rules", laid_copyist_undo_rules), ("unicode/utf8.first", laid_unicode_utf8_first)], narrowed := true }
def UndoScriptUptoSaid : Prop := undoScriptUptoRow.holds Tryd.pinned (OpenSpec.upto undoScriptSpec)

/-- 'copyistlaw19.UndoApart', WHERE WHAT IT READS IS OF BULK AT MOST 1048576: true; the input reads as it did. -/
def undoApartUptoRow : OpenClaim := { program := "ytghcmakhfdnimaadoor", sum := "f39ac6b6789b3202c2f47e02fe90b357d8cd954bfb297a3a575a62cd511e3d0e", func := "copyist/copyistlaw19.UndoApart", spec := "undoApart", named := ["copyist/undo.rules", "unicode/utf8.first", "unicode/utf8.acceptRanges"], apart := false, laid := [("unicode/utf8.acceptRanges", laid_unicode_utf8_acceptRanges), ("copyist/undo.rules", laid_copyist_undo_rules), ("unicode/utf8.first", laid_unicode_utf8_first)], narrowed := true }
def UndoApartUptoSaid : Prop := undoApartUptoRow.holds Tryd.pinned (OpenSpec.upto undoApartSpec)

end Rows
end Go.Proofs.YtghcmakhfdnimaaDoor
