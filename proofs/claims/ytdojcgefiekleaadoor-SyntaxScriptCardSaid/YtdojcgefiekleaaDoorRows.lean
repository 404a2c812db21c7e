/-
  NARROWER THAN 'FOR EVERY INPUT', by the rows' own cells (each row's printed sentence says how): SyntaxWords: laid · SyntaxMany: laid · SyntaxNamed: laid · SyntaxBuilt: laid · SyntaxOver: laid · SyntaxNames: laid · SyntaxScript: laid · SyntaxApart: laid.
  DERIVED. THE GIVEN ROWS OF THIS SEAT. 8 by the template 'for every input the law returns true; each argument reads behind the call as it read before'; 0 by the template 'total and deterministic' (their statements: YtdojcgefiekleaaDoorTotals.lean).
  GIVEN WITH THE SEED: the statements are not yours to turn. If you find one false, say at which input.
  Laid BY PROGRAM, IN A SANDBOX (cutbox-rows.mjs): the forced cells as the released guide's own fill.sh prints them over the translation 1a7e141b5f3db8d2… (all of the seat's roots in one cut). By AI agents, Wed Nov 11 2026. No macro, syntax, notation, axiom, sorry.
-/
import Derived.Test.YtdojcgefiekleaaDoorChecked
import GoSem.PinnedTables
import GoSem.Claim
import GoSem.ClaimJoined
import GoSem.ClaimMapViews
import Derived.JoinedTies
import Derived.KernelRfl
namespace Go.Proofs.YtdojcgefiekleaaDoor
/- THE CELL 'sum', in the pinned program and in every row, IS THE sha256 OF THE DUMP (.gsa) THAT YtdojcgefiekleaaDoorProg.lean LOADS. Nothing in Lean hashes anything: it is a label: what it is worth is what the hold of that sum in a sandbox is worth. -/
noncomputable def Tryd.pinned : Pinned := { name := "ytdojcgefiekleaadoor", sum := "1a7e141b5f3db8d2e12b30819b3c713479fbe9fba55545778078407653edf455", checked := Tryd.checked }
namespace Rows
def none {H : Type} : Left H := { results := [], args := [] }

/- WHAT THE LISTED PACKAGE-LEVEL VARIABLES READ AS WHEN THE CALL BEGINS. Each datum BY PROGRAM (the guide's laid-datum.mjs) off the statement by which the dump's own 'gosem.cut.vars' lays the variable. In a bare row this is a premise. The card (YtdojcgefiekleaaDoorCards.lean) ties it to the program's text. -/
def laid_unicode_utf8_acceptRanges {H : Type} : DataW H := .agg [.agg [.lit (.int .u8 128), .lit (.int .u8 191)], .agg [.lit (.int .u8 160), .lit (.int .u8 191)], .agg [.lit (.int .u8 128), .lit (.int .u8 159)], .agg [.lit (.int .u8 144), .lit (.int .u8 191)], .agg [.lit (.int .u8 128), .lit (.int .u8 143)], .agg [.lit (.int .u8 0), .lit (.int .u8 0)], .agg [.lit (.int .u8 0), .lit (.int .u8 0)], .agg [.lit (.int .u8 0), .lit (.int .u8 0)], .agg [.lit (.int .u8 0), .lit (.int .u8 0)], .agg [.lit (.int .u8 0), .lit (.int .u8 0)], .agg [.lit (.int .u8 0), .lit (.int .u8 0)], .agg [.lit (.int .u8 0), .lit (.int .u8 0)], .agg [.lit (.int .u8 0), .lit (.int .u8 0)], .agg [.lit (.int .u8 0), .lit (.int .u8 0)], .agg [.lit (.int .u8 0), .lit (.int .u8 0)], .agg [.lit (.int .u8 0), .lit (.int .u8 0)]]
/-- One of Go's own tables, pinned by name: the form's constant. -/
def laid_unicode_utf8_first : DataW Unit := Go.Pinned.utf8First

/-- 'copyistlaw21.SyntaxWords': WHATEVER THE INPUT: true; the input reads as it did. -/
def syntaxWordsSpec : ChangeSpec := { name := "syntaxWords", fn := fun _ => fun
  | [d1, d2, d3, d4, d5] => { results := [.lit (.bool true)], args := [d1, d2, d3, d4, d5] }
  | _ => none }
def syntaxWordsRow : OpenClaim := { program := "ytdojcgefiekleaadoor", sum := "1a7e141b5f3db8d2e12b30819b3c713479fbe9fba55545778078407653edf455", func := "copyist/copyistlaw21.SyntaxWords", spec := "syntaxWords", inPlace := ["internal/bytealg.IndexByteString"], unfollowed := true, recurses := true, named := ["unicode/utf8.first", "unicode/utf8.acceptRanges"], apart := false, laid := [("unicode/utf8.acceptRanges", laid_unicode_utf8_acceptRanges), ("unicode/utf8.first", laid_unicode_utf8_first)] }
def SyntaxWordsSaid : Prop := syntaxWordsRow.holds Tryd.pinned (OpenSpec.ofChange syntaxWordsSpec)

/-- ITS FALSE NEIGHBOUR: 'it returns false'. Refute it at one input. -/
def syntaxWordsWrong : ChangeSpec := { name := "syntaxWords", fn := fun _ => fun
  | [d1, d2, d3, d4, d5] => { results := [.lit (.bool false)], args := [d1, d2, d3, d4, d5] }
  | _ => none }
def SyntaxWordsWrongFalsely : Prop := syntaxWordsRow.holds Tryd.pinned (OpenSpec.ofChange syntaxWordsWrong)

/-- 'copyistlaw21.SyntaxMany': WHATEVER THE INPUT: true; the input reads as it did. -/
def syntaxManySpec : ChangeSpec := { name := "syntaxMany", fn := fun _ => fun
  | [d1, d2, d3, d4, d5] => { results := [.lit (.bool true)], args := [d1, d2, d3, d4, d5] }
  | _ => none }
def syntaxManyRow : OpenClaim := { program := "ytdojcgefiekleaadoor", sum := "1a7e141b5f3db8d2e12b30819b3c713479fbe9fba55545778078407653edf455", func := "copyist/copyistlaw21.SyntaxMany", spec := "syntaxMany", inPlace := ["internal/bytealg.IndexByteString"], unfollowed := true, recurses := true, named := ["unicode/utf8.first", "unicode/utf8.acceptRanges"], apart := false, laid := [("unicode/utf8.acceptRanges", laid_unicode_utf8_acceptRanges), ("unicode/utf8.first", laid_unicode_utf8_first)] }
def SyntaxManySaid : Prop := syntaxManyRow.holds Tryd.pinned (OpenSpec.ofChange syntaxManySpec)

/-- ITS FALSE NEIGHBOUR: 'it returns false'. Refute it at one input. -/
def syntaxManyWrong : ChangeSpec := { name := "syntaxMany", fn := fun _ => fun
  | [d1, d2, d3, d4, d5] => { results := [.lit (.bool false)], args := [d1, d2, d3, d4, d5] }
  | _ => none }
def SyntaxManyWrongFalsely : Prop := syntaxManyRow.holds Tryd.pinned (OpenSpec.ofChange syntaxManyWrong)

/-- 'copyistlaw21.SyntaxNamed': WHATEVER THE INPUT: true; the input reads as it did. -/
def syntaxNamedSpec : ChangeSpec := { name := "syntaxNamed", fn := fun _ => fun
  | [d1, d2, d3, d4] => { results := [.lit (.bool true)], args := [d1, d2, d3, d4] }
  | _ => none }
def syntaxNamedRow : OpenClaim := { program := "ytdojcgefiekleaadoor", sum := "1a7e141b5f3db8d2e12b30819b3c713479fbe9fba55545778078407653edf455", func := "copyist/copyistlaw21.SyntaxNamed", spec := "syntaxNamed", inPlace := ["internal/bytealg.IndexByteString"], unfollowed := true, recurses := true, named := ["unicode/utf8.first", "unicode/utf8.acceptRanges"], apart := false, laid := [("unicode/utf8.acceptRanges", laid_unicode_utf8_acceptRanges), ("unicode/utf8.first", laid_unicode_utf8_first)] }
def SyntaxNamedSaid : Prop := syntaxNamedRow.holds Tryd.pinned (OpenSpec.ofChange syntaxNamedSpec)

/-- ITS FALSE NEIGHBOUR: 'it returns false'. Refute it at one input. -/
def syntaxNamedWrong : ChangeSpec := { name := "syntaxNamed", fn := fun _ => fun
  | [d1, d2, d3, d4] => { results := [.lit (.bool false)], args := [d1, d2, d3, d4] }
  | _ => none }
def SyntaxNamedWrongFalsely : Prop := syntaxNamedRow.holds Tryd.pinned (OpenSpec.ofChange syntaxNamedWrong)

/-- 'copyistlaw21.SyntaxBuilt': WHATEVER THE INPUT: true; the input reads as it did. -/
def syntaxBuiltSpec : ChangeSpec := { name := "syntaxBuilt", fn := fun _ => fun
  | [d1, d2, d3] => { results := [.lit (.bool true)], args := [d1, d2, d3] }
  | _ => none }
def syntaxBuiltRow : OpenClaim := { program := "ytdojcgefiekleaadoor", sum := "1a7e141b5f3db8d2e12b30819b3c713479fbe9fba55545778078407653edf455", func := "copyist/copyistlaw21.SyntaxBuilt", spec := "syntaxBuilt", inPlace := ["internal/bytealg.IndexByteString"], unfollowed := true, recurses := true, named := ["unicode/utf8.first", "unicode/utf8.acceptRanges"], apart := false, laid := [("unicode/utf8.acceptRanges", laid_unicode_utf8_acceptRanges), ("unicode/utf8.first", laid_unicode_utf8_first)] }
def SyntaxBuiltSaid : Prop := syntaxBuiltRow.holds Tryd.pinned (OpenSpec.ofChange syntaxBuiltSpec)

/-- ITS FALSE NEIGHBOUR: 'it returns false'. Refute it at one input. -/
def syntaxBuiltWrong : ChangeSpec := { name := "syntaxBuilt", fn := fun _ => fun
  | [d1, d2, d3] => { results := [.lit (.bool false)], args := [d1, d2, d3] }
  | _ => none }
def SyntaxBuiltWrongFalsely : Prop := syntaxBuiltRow.holds Tryd.pinned (OpenSpec.ofChange syntaxBuiltWrong)

/-- 'copyistlaw21.SyntaxOver': WHATEVER THE INPUT: true; the input reads as it did. -/
def syntaxOverSpec : ChangeSpec := { name := "syntaxOver", fn := fun _ => fun
  | [d1, d2, d3, d4, d5, d6, d7] => { results := [.lit (.bool true)], args := [d1, d2, d3, d4, d5, d6, d7] }
  | _ => none }
def syntaxOverRow : OpenClaim := { program := "ytdojcgefiekleaadoor", sum := "1a7e141b5f3db8d2e12b30819b3c713479fbe9fba55545778078407653edf455", func := "copyist/copyistlaw21.SyntaxOver", spec := "syntaxOver", inPlace := ["internal/bytealg.IndexByteString"], unfollowed := true, recurses := true, named := ["unicode/utf8.first", "unicode/utf8.acceptRanges"], apart := false, laid := [("unicode/utf8.acceptRanges", laid_unicode_utf8_acceptRanges), ("unicode/utf8.first", laid_unicode_utf8_first)] }
def SyntaxOverSaid : Prop := syntaxOverRow.holds Tryd.pinned (OpenSpec.ofChange syntaxOverSpec)

/-- ITS FALSE NEIGHBOUR: 'it returns false'. Refute it at one input. -/
def syntaxOverWrong : ChangeSpec := { name := "syntaxOver", fn := fun _ => fun
  | [d1, d2, d3, d4, d5, d6, d7] => { results := [.lit (.bool false)], args := [d1, d2, d3, d4, d5, d6, d7] }
  | _ => none }
def SyntaxOverWrongFalsely : Prop := syntaxOverRow.holds Tryd.pinned (OpenSpec.ofChange syntaxOverWrong)

/-- 'copyistlaw21.SyntaxNames': WHATEVER THE INPUT: true; the input reads as it did. -/
def syntaxNamesSpec : ChangeSpec := { name := "syntaxNames", fn := fun _ => fun
  | [] => { results := [.lit (.bool true)], args := [] }
  | _ => none }
def syntaxNamesRow : OpenClaim := { program := "ytdojcgefiekleaadoor", sum := "1a7e141b5f3db8d2e12b30819b3c713479fbe9fba55545778078407653edf455", func := "copyist/copyistlaw21.SyntaxNames", spec := "syntaxNames", inPlace := ["internal/bytealg.IndexByteString"], unfollowed := true, recurses := true, named := ["unicode/utf8.first", "unicode/utf8.acceptRanges"], apart := false, laid := [("unicode/utf8.acceptRanges", laid_unicode_utf8_acceptRanges), ("unicode/utf8.first", laid_unicode_utf8_first)] }
def SyntaxNamesSaid : Prop := syntaxNamesRow.holds Tryd.pinned (OpenSpec.ofChange syntaxNamesSpec)

/-- ITS FALSE NEIGHBOUR: 'it returns false'. Refute it at one input. -/
def syntaxNamesWrong : ChangeSpec := { name := "syntaxNames", fn := fun _ => fun
  | [] => { results := [.lit (.bool false)], args := [] }
  | _ => none }
def SyntaxNamesWrongFalsely : Prop := syntaxNamesRow.holds Tryd.pinned (OpenSpec.ofChange syntaxNamesWrong)

/-- 'copyistlaw21.SyntaxScript': WHATEVER THE INPUT: true; the input reads as it did. -/
def syntaxScriptSpec : ChangeSpec := { name := "syntaxScript", fn := fun _ => fun
  | [d1, d2, d3, d4, d5, d6, d7] => { results := [.lit (.bool true)], args := [d1, d2, d3, d4, d5, d6, d7] }
  | _ => none }
def syntaxScriptRow : OpenClaim := { program := "ytdojcgefiekleaadoor", sum := "1a7e141b5f3db8d2e12b30819b3c713479fbe9fba55545778078407653edf455", func := "copyist/copyistlaw21.SyntaxScript", spec := "syntaxScript", inPlace := ["internal/bytealg.IndexByteString"], unfollowed := true, recurses := true, named := ["unicode/utf8.first", "unicode/utf8.acceptRanges"], apart := false, laid := [("unicode/utf8.acceptRanges", laid_unicode_utf8_acceptRanges), ("unicode/utf8.first", laid_unicode_utf8_first)] }
def SyntaxScriptSaid : Prop := syntaxScriptRow.holds Tryd.pinned (OpenSpec.ofChange syntaxScriptSpec)

/-- ITS FALSE NEIGHBOUR: 'it returns false'. Refute it at one input. -/
def syntaxScriptWrong : ChangeSpec := { name := "syntaxScript", fn := fun _ => fun
  | [d1, d2, d3, d4, d5, d6, d7] => { results := [.lit (.bool false)], args := [d1, d2, d3, d4, d5, d6, d7] }
  | _ => none }
def SyntaxScriptWrongFalsely : Prop := syntaxScriptRow.holds Tryd.pinned (OpenSpec.ofChange syntaxScriptWrong)

/-- 'copyistlaw21.SyntaxApart': WHATEVER THE INPUT: true; the input reads as it did. -/
def syntaxApartSpec : ChangeSpec := { name := "syntaxApart", fn := fun _ => fun
  | [d1, d2, d3, d4, d5] => { results := [.lit (.bool true)], args := [d1, d2, d3, d4, d5] }
  | _ => none }
def syntaxApartRow : OpenClaim := { program := "ytdojcgefiekleaadoor", sum := "1a7e141b5f3db8d2e12b30819b3c713479fbe9fba55545778078407653edf455", func := "copyist/copyistlaw21.SyntaxApart", spec := "syntaxApart", inPlace := ["internal/bytealg.IndexByteString"], unfollowed := true, recurses := true, named := ["unicode/utf8.first", "unicode/utf8.acceptRanges"], apart := false, laid := [("unicode/utf8.acceptRanges", laid_unicode_utf8_acceptRanges), ("unicode/utf8.first", laid_unicode_utf8_first)] }
def SyntaxApartSaid : Prop := syntaxApartRow.holds Tryd.pinned (OpenSpec.ofChange syntaxApartSpec)

/-- ITS FALSE NEIGHBOUR: 'it returns false'. Refute it at one input. -/
def syntaxApartWrong : ChangeSpec := { name := "syntaxApart", fn := fun _ => fun
  | [d1, d2, d3, d4, d5] => { results := [.lit (.bool false)], args := [d1, d2, d3, d4, d5] }
  | _ => none }
def SyntaxApartWrongFalsely : Prop := syntaxApartRow.holds Tryd.pinned (OpenSpec.ofChange syntaxApartWrong)

/- THE SECOND FORM. 'bulk': how many values and letters a reading holds, each counted each time it is reached (what is shared counts as often as it is met; a slice's spare places count too). A statement '..UptoSaid' is the law's where the arguments, and the package variables that the reading takes, are together of bulk at most 1048576: NARROWER than '..Said'. Prove '..Said' where nothing that the law and all that it calls make is longer than what came in: it says more and counts as full. Else prove '..UptoSaid'. A law counts once. -/
mutual
def uptoBulk {H : Type} : DataW H → Nat
  | .lit (.string bytes) => bytes.length + 1
  | .lit _ => 1
  | .nil => 1
  | .ptr d => uptoBulk d + 1
  | .slice elems spare => uptoBulkAll elems + uptoBulkAll spare + 1
  | .agg parts => uptoBulkAll parts + 1
  | .iface _ d => uptoBulk d + 1
  | .map entries => uptoBulkEntries entries + 1
  | .held _ => 1
def uptoBulkAll {H : Type} : List (DataW H) → Nat
  | [] => 0
  | d :: r => uptoBulk d + uptoBulkAll r
def uptoBulkEntries {H : Type} : List (Lit × DataW H) → Nat
  | [] => 0
  | x :: r => uptoBulkEntry x + uptoBulkEntries r
def uptoBulkEntry {H : Type} : Lit × DataW H → Nat
  | (.string bytes, d) => bytes.length + uptoBulk d + 1
  | (_, d) => uptoBulk d + 1
 end
def uptoSmall : (H : Type) → List (DataW H) → Bool := fun _ ds => decide (uptoBulkAll ds ≤ 1048576)
def OpenSpec.upto (s : _root_.Go.ChangeSpec) : _root_.Go.OpenSpec := { _root_.Go.OpenSpec.ofChange s with cond := some uptoSmall }

/-- 'copyistlaw21.SyntaxWords', WHERE WHAT IT READS IS OF BULK AT MOST 1048576: true; the input reads as it did. -/
def syntaxWordsUptoRow : OpenClaim := { program := "ytdojcgefiekleaadoor", sum := "1a7e141b5f3db8d2e12b30819b3c713479fbe9fba55545778078407653edf455", func := "copyist/copyistlaw21.SyntaxWords", spec := "syntaxWords", inPlace := ["internal/bytealg.IndexByteString"], unfollowed := true, recurses := true, named := ["unicode/utf8.first", "unicode/utf8.acceptRanges"], apart := false, laid := [("unicode/utf8.acceptRanges", laid_unicode_utf8_acceptRanges), ("unicode/utf8.first", laid_unicode_utf8_first)], narrowed := true }
def SyntaxWordsUptoSaid : Prop := syntaxWordsUptoRow.holds Tryd.pinned (OpenSpec.upto syntaxWordsSpec)

/-- 'copyistlaw21.SyntaxMany', WHERE WHAT IT READS IS OF BULK AT MOST 1048576: true; the input reads as it did. -/
def syntaxManyUptoRow : OpenClaim := { program := "ytdojcgefiekleaadoor", sum := "1a7e141b5f3db8d2e12b30819b3c713479fbe9fba55545778078407653edf455", func := "copyist/copyistlaw21.SyntaxMany", spec := "syntaxMany", inPlace := ["internal/bytealg.IndexByteString"], unfollowed := true, recurses := true, named := ["unicode/utf8.first", "unicode/utf8.acceptRanges"], apart := false, laid := [("unicode/utf8.acceptRanges", laid_unicode_utf8_acceptRanges), ("unicode/utf8.first", laid_unicode_utf8_first)], narrowed := true }
def SyntaxManyUptoSaid : Prop := syntaxManyUptoRow.holds Tryd.pinned (OpenSpec.upto syntaxManySpec)

/-- 'copyistlaw21.SyntaxNamed', WHERE WHAT IT READS IS OF BULK AT MOST 1048576: true; the input reads as it did. -/
def syntaxNamedUptoRow : OpenClaim := { program := "ytdojcgefiekleaadoor", sum := "1a7e141b5f3db8d2e12b30819b3c713479fbe9fba55545778078407653edf455", func := "copyist/copyistlaw21.SyntaxNamed", spec := "syntaxNamed", inPlace := ["internal/bytealg.IndexByteString"], unfollowed := true, recurses := true, named := ["unicode/utf8.first", "unicode/utf8.acceptRanges"], apart := false, laid := [("unicode/utf8.acceptRanges", laid_unicode_utf8_acceptRanges), ("unicode/utf8.first", laid_unicode_utf8_first)], narrowed := true }
def SyntaxNamedUptoSaid : Prop := syntaxNamedUptoRow.holds Tryd.pinned (OpenSpec.upto syntaxNamedSpec)

/-- 'copyistlaw21.SyntaxBuilt', WHERE WHAT IT READS IS OF BULK AT MOST 1048576: true; the input reads as it did. -/
def syntaxBuiltUptoRow : OpenClaim := { program := "ytdojcgefiekleaadoor", sum := "1a7e141b5f3db8d2e12b30819b3c713479fbe9fba55545778078407653edf455", func := "copyist/copyistlaw21.SyntaxBuilt", spec := "syntaxBuilt", inPlace := ["internal/bytealg.IndexByteString"], unfollowed := true, recurses := true, named := ["unicode/utf8.first", "unicode/utf8.acceptRanges"], apart := false, laid := [("unicode/utf8.acceptRanges", laid_unicode_utf8_acceptRanges), ("unicode/utf8.first", laid_unicode_utf8_first)], narrowed := true }
def SyntaxBuiltUptoSaid : Prop := syntaxBuiltUptoRow.holds Tryd.pinned (OpenSpec.upto syntaxBuiltSpec)

/-- 'copyistlaw21.SyntaxOver', WHERE WHAT IT READS IS OF BULK AT MOST 1048576: true; the input reads as it did. -/
def syntaxOverUptoRow : OpenClaim := { program := "ytdojcgefiekleaadoor", sum := "1a7e141b5f3db8d2e12b30819b3c713479fbe9fba55545778078407653edf455", func := "copyist/copyistlaw21.SyntaxOver", spec := "syntaxOver", inPlace := ["internal/bytealg.IndexByteString"], unfollowed := true, recurses := true, named := ["unicode/utf8.first", "unicode/utf8.acceptRanges"], apart := false, laid := [("unicode/utf8.acceptRanges", laid_unicode_utf8_acceptRanges), ("unicode/utf8.first", laid_unicode_utf8_first)], narrowed := true }
def SyntaxOverUptoSaid : Prop := syntaxOverUptoRow.holds Tryd.pinned (OpenSpec.upto syntaxOverSpec)

/-- 'copyistlaw21.SyntaxNames', WHERE WHAT IT READS IS OF BULK AT MOST 1048576: true; the input reads as it did. -/
def syntaxNamesUptoRow : OpenClaim := { program := "ytdojcgefiekleaadoor", sum := "1a7e141b5f3db8d2e12b30819b3c713479fbe9fba55545778078407653edf455", func := "copyist/copyistlaw21.SyntaxNames", spec := "syntaxNames", inPlace := ["internal/bytealg.IndexByteString"], unfollowed := true, recurses := true, named := ["unicode/utf8.first", "unicode/utf8.acceptRanges"], apart := false, laid := [("unicode/utf8.acceptRanges", laid_unicode_utf8_acceptRanges), ("unicode/utf8.first", laid_unicode_utf8_first)], narrowed := true }
def SyntaxNamesUptoSaid : Prop := syntaxNamesUptoRow.holds Tryd.pinned (OpenSpec.upto syntaxNamesSpec)

/-- 'copyistlaw21.SyntaxScript', WHERE WHAT IT READS IS OF BULK AT MOST 1048576: true; the input reads as it did. -/
def syntaxScriptUptoRow : OpenClaim := { program := "ytdojcgefiekleaadoor", sum := "1a7e141b5f3db8d2e12b30819b3c713479fbe9fba55545778078407653edf455", func := "copyist/copyistlaw21.SyntaxScript", spec := "syntaxScript", inPlace := ["internal/bytealg.IndexByteString"], unfollowed := true, recurses := true, named := ["unicode/utf8.first", "unicode/utf8.acceptRanges"], apart := false, laid := [("unicode/utf8.acceptRanges", laid_unicode_utf8_acceptRanges), ("unicode/utf8.first", laid_unicode_utf8_first)], narrowed := true }
def SyntaxScriptUptoSaid : Prop := syntaxScriptUptoRow.holds Tryd.pinned (OpenSpec.upto syntaxScriptSpec)

/-- 'copyistlaw21.SyntaxApart', WHERE WHAT IT READS IS OF BULK AT MOST 1048576: true; the input reads as it did. -/
def syntaxApartUptoRow : OpenClaim := { program := "ytdojcgefiekleaadoor", sum := "1a7e141b5f3db8d2e12b30819b3c713479fbe9fba55545778078407653edf455", func := "copyist/copyistlaw21.SyntaxApart", spec := "syntaxApart", inPlace := ["internal/bytealg.IndexByteString"], unfollowed := true, recurses := true, named := ["unicode/utf8.first", "unicode/utf8.acceptRanges"], apart := false, laid := [("unicode/utf8.acceptRanges", laid_unicode_utf8_acceptRanges), ("unicode/utf8.first", laid_unicode_utf8_first)], narrowed := true }
def SyntaxApartUptoSaid : Prop := syntaxApartUptoRow.holds Tryd.pinned (OpenSpec.upto syntaxApartSpec)

end Rows
end Go.Proofs.YtdojcgefiekleaaDoor
