/-
  NARROWER THAN 'FOR EVERY INPUT', by the rows' own cells (each row's printed sentence says how): NamesFull: laid · NamesOnce: laid · NamesNames: laid · NamesApart: laid · NamesCells: laid · NamesScript: laid.
  DERIVED. THE GIVEN ROWS OF THIS SEAT. 6 by the template 'for every input the law returns true; each argument reads behind the call as it read before'; 0 by the template 'total and deterministic' (their statements: YtkhjdhoaephdkaaDoorTotals.lean).
  GIVEN WITH THE SEED: the statements are not yours to turn. If you find one false, say at which input.
  Laid BY PROGRAM, IN A SANDBOX (cutbox-rows.mjs): the forced cells as the released guide's own fill.sh prints them over the translation 9ce740a7ed5df914… (all of the seat's roots in one cut). By AI agents, Wed Nov 11 2026. No macro, syntax, notation, axiom, sorry.
-/
import Derived.Test.YtkhjdhoaephdkaaDoorChecked
import GoSem.PinnedTables
import GoSem.Claim
import GoSem.ClaimJoined
import GoSem.ClaimMapViews
import Derived.JoinedTies
import Derived.KernelRfl
namespace Go.Proofs.YtkhjdhoaephdkaaDoor
/- THE CELL 'sum', in the pinned program and in every row, IS THE sha256 OF THE DUMP (.gsa) THAT YtkhjdhoaephdkaaDoorProg.lean LOADS. Nothing in Lean hashes anything: it is a label: what it is worth is what the hold of that sum in a sandbox is worth. -/
noncomputable def Tryd.pinned : Pinned := { name := "ytkhjdhoaephdkaadoor", sum := "9ce740a7ed5df9147540ec7d90350e77bdb87dfd9984c05b30382e3db98739ec", checked := Tryd.checked }
namespace Rows
def none {H : Type} : Left H := { results := [], args := [] }

/- WHAT THE LISTED PACKAGE-LEVEL VARIABLES READ AS WHEN THE CALL BEGINS. Each datum BY PROGRAM (the guide's laid-datum.mjs) off the statement by which the dump's own 'gosem.cut.vars' lays the variable. In a bare row this is a premise. The card (YtkhjdhoaephdkaaDoorCards.lean) ties it to the program's text. -/
def laid_unicode_utf8_acceptRanges {H : Type} : DataW H := .agg [.agg [.lit (.int .u8 128), .lit (.int .u8 191)], .agg [.lit (.int .u8 160), .lit (.int .u8 191)], .agg [.lit (.int .u8 128), .lit (.int .u8 159)], .agg [.lit (.int .u8 144), .lit (.int .u8 191)], .agg [.lit (.int .u8 128), .lit (.int .u8 143)], .agg [.lit (.int .u8 0), .lit (.int .u8 0)], .agg [.lit (.int .u8 0), .lit (.int .u8 0)], .agg [.lit (.int .u8 0), .lit (.int .u8 0)], .agg [.lit (.int .u8 0), .lit (.int .u8 0)], .agg [.lit (.int .u8 0), .lit (.int .u8 0)], .agg [.lit (.int .u8 0), .lit (.int .u8 0)], .agg [.lit (.int .u8 0), .lit (.int .u8 0)], .agg [.lit (.int .u8 0), .lit (.int .u8 0)], .agg [.lit (.int .u8 0), .lit (.int .u8 0)], .agg [.lit (.int .u8 0), .lit (.int .u8 0)], .agg [.lit (.int .u8 0), .lit (.int .u8 0)]]
/-- One of Go's own tables, pinned by name: the form's constant. -/
def laid_unicode_utf8_first : DataW Unit := Go.Pinned.utf8First

/-- 'copyistlaw03.NamesFull': WHATEVER THE INPUT: true; the input reads as it did. -/
def namesFullSpec : ChangeSpec := { name := "namesFull", fn := fun _ => fun
  | [d] => { results := [.lit (.bool true)], args := [d] }
  | _ => none }
def namesFullRow : OpenClaim := { program := "ytkhjdhoaephdkaadoor", sum := "9ce740a7ed5df9147540ec7d90350e77bdb87dfd9984c05b30382e3db98739ec", func := "copyist/copyistlaw03.NamesFull", spec := "namesFull", named := ["unicode/utf8.first", "unicode/utf8.acceptRanges"], apart := false, laid := [("unicode/utf8.acceptRanges", laid_unicode_utf8_acceptRanges), ("unicode/utf8.first", laid_unicode_utf8_first)] }
def NamesFullSaid : Prop := namesFullRow.holds Tryd.pinned (OpenSpec.ofChange namesFullSpec)

/-- ITS FALSE NEIGHBOUR: 'it returns false'. Refute it at one input. -/
def namesFullWrong : ChangeSpec := { name := "namesFull", fn := fun _ => fun
  | [d] => { results := [.lit (.bool false)], args := [d] }
  | _ => none }
def NamesFullWrongFalsely : Prop := namesFullRow.holds Tryd.pinned (OpenSpec.ofChange namesFullWrong)

/-- 'copyistlaw03.NamesOnce': WHATEVER THE INPUT: true; the input reads as it did. -/
def namesOnceSpec : ChangeSpec := { name := "namesOnce", fn := fun _ => fun
  | [d1, d2] => { results := [.lit (.bool true)], args := [d1, d2] }
  | _ => none }
def namesOnceRow : OpenClaim := { program := "ytkhjdhoaephdkaadoor", sum := "9ce740a7ed5df9147540ec7d90350e77bdb87dfd9984c05b30382e3db98739ec", func := "copyist/copyistlaw03.NamesOnce", spec := "namesOnce", named := ["unicode/utf8.first", "unicode/utf8.acceptRanges"], apart := false, laid := [("unicode/utf8.acceptRanges", laid_unicode_utf8_acceptRanges), ("unicode/utf8.first", laid_unicode_utf8_first)] }
def NamesOnceSaid : Prop := namesOnceRow.holds Tryd.pinned (OpenSpec.ofChange namesOnceSpec)

/-- ITS FALSE NEIGHBOUR: 'it returns false'. Refute it at one input. -/
def namesOnceWrong : ChangeSpec := { name := "namesOnce", fn := fun _ => fun
  | [d1, d2] => { results := [.lit (.bool false)], args := [d1, d2] }
  | _ => none }
def NamesOnceWrongFalsely : Prop := namesOnceRow.holds Tryd.pinned (OpenSpec.ofChange namesOnceWrong)

/-- 'copyistlaw03.NamesNames': WHATEVER THE INPUT: true; the input reads as it did. -/
def namesNamesSpec : ChangeSpec := { name := "namesNames", fn := fun _ => fun
  | [] => { results := [.lit (.bool true)], args := [] }
  | _ => none }
def namesNamesRow : OpenClaim := { program := "ytkhjdhoaephdkaadoor", sum := "9ce740a7ed5df9147540ec7d90350e77bdb87dfd9984c05b30382e3db98739ec", func := "copyist/copyistlaw03.NamesNames", spec := "namesNames", inPlace := ["maps.clone"], named := ["unicode/utf8.first", "unicode/utf8.acceptRanges"], apart := false, laid := [("unicode/utf8.acceptRanges", laid_unicode_utf8_acceptRanges), ("unicode/utf8.first", laid_unicode_utf8_first)] }
def NamesNamesSaid : Prop := namesNamesRow.holds Tryd.pinned (OpenSpec.ofChange namesNamesSpec)

/-- ITS FALSE NEIGHBOUR: 'it returns false'. Refute it at one input. -/
def namesNamesWrong : ChangeSpec := { name := "namesNames", fn := fun _ => fun
  | [] => { results := [.lit (.bool false)], args := [] }
  | _ => none }
def NamesNamesWrongFalsely : Prop := namesNamesRow.holds Tryd.pinned (OpenSpec.ofChange namesNamesWrong)

/-- 'copyistlaw03.NamesApart': WHATEVER THE INPUT: true; the input reads as it did. -/
def namesApartSpec : ChangeSpec := { name := "namesApart", fn := fun _ => fun
  | [d1, d2, d3, d4, d5] => { results := [.lit (.bool true)], args := [d1, d2, d3, d4, d5] }
  | _ => none }
def namesApartRow : OpenClaim := { program := "ytkhjdhoaephdkaadoor", sum := "9ce740a7ed5df9147540ec7d90350e77bdb87dfd9984c05b30382e3db98739ec", func := "copyist/copyistlaw03.NamesApart", spec := "namesApart", inPlace := ["maps.clone"], named := ["unicode/utf8.first", "unicode/utf8.acceptRanges"], apart := false, laid := [("unicode/utf8.acceptRanges", laid_unicode_utf8_acceptRanges), ("unicode/utf8.first", laid_unicode_utf8_first)] }
def NamesApartSaid : Prop := namesApartRow.holds Tryd.pinned (OpenSpec.ofChange namesApartSpec)

/-- ITS FALSE NEIGHBOUR: 'it returns false'. Refute it at one input. -/
def namesApartWrong : ChangeSpec := { name := "namesApart", fn := fun _ => fun
  | [d1, d2, d3, d4, d5] => { results := [.lit (.bool false)], args := [d1, d2, d3, d4, d5] }
  | _ => none }
def NamesApartWrongFalsely : Prop := namesApartRow.holds Tryd.pinned (OpenSpec.ofChange namesApartWrong)

/-- 'copyistlaw03.NamesCells': WHATEVER THE INPUT: true; the input reads as it did. -/
def namesCellsSpec : ChangeSpec := { name := "namesCells", fn := fun _ => fun
  | [d1, d2, d3, d4, d5] => { results := [.lit (.bool true)], args := [d1, d2, d3, d4, d5] }
  | _ => none }
def namesCellsRow : OpenClaim := { program := "ytkhjdhoaephdkaadoor", sum := "9ce740a7ed5df9147540ec7d90350e77bdb87dfd9984c05b30382e3db98739ec", func := "copyist/copyistlaw03.NamesCells", spec := "namesCells", unfollowed := true, recurses := true, named := ["unicode/utf8.first", "unicode/utf8.acceptRanges"], apart := false, laid := [("unicode/utf8.acceptRanges", laid_unicode_utf8_acceptRanges), ("unicode/utf8.first", laid_unicode_utf8_first)] }
def NamesCellsSaid : Prop := namesCellsRow.holds Tryd.pinned (OpenSpec.ofChange namesCellsSpec)

/-- ITS FALSE NEIGHBOUR: 'it returns false'. Refute it at one input. -/
def namesCellsWrong : ChangeSpec := { name := "namesCells", fn := fun _ => fun
  | [d1, d2, d3, d4, d5] => { results := [.lit (.bool false)], args := [d1, d2, d3, d4, d5] }
  | _ => none }
def NamesCellsWrongFalsely : Prop := namesCellsRow.holds Tryd.pinned (OpenSpec.ofChange namesCellsWrong)

/-- 'copyistlaw03.NamesScript': WHATEVER THE INPUT: true; the input reads as it did. -/
def namesScriptSpec : ChangeSpec := { name := "namesScript", fn := fun _ => fun
  | [d] => { results := [.lit (.bool true)], args := [d] }
  | _ => none }
def namesScriptRow : OpenClaim := { program := "ytkhjdhoaephdkaadoor", sum := "9ce740a7ed5df9147540ec7d90350e77bdb87dfd9984c05b30382e3db98739ec", func := "copyist/copyistlaw03.NamesScript", spec := "namesScript", inPlace := ["maps.clone"], unfollowed := true, recurses := true, named := ["unicode/utf8.first", "unicode/utf8.acceptRanges"], apart := false, laid := [("unicode/utf8.acceptRanges", laid_unicode_utf8_acceptRanges), ("unicode/utf8.first", laid_unicode_utf8_first)] }
def NamesScriptSaid : Prop := namesScriptRow.holds Tryd.pinned (OpenSpec.ofChange namesScriptSpec)

/-- ITS FALSE NEIGHBOUR: 'it returns false'. Refute it at one input. -/
def namesScriptWrong : ChangeSpec := { name := "namesScript", fn := fun _ => fun
  | [d] => { results := [.lit (.bool false)], args := [d] }
  | _ => none }
def NamesScriptWrongFalsely : Prop := namesScriptRow.holds Tryd.pinned (OpenSpec.ofChange namesScriptWrong)

/- THE SECOND FORM. 'bulk': how many values and letters a reading holds, each counted each time it is reached (what is shared counts as often as it is met; a slice's spare places count too). A statement '..UptoSaid' is the law's where the arguments, and the package variables that the reading takes, are together of bulk at most 1048576: NARROWER than '..Said'. Prove '..Said' where nothing that the law and all that it calls make is longer than what came in: it says more and counts as full. Else prove '..UptoSaid'. A law counts once. -/
mutual
def uptoBulk {H : Type} : DataW H → Nat
  | .lit (.string bytes) => bytes.length + 1
  | .lit _ => 1
  | .nil => 1
  | .ptr d => uptoBulk d + 1
  | .slice elems spare => uptoBulkAll elems + uptoBulkAll spare + 1
  | .agg parts => uptoBulkAll parts + 1
  | .iface _ d => uptoBulk d + 1
  | .map entries => uptoBulkEntries entries + 1
  | .held _ => 1
def uptoBulkAll {H : Type} : List (DataW H) → Nat
  | [] => 0
  | d :: r => uptoBulk d + uptoBulkAll r
def uptoBulkEntries {H : Type} : List (Lit × DataW H) → Nat
  | [] => 0
  | x :: r => uptoBulkEntry x + uptoBulkEntries r
def uptoBulkEntry {H : Type} : Lit × DataW H → Nat
  | (.string bytes, d) => bytes.length + uptoBulk d + 1
  | (_, d) => uptoBulk d + 1
 end
def uptoSmall : (H : Type) → List (DataW H) → Bool := fun _ ds => decide (uptoBulkAll ds ≤ 1048576)
def OpenSpec.upto (s : _root_.Go.ChangeSpec) : _root_.Go.OpenSpec := { _root_.Go.OpenSpec.ofChange s with cond := some uptoSmall }

/-- 'copyistlaw03.NamesFull', WHERE WHAT IT READS IS OF BULK AT MOST 1048576: true; the input reads as it did. -/
def namesFullUptoRow : OpenClaim := { program := "ytkhjdhoaephdkaadoor", sum := "9ce740a7ed5df9147540ec7d90350e77bdb87dfd9984c05b30382e3db98739ec", func := "copyist/copyistlaw03.NamesFull", spec := "namesFull", named := ["unicode/utf8.first", "unicode/utf8.acceptRanges"], apart := false, laid := [("unicode/utf8.acceptRanges", laid_unicode_utf8_acceptRanges), ("unicode/utf8.first", laid_unicode_utf8_first)], narrowed := true }
def NamesFullUptoSaid : Prop := namesFullUptoRow.holds Tryd.pinned (OpenSpec.upto namesFullSpec)

/-- 'copyistlaw03.NamesOnce', WHERE WHAT IT READS IS OF BULK AT MOST 1048576: true; the input reads as it did. -/
def namesOnceUptoRow : OpenClaim := { program := "ytkhjdhoaephdkaadoor", sum := "9ce740a7ed5df9147540ec7d90350e77bdb87dfd9984c05b30382e3db98739ec", func := "copyist/copyistlaw03.NamesOnce", spec := "namesOnce", named := ["unicode/utf8.first", "unicode/utf8.acceptRanges"], apart := false, laid := [("unicode/utf8.acceptRanges", laid_unicode_utf8_acceptRanges), ("unicode/utf8.first", laid_unicode_utf8_first)], narrowed := true }
def NamesOnceUptoSaid : Prop := namesOnceUptoRow.holds Tryd.pinned (OpenSpec.upto namesOnceSpec)

/-- 'copyistlaw03.NamesNames', WHERE WHAT IT READS IS OF BULK AT MOST 1048576: true; the input reads as it did. -/
def namesNamesUptoRow : OpenClaim := { program := "ytkhjdhoaephdkaadoor", sum := "9ce740a7ed5df9147540ec7d90350e77bdb87dfd9984c05b30382e3db98739ec", func := "copyist/copyistlaw03.NamesNames", spec := "namesNames", inPlace := ["maps.clone"], named := ["unicode/utf8.first", "unicode/utf8.acceptRanges"], apart := false, laid := [("unicode/utf8.acceptRanges", laid_unicode_utf8_acceptRanges), ("unicode/utf8.first", laid_unicode_utf8_first)], narrowed := true }
def NamesNamesUptoSaid : Prop := namesNamesUptoRow.holds Tryd.pinned (OpenSpec.upto namesNamesSpec)

/-- 'copyistlaw03.NamesApart', WHERE WHAT IT READS IS OF BULK AT MOST 1048576: true; the input reads as it did. -/
def namesApartUptoRow : OpenClaim := { program := "ytkhjdhoaephdkaadoor", sum := "9ce740a7ed5df9147540ec7d90350e77bdb87dfd9984c05b30382e3db98739ec", func := "copyist/copyistlaw03.NamesApart", spec := "namesApart", inPlace := ["maps.clone"], named := ["unicode/utf8.first", "unicode/utf8.acceptRanges"], apart := false, laid := [("unicode/utf8.acceptRanges", laid_unicode_utf8_acceptRanges), ("unicode/utf8.first", laid_unicode_utf8_first)], narrowed := true }
def NamesApartUptoSaid : Prop := namesApartUptoRow.holds Tryd.pinned (OpenSpec.upto namesApartSpec)

/-- 'copyistlaw03.NamesCells', WHERE WHAT IT READS IS OF BULK AT MOST 1048576: true; the input reads as it did. -/
def namesCellsUptoRow : OpenClaim := { program := "ytkhjdhoaephdkaadoor", sum := "9ce740a7ed5df9147540ec7d90350e77bdb87dfd9984c05b30382e3db98739ec", func := "copyist/copyistlaw03.NamesCells", spec := "namesCells", unfollowed := true, recurses := true, named := ["unicode/utf8.first", "unicode/utf8.acceptRanges"], apart := false, laid := [("unicode/utf8.acceptRanges", laid_unicode_utf8_acceptRanges), ("unicode/utf8.first", laid_unicode_utf8_first)], narrowed := true }
def NamesCellsUptoSaid : Prop := namesCellsUptoRow.holds Tryd.pinned (OpenSpec.upto namesCellsSpec)

/-- 'copyistlaw03.NamesScript', WHERE WHAT IT READS IS OF BULK AT MOST 1048576: true; the input reads as it did. -/
def namesScriptUptoRow : OpenClaim := { program := "ytkhjdhoaephdkaadoor", sum := "9ce740a7ed5df9147540ec7d90350e77bdb87dfd9984c05b30382e3db98739ec", func := "copyist/copyistlaw03.NamesScript", spec := "namesScript", inPlace := ["maps.clone"], unfollowed := true, recurses := true, named := ["unicode/utf8.first", "unicode/utf8.acceptRanges"], apart := false, laid := [("unicode/utf8.acceptRanges", laid_unicode_utf8_acceptRanges), ("unicode/utf8.first", laid_unicode_utf8_first)], narrowed := true }
def NamesScriptUptoSaid : Prop := namesScriptUptoRow.holds Tryd.pinned (OpenSpec.upto namesScriptSpec)

end Rows
end Go.Proofs.YtkhjdhoaephdkaaDoor
