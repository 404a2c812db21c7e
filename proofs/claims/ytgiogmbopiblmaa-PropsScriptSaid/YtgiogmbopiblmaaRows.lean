/-
  No cell of these rows narrows 'for every input' (looked for: loops, veiled, ifaces, maps, wideKeys, modest, calm, conditions, laid).
  DERIVED. THE GIVEN ROWS OF THIS SEAT. 7 by the template 'for every input the law returns true; each argument reads behind the call as it read before'; 0 by the template 'total and deterministic' (their statements: YtgiogmbopiblmaaTotals.lean).
  GIVEN WITH THE SEED: the statements are not yours to turn. If you find one false, say at which input.
  Laid BY PROGRAM, IN A SANDBOX (cutbox-rows.mjs): the forced cells as the released guide's own fill.sh prints them over the translation 956696cd53d0e36f… (all of the seat's roots in one cut). By AI agents, Wed Nov 11 2026. No macro, syntax, notation, axiom, sorry.
-/
import Derived.Test.YtgiogmbopiblmaaChecked
import GoSem.Claim
import GoSem.ClaimJoined
import GoSem.ClaimMapViews
import Derived.JoinedTies
import Derived.KernelRfl
namespace Go.Proofs.Ytgiogmbopiblmaa
/- THE CELL 'sum', in the pinned program and in every row, IS THE sha256 OF THE DUMP (.gsa) THAT YtgiogmbopiblmaaProg.lean LOADS. Nothing in Lean hashes anything: it is a label: what it is worth is what the hold of that sum in a sandbox is worth. -/
noncomputable def Try.pinned : Pinned := { name := "ytgiogmbopiblmaa", sum := "956696cd53d0e36fc2c1305707c76d2aca25946fccdf4fbbf9fac250aaa0baaf", checked := Try.checked }
namespace Rows
def none {H : Type} : Left H := { results := [], args := [] }

/-- 'copyistlaw17.PropsFull': WHATEVER THE INPUT: true; the input reads as it did. -/
def propsFullSpec : ChangeSpec := { name := "propsFull", fn := fun _ => fun
  | [d1, d2] => { results := [.lit (.bool true)], args := [d1, d2] }
  | _ => none }
def propsFullRow : OpenClaim := { program := "ytgiogmbopiblmaa", sum := "956696cd53d0e36fc2c1305707c76d2aca25946fccdf4fbbf9fac250aaa0baaf", func := "copyist/copyistlaw17.PropsFull", spec := "propsFull", inPlace := ["slices.overlaps[copyist/props.piece]"], unfollowed := true, recurses := true, apart := false }
def PropsFullSaid : Prop := propsFullRow.holds Try.pinned (OpenSpec.ofChange propsFullSpec)

/-- ITS FALSE NEIGHBOUR: 'it returns false'. Refute it at one input. -/
def propsFullWrong : ChangeSpec := { name := "propsFull", fn := fun _ => fun
  | [d1, d2] => { results := [.lit (.bool false)], args := [d1, d2] }
  | _ => none }
def PropsFullWrongFalsely : Prop := propsFullRow.holds Try.pinned (OpenSpec.ofChange propsFullWrong)

/-- 'copyistlaw17.PropsNames': WHATEVER THE INPUT: true; the input reads as it did. -/
def propsNamesSpec : ChangeSpec := { name := "propsNames", fn := fun _ => fun
  | [] => { results := [.lit (.bool true)], args := [] }
  | _ => none }
def propsNamesRow : OpenClaim := { program := "ytgiogmbopiblmaa", sum := "956696cd53d0e36fc2c1305707c76d2aca25946fccdf4fbbf9fac250aaa0baaf", func := "copyist/copyistlaw17.PropsNames", spec := "propsNames", inPlace := ["slices.overlaps[copyist/props.piece]"], unfollowed := true, recurses := true, apart := false }
def PropsNamesSaid : Prop := propsNamesRow.holds Try.pinned (OpenSpec.ofChange propsNamesSpec)

/-- ITS FALSE NEIGHBOUR: 'it returns false'. Refute it at one input. -/
def propsNamesWrong : ChangeSpec := { name := "propsNames", fn := fun _ => fun
  | [] => { results := [.lit (.bool false)], args := [] }
  | _ => none }
def PropsNamesWrongFalsely : Prop := propsNamesRow.holds Try.pinned (OpenSpec.ofChange propsNamesWrong)

/-- 'copyistlaw17.PropsLast': WHATEVER THE INPUT: true; the input reads as it did. -/
def propsLastSpec : ChangeSpec := { name := "propsLast", fn := fun _ => fun
  | [d1, d2, d3] => { results := [.lit (.bool true)], args := [d1, d2, d3] }
  | _ => none }
def propsLastRow : OpenClaim := { program := "ytgiogmbopiblmaa", sum := "956696cd53d0e36fc2c1305707c76d2aca25946fccdf4fbbf9fac250aaa0baaf", func := "copyist/copyistlaw17.PropsLast", spec := "propsLast", inPlace := ["slices.overlaps[copyist/props.piece]"], unfollowed := true, recurses := true, apart := false }
def PropsLastSaid : Prop := propsLastRow.holds Try.pinned (OpenSpec.ofChange propsLastSpec)

/-- ITS FALSE NEIGHBOUR: 'it returns false'. Refute it at one input. -/
def propsLastWrong : ChangeSpec := { name := "propsLast", fn := fun _ => fun
  | [d1, d2, d3] => { results := [.lit (.bool false)], args := [d1, d2, d3] }
  | _ => none }
def PropsLastWrongFalsely : Prop := propsLastRow.holds Try.pinned (OpenSpec.ofChange propsLastWrong)

/-- 'copyistlaw17.PropsSpans': WHATEVER THE INPUT: true; the input reads as it did. -/
def propsSpansSpec : ChangeSpec := { name := "propsSpans", fn := fun _ => fun
  | [d1, d2, d3] => { results := [.lit (.bool true)], args := [d1, d2, d3] }
  | _ => none }
def propsSpansRow : OpenClaim := { program := "ytgiogmbopiblmaa", sum := "956696cd53d0e36fc2c1305707c76d2aca25946fccdf4fbbf9fac250aaa0baaf", func := "copyist/copyistlaw17.PropsSpans", spec := "propsSpans", inPlace := ["slices.overlaps[copyist/props.piece]"], unfollowed := true, recurses := true, apart := false }
def PropsSpansSaid : Prop := propsSpansRow.holds Try.pinned (OpenSpec.ofChange propsSpansSpec)

/-- ITS FALSE NEIGHBOUR: 'it returns false'. Refute it at one input. -/
def propsSpansWrong : ChangeSpec := { name := "propsSpans", fn := fun _ => fun
  | [d1, d2, d3] => { results := [.lit (.bool false)], args := [d1, d2, d3] }
  | _ => none }
def PropsSpansWrongFalsely : Prop := propsSpansRow.holds Try.pinned (OpenSpec.ofChange propsSpansWrong)

/-- 'copyistlaw17.PropsNext': WHATEVER THE INPUT: true; the input reads as it did. -/
def propsNextSpec : ChangeSpec := { name := "propsNext", fn := fun _ => fun
  | [d1, d2, d3, d4] => { results := [.lit (.bool true)], args := [d1, d2, d3, d4] }
  | _ => none }
def propsNextRow : OpenClaim := { program := "ytgiogmbopiblmaa", sum := "956696cd53d0e36fc2c1305707c76d2aca25946fccdf4fbbf9fac250aaa0baaf", func := "copyist/copyistlaw17.PropsNext", spec := "propsNext", inPlace := ["slices.overlaps[copyist/props.piece]"], unfollowed := true, recurses := true, apart := false }
def PropsNextSaid : Prop := propsNextRow.holds Try.pinned (OpenSpec.ofChange propsNextSpec)

/-- ITS FALSE NEIGHBOUR: 'it returns false'. Refute it at one input. -/
def propsNextWrong : ChangeSpec := { name := "propsNext", fn := fun _ => fun
  | [d1, d2, d3, d4] => { results := [.lit (.bool false)], args := [d1, d2, d3, d4] }
  | _ => none }
def PropsNextWrongFalsely : Prop := propsNextRow.holds Try.pinned (OpenSpec.ofChange propsNextWrong)

/-- 'copyistlaw17.PropsScript': WHATEVER THE INPUT: true; the input reads as it did. -/
def propsScriptSpec : ChangeSpec := { name := "propsScript", fn := fun _ => fun
  | [d1, d2, d3, d4] => { results := [.lit (.bool true)], args := [d1, d2, d3, d4] }
  | _ => none }
def propsScriptRow : OpenClaim := { program := "ytgiogmbopiblmaa", sum := "956696cd53d0e36fc2c1305707c76d2aca25946fccdf4fbbf9fac250aaa0baaf", func := "copyist/copyistlaw17.PropsScript", spec := "propsScript", inPlace := ["slices.overlaps[copyist/props.piece]"], unfollowed := true, recurses := true, apart := false }
def PropsScriptSaid : Prop := propsScriptRow.holds Try.pinned (OpenSpec.ofChange propsScriptSpec)

/-- ITS FALSE NEIGHBOUR: 'it returns false'. Refute it at one input. -/
def propsScriptWrong : ChangeSpec := { name := "propsScript", fn := fun _ => fun
  | [d1, d2, d3, d4] => { results := [.lit (.bool false)], args := [d1, d2, d3, d4] }
  | _ => none }
def PropsScriptWrongFalsely : Prop := propsScriptRow.holds Try.pinned (OpenSpec.ofChange propsScriptWrong)

/-- 'copyistlaw17.PropsApart': WHATEVER THE INPUT: true; the input reads as it did. -/
def propsApartSpec : ChangeSpec := { name := "propsApart", fn := fun _ => fun
  | [d1, d2] => { results := [.lit (.bool true)], args := [d1, d2] }
  | _ => none }
def propsApartRow : OpenClaim := { program := "ytgiogmbopiblmaa", sum := "956696cd53d0e36fc2c1305707c76d2aca25946fccdf4fbbf9fac250aaa0baaf", func := "copyist/copyistlaw17.PropsApart", spec := "propsApart", inPlace := ["slices.overlaps[copyist/props.piece]"], unfollowed := true, recurses := true, apart := false }
def PropsApartSaid : Prop := propsApartRow.holds Try.pinned (OpenSpec.ofChange propsApartSpec)

/-- ITS FALSE NEIGHBOUR: 'it returns false'. Refute it at one input. -/
def propsApartWrong : ChangeSpec := { name := "propsApart", fn := fun _ => fun
  | [d1, d2] => { results := [.lit (.bool false)], args := [d1, d2] }
  | _ => none }
def PropsApartWrongFalsely : Prop := propsApartRow.holds Try.pinned (OpenSpec.ofChange propsApartWrong)

/- THE SECOND FORM. 'bulk': how many values and letters a reading holds, each counted each time it is reached (what is shared counts as often as it is met; a slice's spare places count too). A statement '..UptoSaid' is the law's where the arguments, and the package variables that the reading takes, are together of bulk at most 1048576: NARROWER than '..Said'. Prove '..Said' where nothing that the law and all that it calls make is longer than what came in: it says more and counts as full. Else prove '..UptoSaid'. A law counts once. -/
mutual
def uptoBulk {H : Type} : DataW H → Nat
  | .lit (.string bytes) => bytes.length + 1
  | .lit _ => 1
  | .nil => 1
  | .ptr d => uptoBulk d + 1
  | .slice elems spare => uptoBulkAll elems + uptoBulkAll spare + 1
  | .agg parts => uptoBulkAll parts + 1
  | .iface _ d => uptoBulk d + 1
  | .map entries => uptoBulkEntries entries + 1
  | .held _ => 1
def uptoBulkAll {H : Type} : List (DataW H) → Nat
  | [] => 0
  | d :: r => uptoBulk d + uptoBulkAll r
def uptoBulkEntries {H : Type} : List (Lit × DataW H) → Nat
  | [] => 0
  | x :: r => uptoBulkEntry x + uptoBulkEntries r
def uptoBulkEntry {H : Type} : Lit × DataW H → Nat
  | (.string bytes, d) => bytes.length + uptoBulk d + 1
  | (_, d) => uptoBulk d + 1
 end
def uptoSmall : (H : Type) → List (DataW H) → Bool := fun _ ds => decide (uptoBulkAll ds ≤ 1048576)
def OpenSpec.upto (s : _root_.Go.ChangeSpec) : _root_.Go.OpenSpec := { _root_.Go.OpenSpec.ofChange s with cond := some uptoSmall }

/-- 'copyistlaw17.PropsFull', WHERE WHAT IT READS IS OF BULK AT MOST 1048576: true; the input reads as it did. -/
def propsFullUptoRow : OpenClaim := { program := "ytgiogmbopiblmaa", sum := "956696cd53d0e36fc2c1305707c76d2aca25946fccdf4fbbf9fac250aaa0baaf", func := "copyist/copyistlaw17.PropsFull", spec := "propsFull", inPlace := ["slices.overlaps[copyist/props.piece]"], unfollowed := true, recurses := true, apart := false, narrowed := true }
def PropsFullUptoSaid : Prop := propsFullUptoRow.holds Try.pinned (OpenSpec.upto propsFullSpec)

/-- 'copyistlaw17.PropsNames', WHERE WHAT IT READS IS OF BULK AT MOST 1048576: true; the input reads as it did. -/
def propsNamesUptoRow : OpenClaim := { program := "ytgiogmbopiblmaa", sum := "956696cd53d0e36fc2c1305707c76d2aca25946fccdf4fbbf9fac250aaa0baaf", func := "copyist/copyistlaw17.PropsNames", spec := "propsNames", inPlace := ["slices.overlaps[copyist/props.piece]"], unfollowed := true, recurses := true, apart := false, narrowed := true }
def PropsNamesUptoSaid : Prop := propsNamesUptoRow.holds Try.pinned (OpenSpec.upto propsNamesSpec)

/-- 'copyistlaw17.PropsLast', WHERE WHAT IT READS IS OF BULK AT MOST 1048576: true; the input reads as it did. -/
def propsLastUptoRow : OpenClaim := { program := "ytgiogmbopiblmaa", sum := "956696cd53d0e36fc2c1305707c76d2aca25946fccdf4fbbf9fac250aaa0baaf", func := "copyist/copyistlaw17.PropsLast", spec := "propsLast", inPlace := ["slices.overlaps[copyist/props.piece]"], unfollowed := true, recurses := true, apart := false, narrowed := true }
def PropsLastUptoSaid : Prop := propsLastUptoRow.holds Try.pinned (OpenSpec.upto propsLastSpec)

/-- 'copyistlaw17.PropsSpans', WHERE WHAT IT READS IS OF BULK AT MOST 1048576: true; the input reads as it did. -/
def propsSpansUptoRow : OpenClaim := { program := "ytgiogmbopiblmaa", sum := "956696cd53d0e36fc2c1305707c76d2aca25946fccdf4fbbf9fac250aaa0baaf", func := "copyist/copyistlaw17.PropsSpans", spec := "propsSpans", inPlace := ["slices.overlaps[copyist/props.piece]"], unfollowed := true, recurses := true, apart := false, narrowed := true }
def PropsSpansUptoSaid : Prop := propsSpansUptoRow.holds Try.pinned (OpenSpec.upto propsSpansSpec)

/-- 'copyistlaw17.PropsNext', WHERE WHAT IT READS IS OF BULK AT MOST 1048576: true; the input reads as it did. -/
def propsNextUptoRow : OpenClaim := { program := "ytgiogmbopiblmaa", sum := "956696cd53d0e36fc2c1305707c76d2aca25946fccdf4fbbf9fac250aaa0baaf", func := "copyist/copyistlaw17.PropsNext", spec := "propsNext", inPlace := ["slices.overlaps[copyist/props.piece]"], unfollowed := true, recurses := true, apart := false, narrowed := true }
def PropsNextUptoSaid : Prop := propsNextUptoRow.holds Try.pinned (OpenSpec.upto propsNextSpec)

/-- 'copyistlaw17.PropsScript', WHERE WHAT IT READS IS OF BULK AT MOST 1048576: true; the input reads as it did. -/
def propsScriptUptoRow : OpenClaim := { program := "ytgiogmbopiblmaa", sum := "956696cd53d0e36fc2c1305707c76d2aca25946fccdf4fbbf9fac250aaa0baaf", func := "copyist/copyistlaw17.PropsScript", spec := "propsScript", inPlace := ["slices.overlaps[copyist/props.piece]"], unfollowed := true, recurses := true, apart := false, narrowed := true }
def PropsScriptUptoSaid : Prop := propsScriptUptoRow.holds Try.pinned (OpenSpec.upto propsScriptSpec)

/-- 'copyistlaw17.PropsApart', WHERE WHAT IT READS IS OF BULK AT MOST 1048576: true; the input reads as it did. -/
def propsApartUptoRow : OpenClaim := { program := "ytgiogmbopiblmaa", sum := "956696cd53d0e36fc2c1305707c76d2aca25946fccdf4fbbf9fac250aaa0baaf", func := "copyist/copyistlaw17.PropsApart", spec := "propsApart", inPlace := ["slices.overlaps[copyist/props.piece]"], unfollowed := true, recurses := true, apart := false, narrowed := true }
def PropsApartUptoSaid : Prop := propsApartUptoRow.holds Try.pinned (OpenSpec.upto propsApartSpec)

end Rows
end Go.Proofs.Ytgiogmbopiblmaa
