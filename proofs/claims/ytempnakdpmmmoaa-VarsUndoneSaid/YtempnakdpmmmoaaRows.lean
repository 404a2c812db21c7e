/-
  No cell of these rows narrows 'for every input' (looked for: loops, veiled, ifaces, maps, wideKeys, modest, calm, conditions, laid).
  DERIVED. THE GIVEN ROWS OF THIS SEAT. 4 by the template 'for every input the law returns true; each argument reads behind the call as it read before'; 0 by the template 'total and deterministic' (their statements: YtempnakdpmmmoaaTotals.lean).
  GIVEN WITH THE SEED: the statements are not yours to turn. If you find one false, say at which input.
  Laid BY PROGRAM, IN A SANDBOX (cutbox-rows.mjs): the forced cells as the released guide's own fill.sh prints them over the translation 99af544e0432d067… (all of the seat's roots in one cut). By AI agents, Wed Nov 11 2026. No macro, syntax, notation, axiom, sorry.
-/
import Derived.Test.YtempnakdpmmmoaaChecked
import GoSem.Claim
import GoSem.ClaimJoined
import GoSem.ClaimMapViews
import Derived.JoinedTies
import Derived.KernelRfl
namespace Go.Proofs.Ytempnakdpmmmoaa
/- THE CELL 'sum', in the pinned program and in every row, IS THE sha256 OF THE DUMP (.gsa) THAT YtempnakdpmmmoaaProg.lean LOADS. Nothing in Lean hashes anything: it is a label: what it is worth is what the hold of that sum in a sandbox is worth. -/
noncomputable def Try.pinned : Pinned := { name := "ytempnakdpmmmoaa", sum := "99af544e0432d0678122d31f097388c70d52d14b946e77df94158fdcbba4d879", checked := Try.checked }
namespace Rows
def none {H : Type} : Left H := { results := [], args := [] }

/-- 'copyistlaw04.VarsDeep': WHATEVER THE INPUT: true; the input reads as it did. -/
def varsDeepSpec : ChangeSpec := { name := "varsDeep", fn := fun _ => fun
  | [d1, d2] => { results := [.lit (.bool true)], args := [d1, d2] }
  | _ => none }
def varsDeepRow : OpenClaim := { program := "ytempnakdpmmmoaa", sum := "99af544e0432d0678122d31f097388c70d52d14b946e77df94158fdcbba4d879", func := "copyist/copyistlaw04.VarsDeep", spec := "varsDeep", unfollowed := true, recurses := true, apart := false }
def VarsDeepSaid : Prop := varsDeepRow.holds Try.pinned (OpenSpec.ofChange varsDeepSpec)

/-- ITS FALSE NEIGHBOUR: 'it returns false'. Refute it at one input. -/
def varsDeepWrong : ChangeSpec := { name := "varsDeep", fn := fun _ => fun
  | [d1, d2] => { results := [.lit (.bool false)], args := [d1, d2] }
  | _ => none }
def VarsDeepWrongFalsely : Prop := varsDeepRow.holds Try.pinned (OpenSpec.ofChange varsDeepWrong)

/-- 'copyistlaw04.VarsConst': WHATEVER THE INPUT: true; the input reads as it did. -/
def varsConstSpec : ChangeSpec := { name := "varsConst", fn := fun _ => fun
  | [d1, d2, d3, d4] => { results := [.lit (.bool true)], args := [d1, d2, d3, d4] }
  | _ => none }
def varsConstRow : OpenClaim := { program := "ytempnakdpmmmoaa", sum := "99af544e0432d0678122d31f097388c70d52d14b946e77df94158fdcbba4d879", func := "copyist/copyistlaw04.VarsConst", spec := "varsConst", unfollowed := true, recurses := true, apart := false }
def VarsConstSaid : Prop := varsConstRow.holds Try.pinned (OpenSpec.ofChange varsConstSpec)

/-- ITS FALSE NEIGHBOUR: 'it returns false'. Refute it at one input. -/
def varsConstWrong : ChangeSpec := { name := "varsConst", fn := fun _ => fun
  | [d1, d2, d3, d4] => { results := [.lit (.bool false)], args := [d1, d2, d3, d4] }
  | _ => none }
def VarsConstWrongFalsely : Prop := varsConstRow.holds Try.pinned (OpenSpec.ofChange varsConstWrong)

/-- 'copyistlaw04.VarsLocal': WHATEVER THE INPUT: true; the input reads as it did. -/
def varsLocalSpec : ChangeSpec := { name := "varsLocal", fn := fun _ => fun
  | [d1, d2, d3, d4, d5, d6] => { results := [.lit (.bool true)], args := [d1, d2, d3, d4, d5, d6] }
  | _ => none }
def varsLocalRow : OpenClaim := { program := "ytempnakdpmmmoaa", sum := "99af544e0432d0678122d31f097388c70d52d14b946e77df94158fdcbba4d879", func := "copyist/copyistlaw04.VarsLocal", spec := "varsLocal", unfollowed := true, recurses := true, apart := false }
def VarsLocalSaid : Prop := varsLocalRow.holds Try.pinned (OpenSpec.ofChange varsLocalSpec)

/-- ITS FALSE NEIGHBOUR: 'it returns false'. Refute it at one input. -/
def varsLocalWrong : ChangeSpec := { name := "varsLocal", fn := fun _ => fun
  | [d1, d2, d3, d4, d5, d6] => { results := [.lit (.bool false)], args := [d1, d2, d3, d4, d5, d6] }
  | _ => none }
def VarsLocalWrongFalsely : Prop := varsLocalRow.holds Try.pinned (OpenSpec.ofChange varsLocalWrong)

/-- 'copyistlaw04.VarsUndone': WHATEVER THE INPUT: true; the input reads as it did. -/
def varsUndoneSpec : ChangeSpec := { name := "varsUndone", fn := fun _ => fun
  | [d1, d2] => { results := [.lit (.bool true)], args := [d1, d2] }
  | _ => none }
def varsUndoneRow : OpenClaim := { program := "ytempnakdpmmmoaa", sum := "99af544e0432d0678122d31f097388c70d52d14b946e77df94158fdcbba4d879", func := "copyist/copyistlaw04.VarsUndone", spec := "varsUndone", inPlace := ["maps.clone"], unfollowed := true, recurses := true, apart := false }
def VarsUndoneSaid : Prop := varsUndoneRow.holds Try.pinned (OpenSpec.ofChange varsUndoneSpec)

/-- ITS FALSE NEIGHBOUR: 'it returns false'. Refute it at one input. -/
def varsUndoneWrong : ChangeSpec := { name := "varsUndone", fn := fun _ => fun
  | [d1, d2] => { results := [.lit (.bool false)], args := [d1, d2] }
  | _ => none }
def VarsUndoneWrongFalsely : Prop := varsUndoneRow.holds Try.pinned (OpenSpec.ofChange varsUndoneWrong)

/- THE SECOND FORM. 'bulk': how many values and letters a reading holds, each counted each time it is reached (what is shared counts as often as it is met; a slice's spare places count too). A statement '..UptoSaid' is the law's where the arguments, and the package variables that the reading takes, are together of bulk at most 1048576: NARROWER than '..Said'. Prove '..Said' where nothing that the law and all that it calls make is longer than what came in: it says more and counts as full. Else prove '..UptoSaid'. A law counts once. -/
mutual
def uptoBulk {H : Type} : DataW H → Nat
  | .lit (.string bytes) => bytes.length + 1
  | .lit _ => 1
  | .nil => 1
  | .ptr d => uptoBulk d + 1
  | .slice elems spare => uptoBulkAll elems + uptoBulkAll spare + 1
  | .agg parts => uptoBulkAll parts + 1
  | .iface _ d => uptoBulk d + 1
  | .map entries => uptoBulkEntries entries + 1
  | .held _ => 1
def uptoBulkAll {H : Type} : List (DataW H) → Nat
  | [] => 0
  | d :: r => uptoBulk d + uptoBulkAll r
def uptoBulkEntries {H : Type} : List (Lit × DataW H) → Nat
  | [] => 0
  | x :: r => uptoBulkEntry x + uptoBulkEntries r
def uptoBulkEntry {H : Type} : Lit × DataW H → Nat
  | (.string bytes, d) => bytes.length + uptoBulk d + 1
  | (_, d) => uptoBulk d + 1
 end
def uptoSmall : (H : Type) → List (DataW H) → Bool := fun _ ds => decide (uptoBulkAll ds ≤ 1048576)
def OpenSpec.upto (s : _root_.Go.ChangeSpec) : _root_.Go.OpenSpec := { _root_.Go.OpenSpec.ofChange s with cond := some uptoSmall }

/-- 'copyistlaw04.VarsDeep', WHERE WHAT IT READS IS OF BULK AT MOST 1048576: true; the input reads as it did. -/
def varsDeepUptoRow : OpenClaim := { program := "ytempnakdpmmmoaa", sum := "99af544e0432d0678122d31f097388c70d52d14b946e77df94158fdcbba4d879", func := "copyist/copyistlaw04.VarsDeep", spec := "varsDeep", unfollowed := true, recurses := true, apart := false, narrowed := true }
def VarsDeepUptoSaid : Prop := varsDeepUptoRow.holds Try.pinned (OpenSpec.upto varsDeepSpec)

/-- 'copyistlaw04.VarsConst', WHERE WHAT IT READS IS OF BULK AT MOST 1048576: true; the input reads as it did. -/
def varsConstUptoRow : OpenClaim := { program := "ytempnakdpmmmoaa", sum := "99af544e0432d0678122d31f097388c70d52d14b946e77df94158fdcbba4d879", func := "copyist/copyistlaw04.VarsConst", spec := "varsConst", unfollowed := true, recurses := true, apart := false, narrowed := true }
def VarsConstUptoSaid : Prop := varsConstUptoRow.holds Try.pinned (OpenSpec.upto varsConstSpec)

/-- 'copyistlaw04.VarsLocal', WHERE WHAT IT READS IS OF BULK AT MOST 1048576: true; the input reads as it did. -/
def varsLocalUptoRow : OpenClaim := { program := "ytempnakdpmmmoaa", sum := "99af544e0432d0678122d31f097388c70d52d14b946e77df94158fdcbba4d879", func := "copyist/copyistlaw04.VarsLocal", spec := "varsLocal", unfollowed := true, recurses := true, apart := false, narrowed := true }
def VarsLocalUptoSaid : Prop := varsLocalUptoRow.holds Try.pinned (OpenSpec.upto varsLocalSpec)

/-- 'copyistlaw04.VarsUndone', WHERE WHAT IT READS IS OF BULK AT MOST 1048576: true; the input reads as it did. -/
def varsUndoneUptoRow : OpenClaim := { program := "ytempnakdpmmmoaa", sum := "99af544e0432d0678122d31f097388c70d52d14b946e77df94158fdcbba4d879", func := "copyist/copyistlaw04.VarsUndone", spec := "varsUndone", inPlace := ["maps.clone"], unfollowed := true, recurses := true, apart := false, narrowed := true }
def VarsUndoneUptoSaid : Prop := varsUndoneUptoRow.holds Try.pinned (OpenSpec.upto varsUndoneSpec)

end Rows
end Go.Proofs.Ytempnakdpmmmoaa
