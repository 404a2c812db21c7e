/-
  No cell of these rows narrows 'for every input' (looked for: loops, veiled, ifaces, maps, wideKeys, modest, calm, conditions, laid).
  DERIVED. THE GIVEN ROWS OF THIS SEAT. 8 by the template 'for every input the law returns true; each argument reads behind the call as it read before'; 0 by the template 'total and deterministic' (their statements: YtmjogpacajbngaaTotals.lean).
  GIVEN WITH THE SEED: the statements are not yours to turn. If you find one false, say at which input.
  Laid BY PROGRAM, IN A SANDBOX (cutbox-rows.mjs): the forced cells as the released guide's own fill.sh prints them over the translation 69460ddd148e1075… (all of the seat's roots in one cut). By AI agents, Wed Nov 11 2026. No macro, syntax, notation, axiom, sorry.
-/
import Derived.Test.YtmjogpacajbngaaChecked
import GoSem.Claim
import GoSem.ClaimJoined
import GoSem.ClaimMapViews
import Derived.JoinedTies
import Derived.KernelRfl
namespace Go.Proofs.Ytmjogpacajbngaa
/- THE CELL 'sum', in the pinned program and in every row, IS THE sha256 OF THE DUMP (.gsa) THAT YtmjogpacajbngaaProg.lean LOADS. Nothing in Lean hashes anything: it is a label: what it is worth is what the hold of that sum in a sandbox is worth. -/
noncomputable def Try.pinned : Pinned := { name := "ytmjogpacajbngaa", sum := "69460ddd148e1075dfbc73a78d9954e2d2dd5cb91019d31bcf3c8d96603c4802", checked := Try.checked }
namespace Rows
def none {H : Type} : Left H := { results := [], args := [] }

/-- 'copyistlaw33.FacesOver': WHATEVER THE INPUT: true; the input reads as it did. -/
def facesOverSpec : ChangeSpec := { name := "facesOver", fn := fun _ => fun
  | [d1, d2] => { results := [.lit (.bool true)], args := [d1, d2] }
  | _ => none }
def facesOverRow : OpenClaim := { program := "ytmjogpacajbngaa", sum := "69460ddd148e1075dfbc73a78d9954e2d2dd5cb91019d31bcf3c8d96603c4802", func := "copyist/copyistlaw33.FacesOver", spec := "facesOver", unfollowed := true, recurses := true, apart := false }
def FacesOverSaid : Prop := facesOverRow.holds Try.pinned (OpenSpec.ofChange facesOverSpec)

/-- ITS FALSE NEIGHBOUR: 'it returns false'. Refute it at one input. -/
def facesOverWrong : ChangeSpec := { name := "facesOver", fn := fun _ => fun
  | [d1, d2] => { results := [.lit (.bool false)], args := [d1, d2] }
  | _ => none }
def FacesOverWrongFalsely : Prop := facesOverRow.holds Try.pinned (OpenSpec.ofChange facesOverWrong)

/-- 'copyistlaw33.FacesFull': WHATEVER THE INPUT: true; the input reads as it did. -/
def facesFullSpec : ChangeSpec := { name := "facesFull", fn := fun _ => fun
  | [d1, d2] => { results := [.lit (.bool true)], args := [d1, d2] }
  | _ => none }
def facesFullRow : OpenClaim := { program := "ytmjogpacajbngaa", sum := "69460ddd148e1075dfbc73a78d9954e2d2dd5cb91019d31bcf3c8d96603c4802", func := "copyist/copyistlaw33.FacesFull", spec := "facesFull", unfollowed := true, recurses := true, apart := false }
def FacesFullSaid : Prop := facesFullRow.holds Try.pinned (OpenSpec.ofChange facesFullSpec)

/-- ITS FALSE NEIGHBOUR: 'it returns false'. Refute it at one input. -/
def facesFullWrong : ChangeSpec := { name := "facesFull", fn := fun _ => fun
  | [d1, d2] => { results := [.lit (.bool false)], args := [d1, d2] }
  | _ => none }
def FacesFullWrongFalsely : Prop := facesFullRow.holds Try.pinned (OpenSpec.ofChange facesFullWrong)

/-- 'copyistlaw33.FacesKnown': WHATEVER THE INPUT: true; the input reads as it did. -/
def facesKnownSpec : ChangeSpec := { name := "facesKnown", fn := fun _ => fun
  | [] => { results := [.lit (.bool true)], args := [] }
  | _ => none }
def facesKnownRow : OpenClaim := { program := "ytmjogpacajbngaa", sum := "69460ddd148e1075dfbc73a78d9954e2d2dd5cb91019d31bcf3c8d96603c4802", func := "copyist/copyistlaw33.FacesKnown", spec := "facesKnown", unfollowed := true, recurses := true, apart := false }
def FacesKnownSaid : Prop := facesKnownRow.holds Try.pinned (OpenSpec.ofChange facesKnownSpec)

/-- ITS FALSE NEIGHBOUR: 'it returns false'. Refute it at one input. -/
def facesKnownWrong : ChangeSpec := { name := "facesKnown", fn := fun _ => fun
  | [] => { results := [.lit (.bool false)], args := [] }
  | _ => none }
def FacesKnownWrongFalsely : Prop := facesKnownRow.holds Try.pinned (OpenSpec.ofChange facesKnownWrong)

/-- 'copyistlaw33.FacesThrough': WHATEVER THE INPUT: true; the input reads as it did. -/
def facesThroughSpec : ChangeSpec := { name := "facesThrough", fn := fun _ => fun
  | [d1, d2, d3] => { results := [.lit (.bool true)], args := [d1, d2, d3] }
  | _ => none }
def facesThroughRow : OpenClaim := { program := "ytmjogpacajbngaa", sum := "69460ddd148e1075dfbc73a78d9954e2d2dd5cb91019d31bcf3c8d96603c4802", func := "copyist/copyistlaw33.FacesThrough", spec := "facesThrough", unfollowed := true, recurses := true, apart := false }
def FacesThroughSaid : Prop := facesThroughRow.holds Try.pinned (OpenSpec.ofChange facesThroughSpec)

/-- ITS FALSE NEIGHBOUR: 'it returns false'. Refute it at one input. -/
def facesThroughWrong : ChangeSpec := { name := "facesThrough", fn := fun _ => fun
  | [d1, d2, d3] => { results := [.lit (.bool false)], args := [d1, d2, d3] }
  | _ => none }
def FacesThroughWrongFalsely : Prop := facesThroughRow.holds Try.pinned (OpenSpec.ofChange facesThroughWrong)

/-- 'copyistlaw33.FacesInherits': WHATEVER THE INPUT: true; the input reads as it did. -/
def facesInheritsSpec : ChangeSpec := { name := "facesInherits", fn := fun _ => fun
  | [d] => { results := [.lit (.bool true)], args := [d] }
  | _ => none }
def facesInheritsRow : OpenClaim := { program := "ytmjogpacajbngaa", sum := "69460ddd148e1075dfbc73a78d9954e2d2dd5cb91019d31bcf3c8d96603c4802", func := "copyist/copyistlaw33.FacesInherits", spec := "facesInherits", unfollowed := true, recurses := true, apart := false }
def FacesInheritsSaid : Prop := facesInheritsRow.holds Try.pinned (OpenSpec.ofChange facesInheritsSpec)

/-- ITS FALSE NEIGHBOUR: 'it returns false'. Refute it at one input. -/
def facesInheritsWrong : ChangeSpec := { name := "facesInherits", fn := fun _ => fun
  | [d] => { results := [.lit (.bool false)], args := [d] }
  | _ => none }
def FacesInheritsWrongFalsely : Prop := facesInheritsRow.holds Try.pinned (OpenSpec.ofChange facesInheritsWrong)

/-- 'copyistlaw33.FacesTwice': WHATEVER THE INPUT: true; the input reads as it did. -/
def facesTwiceSpec : ChangeSpec := { name := "facesTwice", fn := fun _ => fun
  | [d1, d2] => { results := [.lit (.bool true)], args := [d1, d2] }
  | _ => none }
def facesTwiceRow : OpenClaim := { program := "ytmjogpacajbngaa", sum := "69460ddd148e1075dfbc73a78d9954e2d2dd5cb91019d31bcf3c8d96603c4802", func := "copyist/copyistlaw33.FacesTwice", spec := "facesTwice", unfollowed := true, recurses := true, apart := false }
def FacesTwiceSaid : Prop := facesTwiceRow.holds Try.pinned (OpenSpec.ofChange facesTwiceSpec)

/-- ITS FALSE NEIGHBOUR: 'it returns false'. Refute it at one input. -/
def facesTwiceWrong : ChangeSpec := { name := "facesTwice", fn := fun _ => fun
  | [d1, d2] => { results := [.lit (.bool false)], args := [d1, d2] }
  | _ => none }
def FacesTwiceWrongFalsely : Prop := facesTwiceRow.holds Try.pinned (OpenSpec.ofChange facesTwiceWrong)

/-- 'copyistlaw33.FacesActs': WHATEVER THE INPUT: true; the input reads as it did. -/
def facesActsSpec : ChangeSpec := { name := "facesActs", fn := fun _ => fun
  | [d1, d2] => { results := [.lit (.bool true)], args := [d1, d2] }
  | _ => none }
def facesActsRow : OpenClaim := { program := "ytmjogpacajbngaa", sum := "69460ddd148e1075dfbc73a78d9954e2d2dd5cb91019d31bcf3c8d96603c4802", func := "copyist/copyistlaw33.FacesActs", spec := "facesActs", inPlace := ["maps.clone"], unfollowed := true, recurses := true, apart := false }
def FacesActsSaid : Prop := facesActsRow.holds Try.pinned (OpenSpec.ofChange facesActsSpec)

/-- ITS FALSE NEIGHBOUR: 'it returns false'. Refute it at one input. -/
def facesActsWrong : ChangeSpec := { name := "facesActs", fn := fun _ => fun
  | [d1, d2] => { results := [.lit (.bool false)], args := [d1, d2] }
  | _ => none }
def FacesActsWrongFalsely : Prop := facesActsRow.holds Try.pinned (OpenSpec.ofChange facesActsWrong)

/-- 'copyistlaw33.FacesNone': WHATEVER THE INPUT: true; the input reads as it did. -/
def facesNoneSpec : ChangeSpec := { name := "facesNone", fn := fun _ => fun
  | [d1, d2] => { results := [.lit (.bool true)], args := [d1, d2] }
  | _ => none }
def facesNoneRow : OpenClaim := { program := "ytmjogpacajbngaa", sum := "69460ddd148e1075dfbc73a78d9954e2d2dd5cb91019d31bcf3c8d96603c4802", func := "copyist/copyistlaw33.FacesNone", spec := "facesNone", inPlace := ["maps.clone"], unfollowed := true, recurses := true, apart := false }
def FacesNoneSaid : Prop := facesNoneRow.holds Try.pinned (OpenSpec.ofChange facesNoneSpec)

/-- ITS FALSE NEIGHBOUR: 'it returns false'. Refute it at one input. -/
def facesNoneWrong : ChangeSpec := { name := "facesNone", fn := fun _ => fun
  | [d1, d2] => { results := [.lit (.bool false)], args := [d1, d2] }
  | _ => none }
def FacesNoneWrongFalsely : Prop := facesNoneRow.holds Try.pinned (OpenSpec.ofChange facesNoneWrong)

/- THE SECOND FORM. 'bulk': how many values and letters a reading holds, each counted each time it is reached (what is shared counts as often as it is met; a slice's spare places count too). A statement '..UptoSaid' is the law's where the arguments, and the package variables that the reading takes, are together of bulk at most 1048576: NARROWER than '..Said'. Prove '..Said' where nothing that the law and all that it calls make is longer than what came in: it says more and counts as full. Else prove '..UptoSaid'. A law counts once. -/
mutual
def uptoBulk {H : Type} : DataW H → Nat
  | .lit (.string bytes) => bytes.length + 1
  | .lit _ => 1
  | .nil => 1
  | .ptr d => uptoBulk d + 1
  | .slice elems spare => uptoBulkAll elems + uptoBulkAll spare + 1
  | .agg parts => uptoBulkAll parts + 1
  | .iface _ d => uptoBulk d + 1
  | .map entries => uptoBulkEntries entries + 1
  | .held _ => 1
def uptoBulkAll {H : Type} : List (DataW H) → Nat
  | [] => 0
  | d :: r => uptoBulk d + uptoBulkAll r
def uptoBulkEntries {H : Type} : List (Lit × DataW H) → Nat
  | [] => 0
  | x :: r => uptoBulkEntry x + uptoBulkEntries r
def uptoBulkEntry {H : Type} : Lit × DataW H → Nat
  | (.string bytes, d) => bytes.length + uptoBulk d + 1
  | (_, d) => uptoBulk d + 1
 end
def uptoSmall : (H : Type) → List (DataW H) → Bool := fun _ ds => decide (uptoBulkAll ds ≤ 1048576)
def OpenSpec.upto (s : _root_.Go.ChangeSpec) : _root_.Go.OpenSpec := { _root_.Go.OpenSpec.ofChange s with cond := some uptoSmall }

/-- 'copyistlaw33.FacesOver', WHERE WHAT IT READS IS OF BULK AT MOST 1048576: true; the input reads as it did. -/
def facesOverUptoRow : OpenClaim := { program := "ytmjogpacajbngaa", sum := "69460ddd148e1075dfbc73a78d9954e2d2dd5cb91019d31bcf3c8d96603c4802", func := "copyist/copyistlaw33.FacesOver", spec := "facesOver", unfollowed := true, recurses := true, apart := false, narrowed := true }
def FacesOverUptoSaid : Prop := facesOverUptoRow.holds Try.pinned (OpenSpec.upto facesOverSpec)

/-- 'copyistlaw33.FacesFull', WHERE WHAT IT READS IS OF BULK AT MOST 1048576: true; the input reads as it did. -/
def facesFullUptoRow : OpenClaim := { program := "ytmjogpacajbngaa", sum := "69460ddd148e1075dfbc73a78d9954e2d2dd5cb91019d31bcf3c8d96603c4802", func := "copyist/copyistlaw33.FacesFull", spec := "facesFull", unfollowed := true, recurses := true, apart := false, narrowed := true }
def FacesFullUptoSaid : Prop := facesFullUptoRow.holds Try.pinned (OpenSpec.upto facesFullSpec)

/-- 'copyistlaw33.FacesKnown', WHERE WHAT IT READS IS OF BULK AT MOST 1048576: true; the input reads as it did. -/
def facesKnownUptoRow : OpenClaim := { program := "ytmjogpacajbngaa", sum := "69460ddd148e1075dfbc73a78d9954e2d2dd5cb91019d31bcf3c8d96603c4802", func := "copyist/copyistlaw33.FacesKnown", spec := "facesKnown", unfollowed := true, recurses := true, apart := false, narrowed := true }
def FacesKnownUptoSaid : Prop := facesKnownUptoRow.holds Try.pinned (OpenSpec.upto facesKnownSpec)

/-- 'copyistlaw33.FacesThrough', WHERE WHAT IT READS IS OF BULK AT MOST 1048576: true; the input reads as it did. -/
def facesThroughUptoRow : OpenClaim := { program := "ytmjogpacajbngaa", sum := "69460ddd148e1075dfbc73a78d9954e2d2dd5cb91019d31bcf3c8d96603c4802", func := "copyist/copyistlaw33.FacesThrough", spec := "facesThrough", unfollowed := true, recurses := true, apart := false, narrowed := true }
def FacesThroughUptoSaid : Prop := facesThroughUptoRow.holds Try.pinned (OpenSpec.upto facesThroughSpec)

/-- 'copyistlaw33.FacesInherits', WHERE WHAT IT READS IS OF BULK AT MOST 1048576: true; the input reads as it did. -/
def facesInheritsUptoRow : OpenClaim := { program := "ytmjogpacajbngaa", sum := "69460ddd148e1075dfbc73a78d9954e2d2dd5cb91019d31bcf3c8d96603c4802", func := "copyist/copyistlaw33.FacesInherits", spec := "facesInherits", unfollowed := true, recurses := true, apart := false, narrowed := true }
def FacesInheritsUptoSaid : Prop := facesInheritsUptoRow.holds Try.pinned (OpenSpec.upto facesInheritsSpec)

/-- 'copyistlaw33.FacesTwice', WHERE WHAT IT READS IS OF BULK AT MOST 1048576: true; the input reads as it did. -/
def facesTwiceUptoRow : OpenClaim := { program := "ytmjogpacajbngaa", sum := "69460ddd148e1075dfbc73a78d9954e2d2dd5cb91019d31bcf3c8d96603c4802", func := "copyist/copyistlaw33.FacesTwice", spec := "facesTwice", unfollowed := true, recurses := true, apart := false, narrowed := true }
def FacesTwiceUptoSaid : Prop := facesTwiceUptoRow.holds Try.pinned (OpenSpec.upto facesTwiceSpec)

/-- 'copyistlaw33.FacesActs', WHERE WHAT IT READS IS OF BULK AT MOST 1048576: true; the input reads as it did. -/
def facesActsUptoRow : OpenClaim := { program := "ytmjogpacajbngaa", sum := "69460ddd148e1075dfbc73a78d9954e2d2dd5cb91019d31bcf3c8d96603c4802", func := "copyist/copyistlaw33.FacesActs", spec := "facesActs", inPlace := ["maps.clone"], unfollowed := true, recurses := true, apart := false, narrowed := true }
def FacesActsUptoSaid : Prop := facesActsUptoRow.holds Try.pinned (OpenSpec.upto facesActsSpec)

/-- 'copyistlaw33.FacesNone', WHERE WHAT IT READS IS OF BULK AT MOST 1048576: true; the input reads as it did. -/
def facesNoneUptoRow : OpenClaim := { program := "ytmjogpacajbngaa", sum := "69460ddd148e1075dfbc73a78d9954e2d2dd5cb91019d31bcf3c8d96603c4802", func := "copyist/copyistlaw33.FacesNone", spec := "facesNone", inPlace := ["maps.clone"], unfollowed := true, recurses := true, apart := false, narrowed := true }
def FacesNoneUptoSaid : Prop := facesNoneUptoRow.holds Try.pinned (OpenSpec.upto facesNoneSpec)

end Rows
end Go.Proofs.Ytmjogpacajbngaa
