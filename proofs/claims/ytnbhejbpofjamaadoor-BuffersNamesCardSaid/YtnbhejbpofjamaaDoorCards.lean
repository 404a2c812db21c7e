/-
  DERIVED. GIVEN WITH THE SEED: THE CARDS: each row of YtnbhejbpofjamaaDoorRows.lean that lists a variable, with what it lists TIED to the program's text (the seventh form; the later family's looks); each row that meets fmt, with fmt's text TOLD by the authors' own Lean function (tested against real Go, not proved from fmt's source: count such statements apart). THE CARD IS WHAT COUNTS. Prove the row's statement (the work); the ties are given (YtnbhejbpofjamaaDoorTie.lean); close each card by the builder's one call (the guide's Derived/Test/ToyasCard.lean, 'card_holds'). Laid BY PROGRAM, IN A SANDBOX (cutbox-door.mjs). By AI agents, Wed Nov 11 2026. No macro, syntax, notation, axiom, sorry.
-/
import Derived.Test.YtnbhejbpofjamaaDoorRows
import GoSem.ClaimSeven
namespace Go.Proofs.YtnbhejbpofjamaaDoor
namespace Rows

/-- THE TIED CARD OF 'copyistlaw26.BuffersFull'. -/
def buffersFullCard : Claim7 := { stood := { row := buffersFullRow, standIns := [], harness := (true, "69a76da327a66685dd395a8c2882755b8451e6733778779c2b0dd0f2fbd943f5"), looks := false }, kinds := [], alts := [], laidByText := true, laidKinds := [.data, .data, .data, .data, .pinned], laidTests := true, laidLooks := .later }
def BuffersFullCardSaid : Prop := Claim7.holds Tryd.pinned (.plain (OpenSpec.ofChange buffersFullSpec)) buffersFullCard

/-- THE TIED CARD OF 'copyistlaw26.BuffersNames'. -/
def buffersNamesCard : Claim7 := { stood := { row := buffersNamesRow, standIns := [], harness := (true, "69a76da327a66685dd395a8c2882755b8451e6733778779c2b0dd0f2fbd943f5"), looks := false }, kinds := [], alts := [], laidByText := true, laidKinds := [.data, .data, .data, .data, .pinned], laidTests := true, laidLooks := .later }
def BuffersNamesCardSaid : Prop := Claim7.holds Tryd.pinned (.plain (OpenSpec.ofChange buffersNamesSpec)) buffersNamesCard

/-- THE SECOND FORM's CARD OF 'copyistlaw26.BuffersFull'. -/
def buffersFullUptoCard : Claim7 := { stood := { row := buffersFullUptoRow, standIns := [], harness := (true, "69a76da327a66685dd395a8c2882755b8451e6733778779c2b0dd0f2fbd943f5"), looks := false }, kinds := [], alts := [], laidByText := true, laidKinds := [.data, .data, .data, .data, .pinned], laidTests := true, laidLooks := .later }
def BuffersFullUptoCardSaid : Prop := Claim7.holds Tryd.pinned (.plain (OpenSpec.upto buffersFullSpec)) buffersFullUptoCard

/-- THE SECOND FORM's CARD OF 'copyistlaw26.BuffersNames'. -/
def buffersNamesUptoCard : Claim7 := { stood := { row := buffersNamesUptoRow, standIns := [], harness := (true, "69a76da327a66685dd395a8c2882755b8451e6733778779c2b0dd0f2fbd943f5"), looks := false }, kinds := [], alts := [], laidByText := true, laidKinds := [.data, .data, .data, .data, .pinned], laidTests := true, laidLooks := .later }
def BuffersNamesUptoCardSaid : Prop := Claim7.holds Tryd.pinned (.plain (OpenSpec.upto buffersNamesSpec)) buffersNamesUptoCard
end Rows
end Go.Proofs.YtnbhejbpofjamaaDoor
