/-
  DERIVED. GIVEN WITH THE SEED: THE CARDS: each row of YtnbhejbpofjamaaGreatDoorRows.lean that lists a variable, with what it lists TIED to the program's text (the seventh form; the later family's looks); each row that meets fmt, with fmt's text TOLD by the authors' own Lean function (tested against real Go, not proved from fmt's source: count such statements apart). THE CARD IS WHAT COUNTS. Prove the row's statement (the work); the ties are given (YtnbhejbpofjamaaGreatDoorTie.lean); close each card by the builder's one call (the guide's Derived/Test/ToyasCard.lean, 'card_holds'). Laid BY PROGRAM, IN A SANDBOX (cutbox-door.mjs). By AI agents, Wed Nov 11 2026. No macro, syntax, notation, axiom, sorry.
-/
import Derived.Test.YtnbhejbpofjamaaGreatDoorRows
import GoSem.ClaimSeven
namespace Go.Proofs.YtnbhejbpofjamaaGreatDoor
namespace Rows

/-- THE TIED CARD OF 'copyistlaw26.BuffersFind'. -/
def buffersFindCard : Claim7 := { stood := { row := buffersFindRow, standIns := [], harness := (true, "f4461da59c67bd0b0d79a5caae30636d28326de3f63b60ba43096e6bee5f2a1c"), looks := true }, kinds := [], alts := [], laidByText := true, laidKinds := [.data, .data, .data, .data, .data, .pinned], laidTests := true, laidLooks := .later }
def BuffersFindCardSaid : Prop := Claim7.holds Tryz.pinned (.plain (OpenSpec.ofChange buffersFindSpec)) buffersFindCard

/-- THE TIED CARD OF 'copyistlaw26.BuffersOrder'. -/
def buffersOrderCard : Claim7 := { stood := { row := buffersOrderRow, standIns := [], harness := (true, "f4461da59c67bd0b0d79a5caae30636d28326de3f63b60ba43096e6bee5f2a1c"), looks := true }, kinds := [], alts := [], laidByText := true, laidKinds := [.data, .data, .data, .data, .data, .pinned], laidTests := true, laidLooks := .later }
def BuffersOrderCardSaid : Prop := Claim7.holds Tryz.pinned (.plain (OpenSpec.ofChange buffersOrderSpec)) buffersOrderCard

/-- THE TIED CARD OF 'copyistlaw26.BuffersScript'. -/
def buffersScriptCard : Claim7 := { stood := { row := buffersScriptRow, standIns := [], harness := (true, "f4461da59c67bd0b0d79a5caae30636d28326de3f63b60ba43096e6bee5f2a1c"), looks := true }, kinds := [], alts := [], laidByText := true, laidKinds := [.data, .data, .data, .data, .data, .pinned], laidTests := true, laidLooks := .later }
def BuffersScriptCardSaid : Prop := Claim7.holds Tryz.pinned (.plain (OpenSpec.ofChange buffersScriptSpec)) buffersScriptCard

/-- THE TIED CARD OF 'copyistlaw26.BuffersKill'. -/
def buffersKillCard : Claim7 := { stood := { row := buffersKillRow, standIns := [], harness := (true, "f4461da59c67bd0b0d79a5caae30636d28326de3f63b60ba43096e6bee5f2a1c"), looks := true }, kinds := [], alts := [], laidByText := true, laidKinds := [.data, .data, .data, .data, .data, .pinned], laidTests := true, laidLooks := .later }
def BuffersKillCardSaid : Prop := Claim7.holds Tryz.pinned (.plain (OpenSpec.ofChange buffersKillSpec)) buffersKillCard

/-- THE TIED CARD OF 'copyistlaw26.BuffersApart'. -/
def buffersApartCard : Claim7 := { stood := { row := buffersApartRow, standIns := [], harness := (true, "f4461da59c67bd0b0d79a5caae30636d28326de3f63b60ba43096e6bee5f2a1c"), looks := true }, kinds := [], alts := [], laidByText := true, laidKinds := [.data, .data, .data, .data, .data, .pinned], laidTests := true, laidLooks := .later }
def BuffersApartCardSaid : Prop := Claim7.holds Tryz.pinned (.plain (OpenSpec.ofChange buffersApartSpec)) buffersApartCard

/-- THE SECOND FORM's CARD OF 'copyistlaw26.BuffersFind'. -/
def buffersFindUptoCard : Claim7 := { stood := { row := buffersFindUptoRow, standIns := [], harness := (true, "f4461da59c67bd0b0d79a5caae30636d28326de3f63b60ba43096e6bee5f2a1c"), looks := true }, kinds := [], alts := [], laidByText := true, laidKinds := [.data, .data, .data, .data, .data, .pinned], laidTests := true, laidLooks := .later }
def BuffersFindUptoCardSaid : Prop := Claim7.holds Tryz.pinned (.plain (OpenSpec.upto buffersFindSpec)) buffersFindUptoCard

/-- THE SECOND FORM's CARD OF 'copyistlaw26.BuffersOrder'. -/
def buffersOrderUptoCard : Claim7 := { stood := { row := buffersOrderUptoRow, standIns := [], harness := (true, "f4461da59c67bd0b0d79a5caae30636d28326de3f63b60ba43096e6bee5f2a1c"), looks := true }, kinds := [], alts := [], laidByText := true, laidKinds := [.data, .data, .data, .data, .data, .pinned], laidTests := true, laidLooks := .later }
def BuffersOrderUptoCardSaid : Prop := Claim7.holds Tryz.pinned (.plain (OpenSpec.upto buffersOrderSpec)) buffersOrderUptoCard

/-- THE SECOND FORM's CARD OF 'copyistlaw26.BuffersScript'. -/
def buffersScriptUptoCard : Claim7 := { stood := { row := buffersScriptUptoRow, standIns := [], harness := (true, "f4461da59c67bd0b0d79a5caae30636d28326de3f63b60ba43096e6bee5f2a1c"), looks := true }, kinds := [], alts := [], laidByText := true, laidKinds := [.data, .data, .data, .data, .data, .pinned], laidTests := true, laidLooks := .later }
def BuffersScriptUptoCardSaid : Prop := Claim7.holds Tryz.pinned (.plain (OpenSpec.upto buffersScriptSpec)) buffersScriptUptoCard

/-- THE SECOND FORM's CARD OF 'copyistlaw26.BuffersKill'. -/
def buffersKillUptoCard : Claim7 := { stood := { row := buffersKillUptoRow, standIns := [], harness := (true, "f4461da59c67bd0b0d79a5caae30636d28326de3f63b60ba43096e6bee5f2a1c"), looks := true }, kinds := [], alts := [], laidByText := true, laidKinds := [.data, .data, .data, .data, .data, .pinned], laidTests := true, laidLooks := .later }
def BuffersKillUptoCardSaid : Prop := Claim7.holds Tryz.pinned (.plain (OpenSpec.upto buffersKillSpec)) buffersKillUptoCard

/-- THE SECOND FORM's CARD OF 'copyistlaw26.BuffersApart'. -/
def buffersApartUptoCard : Claim7 := { stood := { row := buffersApartUptoRow, standIns := [], harness := (true, "f4461da59c67bd0b0d79a5caae30636d28326de3f63b60ba43096e6bee5f2a1c"), looks := true }, kinds := [], alts := [], laidByText := true, laidKinds := [.data, .data, .data, .data, .data, .pinned], laidTests := true, laidLooks := .later }
def BuffersApartUptoCardSaid : Prop := Claim7.holds Tryz.pinned (.plain (OpenSpec.upto buffersApartSpec)) buffersApartUptoCard
end Rows
end Go.Proofs.YtnbhejbpofjamaaGreatDoor
