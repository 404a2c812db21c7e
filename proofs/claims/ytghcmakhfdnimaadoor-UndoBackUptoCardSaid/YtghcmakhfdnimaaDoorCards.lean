/-
  DERIVED. GIVEN WITH THE SEED: THE CARDS: each row of YtghcmakhfdnimaaDoorRows.lean that lists a variable, with what it lists TIED to the program's text (the seventh form; the later family's looks); each row that meets fmt, with fmt's text TOLD by the authors' own Lean function (tested against real Go, not proved from fmt's source: count such statements apart). THE CARD IS WHAT COUNTS. Prove the row's statement (the work); the ties are given (YtghcmakhfdnimaaDoorTie.lean); close each card by the builder's one call (the guide's Derived/Test/ToyasCard.lean, 'card_holds'). Laid BY PROGRAM, IN A SANDBOX (cutbox-door.mjs). By AI agents, Wed Nov 11 2026. No macro, syntax, notation, axiom, sorry.
-/
import Derived.Test.YtghcmakhfdnimaaDoorRows
import GoSem.ClaimSeven
namespace Go.Proofs.YtghcmakhfdnimaaDoor
namespace Rows

/-- THE TIED CARD OF 'copyistlaw19.UndoBack'. -/
def undoBackCard : Claim7 := { stood := { row := undoBackRow, standIns := [], harness := (true, "7271896e0e860b6eeb82cc534dfc20c5c631929715daf455f62cf9c5a44b5740"), looks := false }, kinds := [], alts := [], laidByText := true, laidKinds := [.data, .data, .pinned], laidTests := true, laidLooks := .later }
def UndoBackCardSaid : Prop := Claim7.holds Tryd.pinned (.plain (OpenSpec.ofChange undoBackSpec)) undoBackCard

/-- THE TIED CARD OF 'copyistlaw19.UndoGroups'. -/
def undoGroupsCard : Claim7 := { stood := { row := undoGroupsRow, standIns := [], harness := (true, "7271896e0e860b6eeb82cc534dfc20c5c631929715daf455f62cf9c5a44b5740"), looks := false }, kinds := [], alts := [], laidByText := true, laidKinds := [.data, .data, .pinned], laidTests := true, laidLooks := .later }
def UndoGroupsCardSaid : Prop := Claim7.holds Tryd.pinned (.plain (OpenSpec.ofChange undoGroupsSpec)) undoGroupsCard

/-- THE TIED CARD OF 'copyistlaw19.UndoLimit'. -/
def undoLimitCard : Claim7 := { stood := { row := undoLimitRow, standIns := [], harness := (true, "7271896e0e860b6eeb82cc534dfc20c5c631929715daf455f62cf9c5a44b5740"), looks := false }, kinds := [], alts := [], laidByText := true, laidKinds := [.data, .data, .pinned], laidTests := true, laidLooks := .later }
def UndoLimitCardSaid : Prop := Claim7.holds Tryd.pinned (.plain (OpenSpec.ofChange undoLimitSpec)) undoLimitCard

/-- THE TIED CARD OF 'copyistlaw19.UndoNames'. -/
def undoNamesCard : Claim7 := { stood := { row := undoNamesRow, standIns := [], harness := (true, "7271896e0e860b6eeb82cc534dfc20c5c631929715daf455f62cf9c5a44b5740"), looks := false }, kinds := [], alts := [], laidByText := true, laidKinds := [.data, .data, .pinned], laidTests := true, laidLooks := .later }
def UndoNamesCardSaid : Prop := Claim7.holds Tryd.pinned (.plain (OpenSpec.ofChange undoNamesSpec)) undoNamesCard

/-- THE TIED CARD OF 'copyistlaw19.UndoScript'. -/
def undoScriptCard : Claim7 := { stood := { row := undoScriptRow, standIns := [], harness := (true, "7271896e0e860b6eeb82cc534dfc20c5c631929715daf455f62cf9c5a44b5740"), looks := false }, kinds := [], alts := [], laidByText := true, laidKinds := [.data, .data, .pinned], laidTests := true, laidLooks := .later }
def UndoScriptCardSaid : Prop := Claim7.holds Tryd.pinned (.plain (OpenSpec.ofChange undoScriptSpec)) undoScriptCard

/-- THE TIED CARD OF 'copyistlaw19.UndoApart'. -/
def undoApartCard : Claim7 := { stood := { row := undoApartRow, standIns := [], harness := (true, "7271896e0e860b6eeb82cc534dfc20c5c631929715daf455f62cf9c5a44b5740"), looks := false }, kinds := [], alts := [], laidByText := true, laidKinds := [.data, .data, .pinned], laidTests := true, laidLooks := .later }
def UndoApartCardSaid : Prop := Claim7.holds Tryd.pinned (.plain (OpenSpec.ofChange undoApartSpec)) undoApartCard

/-- THE SECOND FORM's CARD OF 'copyistlaw19.UndoBack'. -/
def undoBackUptoCard : Claim7 := { stood := { row := undoBackUptoRow, standIns := [], harness := (true, "7271896e0e860b6eeb82cc534dfc20c5c631929715daf455f62cf9c5a44b5740"), looks := false }, kinds := [], alts := [], laidByText := true, laidKinds := [.data, .data, .pinned], laidTests := true, laidLooks := .later }
def UndoBackUptoCardSaid : Prop := Claim7.holds Tryd.pinned (.plain (OpenSpec.upto undoBackSpec)) undoBackUptoCard

/-- THE SECOND FORM's CARD OF 'copyistlaw19.UndoGroups'. -/
def undoGroupsUptoCard : Claim7 := { stood := { row := undoGroupsUptoRow, standIns := [], harness := (true, "7271896e0e860b6eeb82cc534dfc20c5c631929715daf455f62cf9c5a44b5740"), looks := false }, kinds := [], alts := [], laidByText := true, laidKinds := [.data, .data, .pinned], laidTests := true, laidLooks := .later }
def UndoGroupsUptoCardSaid : Prop := Claim7.holds Tryd.pinned (.plain (OpenSpec.upto undoGroupsSpec)) undoGroupsUptoCard

/-- THE SECOND FORM's CARD OF 'copyistlaw19.UndoLimit'. -/
def undoLimitUptoCard : Claim7 := { stood := { row := undoLimitUptoRow, standIns := [], harness := (true, "7271896e0e860b6eeb82cc534dfc20c5c631929715daf455f62cf9c5a44b5740"), looks := false }, kinds := [], alts := [], laidByText := true, laidKinds := [.data, .data, .pinned], laidTests := true, laidLooks := .later }
def UndoLimitUptoCardSaid : Prop := Claim7.holds Tryd.pinned (.plain (OpenSpec.upto undoLimitSpec)) undoLimitUptoCard

/-- THE SECOND FORM's CARD OF 'copyistlaw19.UndoNames'. -/
def undoNamesUptoCard : Claim7 := { stood := { row := undoNamesUptoRow, standIns := [], harness := (true, "7271896e0e860b6eeb82cc534dfc20c5c631929715daf455f62cf9c5a44b5740"), looks := false }, kinds := [], alts := [], laidByText := true, laidKinds := [.data, .data, .pinned], laidTests := true, laidLooks := .later }
def UndoNamesUptoCardSaid : Prop := Claim7.holds Tryd.pinned (.plain (OpenSpec.upto undoNamesSpec)) undoNamesUptoCard

/-- THE SECOND FORM's CARD OF 'copyistlaw19.UndoScript'. -/
def undoScriptUptoCard : Claim7 := { stood := { row := undoScriptUptoRow, standIns := [], harness := (true, "7271896e0e860b6eeb82cc534dfc20c5c631929715daf455f62cf9c5a44b5740"), looks := false }, kinds := [], alts := [], laidByText := true, laidKinds := [.data, .data, .pinned], laidTests := true, laidLooks := .later }
def UndoScriptUptoCardSaid : Prop := Claim7.holds Tryd.pinned (.plain (OpenSpec.upto undoScriptSpec)) undoScriptUptoCard

/-- THE SECOND FORM's CARD OF 'copyistlaw19.UndoApart'. -/
def undoApartUptoCard : Claim7 := { stood := { row := undoApartUptoRow, standIns := [], harness := (true, "7271896e0e860b6eeb82cc534dfc20c5c631929715daf455f62cf9c5a44b5740"), looks := false }, kinds := [], alts := [], laidByText := true, laidKinds := [.data, .data, .pinned], laidTests := true, laidLooks := .later }
def UndoApartUptoCardSaid : Prop := Claim7.holds Tryd.pinned (.plain (OpenSpec.upto undoApartSpec)) undoApartUptoCard
end Rows
end Go.Proofs.YtghcmakhfdnimaaDoor
