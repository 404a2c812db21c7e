/-
  DERIVED. GIVEN WITH THE SEED: THE CARDS: each row of YtbljppcaikhjhaaDoorRows.lean that lists a variable, with what it lists TIED to the program's text (the seventh form; the later family's looks); each row that meets fmt, with fmt's text TOLD by the authors' own Lean function (tested against real Go, not proved from fmt's source: count such statements apart). THE CARD IS WHAT COUNTS. Prove the row's statement (the work); the ties are given (YtbljppcaikhjhaaDoorTie.lean); close each card by the builder's one call (the guide's Derived/Test/ToyasCard.lean, 'card_holds'). Laid BY PROGRAM, IN A SANDBOX (cutbox-door.mjs). By AI agents, Wed Nov 11 2026. No macro, syntax, notation, axiom, sorry.
-/
import Derived.Test.YtbljppcaikhjhaaDoorRows
import GoSem.ClaimSeven
namespace Go.Proofs.YtbljppcaikhjhaaDoor
namespace Rows

/-- THE TIED CARD OF 'copyistlaw15.GapPlain'. -/
def gapPlainCard : Claim7 := { stood := { row := gapPlainRow, standIns := [], harness := (true, "b2cf7136a95cefd28378dbf740cd39b8a505476ffc784b35787ea0d639b38dd8"), looks := false }, kinds := [], alts := [], laidByText := true, laidKinds := [.data, .pinned], laidTests := true, laidLooks := .later }
def GapPlainCardSaid : Prop := Claim7.holds Tryd.pinned (.plain (OpenSpec.ofChange gapPlainSpec)) gapPlainCard

/-- THE TIED CARD OF 'copyistlaw15.GapBack'. -/
def gapBackCard : Claim7 := { stood := { row := gapBackRow, standIns := [], harness := (true, "b2cf7136a95cefd28378dbf740cd39b8a505476ffc784b35787ea0d639b38dd8"), looks := false }, kinds := [], alts := [], laidByText := true, laidKinds := [.data, .pinned], laidTests := true, laidLooks := .later }
def GapBackCardSaid : Prop := Claim7.holds Tryd.pinned (.plain (OpenSpec.ofChange gapBackSpec)) gapBackCard

/-- THE TIED CARD OF 'copyistlaw15.GapFull'. -/
def gapFullCard : Claim7 := { stood := { row := gapFullRow, standIns := [], harness := (true, "b2cf7136a95cefd28378dbf740cd39b8a505476ffc784b35787ea0d639b38dd8"), looks := false }, kinds := [], alts := [], laidByText := true, laidKinds := [.data, .pinned], laidTests := true, laidLooks := .later }
def GapFullCardSaid : Prop := Claim7.holds Tryd.pinned (.plain (OpenSpec.ofChange gapFullSpec)) gapFullCard

/-- THE TIED CARD OF 'copyistlaw15.GapFinds'. -/
def gapFindsCard : Claim7 := { stood := { row := gapFindsRow, standIns := [], harness := (true, "b2cf7136a95cefd28378dbf740cd39b8a505476ffc784b35787ea0d639b38dd8"), looks := false }, kinds := [], alts := [], laidByText := true, laidKinds := [.data, .pinned], laidTests := true, laidLooks := .later }
def GapFindsCardSaid : Prop := Claim7.holds Tryd.pinned (.plain (OpenSpec.ofChange gapFindsSpec)) gapFindsCard

/-- THE TIED CARD OF 'copyistlaw15.GapLines'. -/
def gapLinesCard : Claim7 := { stood := { row := gapLinesRow, standIns := [], harness := (true, "b2cf7136a95cefd28378dbf740cd39b8a505476ffc784b35787ea0d639b38dd8"), looks := false }, kinds := [], alts := [], laidByText := true, laidKinds := [.data, .pinned], laidTests := true, laidLooks := .later }
def GapLinesCardSaid : Prop := Claim7.holds Tryd.pinned (.plain (OpenSpec.ofChange gapLinesSpec)) gapLinesCard

/-- THE TIED CARD OF 'copyistlaw15.GapNames'. -/
def gapNamesCard : Claim7 := { stood := { row := gapNamesRow, standIns := [], harness := (true, "b2cf7136a95cefd28378dbf740cd39b8a505476ffc784b35787ea0d639b38dd8"), looks := false }, kinds := [], alts := [], laidByText := true, laidKinds := [.data, .pinned], laidTests := true, laidLooks := .later }
def GapNamesCardSaid : Prop := Claim7.holds Tryd.pinned (.plain (OpenSpec.ofChange gapNamesSpec)) gapNamesCard

/-- THE TIED CARD OF 'copyistlaw15.GapScript'. -/
def gapScriptCard : Claim7 := { stood := { row := gapScriptRow, standIns := [], harness := (true, "b2cf7136a95cefd28378dbf740cd39b8a505476ffc784b35787ea0d639b38dd8"), looks := false }, kinds := [], alts := [], laidByText := true, laidKinds := [.data, .pinned], laidTests := true, laidLooks := .later }
def GapScriptCardSaid : Prop := Claim7.holds Tryd.pinned (.plain (OpenSpec.ofChange gapScriptSpec)) gapScriptCard

/-- THE TIED CARD OF 'copyistlaw15.GapApart'. -/
def gapApartCard : Claim7 := { stood := { row := gapApartRow, standIns := [], harness := (true, "b2cf7136a95cefd28378dbf740cd39b8a505476ffc784b35787ea0d639b38dd8"), looks := false }, kinds := [], alts := [], laidByText := true, laidKinds := [.data, .pinned], laidTests := true, laidLooks := .later }
def GapApartCardSaid : Prop := Claim7.holds Tryd.pinned (.plain (OpenSpec.ofChange gapApartSpec)) gapApartCard

/-- THE SECOND FORM's CARD OF 'copyistlaw15.GapPlain'. -/
def gapPlainUptoCard : Claim7 := { stood := { row := gapPlainUptoRow, standIns := [], harness := (true, "b2cf7136a95cefd28378dbf740cd39b8a505476ffc784b35787ea0d639b38dd8"), looks := false }, kinds := [], alts := [], laidByText := true, laidKinds := [.data, .pinned], laidTests := true, laidLooks := .later }
def GapPlainUptoCardSaid : Prop := Claim7.holds Tryd.pinned (.plain (OpenSpec.upto gapPlainSpec)) gapPlainUptoCard

/-- THE SECOND FORM's CARD OF 'copyistlaw15.GapBack'. -/
def gapBackUptoCard : Claim7 := { stood := { row := gapBackUptoRow, standIns := [], harness := (true, "b2cf7136a95cefd28378dbf740cd39b8a505476ffc784b35787ea0d639b38dd8"), looks := false }, kinds := [], alts := [], laidByText := true, laidKinds := [.data, .pinned], laidTests := true, laidLooks := .later }
def GapBackUptoCardSaid : Prop := Claim7.holds Tryd.pinned (.plain (OpenSpec.upto gapBackSpec)) gapBackUptoCard

/-- THE SECOND FORM's CARD OF 'copyistlaw15.GapFull'. -/
def gapFullUptoCard : Claim7 := { stood := { row := gapFullUptoRow, standIns := [], harness := (true, "b2cf7136a95cefd28378dbf740cd39b8a505476ffc784b35787ea0d639b38dd8"), looks := false }, kinds := [], alts := [], laidByText := true, laidKinds := [.data, .pinned], laidTests := true, laidLooks := .later }
def GapFullUptoCardSaid : Prop := Claim7.holds Tryd.pinned (.plain (OpenSpec.upto gapFullSpec)) gapFullUptoCard

/-- THE SECOND FORM's CARD OF 'copyistlaw15.GapFinds'. -/
def gapFindsUptoCard : Claim7 := { stood := { row := gapFindsUptoRow, standIns := [], harness := (true, "b2cf7136a95cefd28378dbf740cd39b8a505476ffc784b35787ea0d639b38dd8"), looks := false }, kinds := [], alts := [], laidByText := true, laidKinds := [.data, .pinned], laidTests := true, laidLooks := .later }
def GapFindsUptoCardSaid : Prop := Claim7.holds Tryd.pinned (.plain (OpenSpec.upto gapFindsSpec)) gapFindsUptoCard

/-- THE SECOND FORM's CARD OF 'copyistlaw15.GapLines'. -/
def gapLinesUptoCard : Claim7 := { stood := { row := gapLinesUptoRow, standIns := [], harness := (true, "b2cf7136a95cefd28378dbf740cd39b8a505476ffc784b35787ea0d639b38dd8"), looks := false }, kinds := [], alts := [], laidByText := true, laidKinds := [.data, .pinned], laidTests := true, laidLooks := .later }
def GapLinesUptoCardSaid : Prop := Claim7.holds Tryd.pinned (.plain (OpenSpec.upto gapLinesSpec)) gapLinesUptoCard

/-- THE SECOND FORM's CARD OF 'copyistlaw15.GapNames'. -/
def gapNamesUptoCard : Claim7 := { stood := { row := gapNamesUptoRow, standIns := [], harness := (true, "b2cf7136a95cefd28378dbf740cd39b8a505476ffc784b35787ea0d639b38dd8"), looks := false }, kinds := [], alts := [], laidByText := true, laidKinds := [.data, .pinned], laidTests := true, laidLooks := .later }
def GapNamesUptoCardSaid : Prop := Claim7.holds Tryd.pinned (.plain (OpenSpec.upto gapNamesSpec)) gapNamesUptoCard

/-- THE SECOND FORM's CARD OF 'copyistlaw15.GapScript'. -/
def gapScriptUptoCard : Claim7 := { stood := { row := gapScriptUptoRow, standIns := [], harness := (true, "b2cf7136a95cefd28378dbf740cd39b8a505476ffc784b35787ea0d639b38dd8"), looks := false }, kinds := [], alts := [], laidByText := true, laidKinds := [.data, .pinned], laidTests := true, laidLooks := .later }
def GapScriptUptoCardSaid : Prop := Claim7.holds Tryd.pinned (.plain (OpenSpec.upto gapScriptSpec)) gapScriptUptoCard

/-- THE SECOND FORM's CARD OF 'copyistlaw15.GapApart'. -/
def gapApartUptoCard : Claim7 := { stood := { row := gapApartUptoRow, standIns := [], harness := (true, "b2cf7136a95cefd28378dbf740cd39b8a505476ffc784b35787ea0d639b38dd8"), looks := false }, kinds := [], alts := [], laidByText := true, laidKinds := [.data, .pinned], laidTests := true, laidLooks := .later }
def GapApartUptoCardSaid : Prop := Claim7.holds Tryd.pinned (.plain (OpenSpec.upto gapApartSpec)) gapApartUptoCard
end Rows
end Go.Proofs.YtbljppcaikhjhaaDoor
