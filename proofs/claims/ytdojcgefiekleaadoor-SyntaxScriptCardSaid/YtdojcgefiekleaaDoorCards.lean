/-
  DERIVED. GIVEN WITH THE SEED: THE CARDS: each row of YtdojcgefiekleaaDoorRows.lean that lists a variable, with what it lists TIED to the program's text (the seventh form; the later family's looks); each row that meets fmt, with fmt's text TOLD by the authors' own Lean function (tested against real Go, not proved from fmt's source: count such statements apart). THE CARD IS WHAT COUNTS. Prove the row's statement (the work); the ties are given (YtdojcgefiekleaaDoorTie.lean); close each card by the builder's one call (the guide's Derived/Test/ToyasCard.lean, 'card_holds'). Laid BY PROGRAM, IN A SANDBOX (cutbox-door.mjs). By AI agents, Wed Nov 11 2026. No macro, syntax, notation, axiom, sorry.
-/
import Derived.Test.YtdojcgefiekleaaDoorRows
import GoSem.ClaimSeven
namespace Go.Proofs.YtdojcgefiekleaaDoor
namespace Rows

/-- THE TIED CARD OF 'copyistlaw21.SyntaxWords'. -/
def syntaxWordsCard : Claim7 := { stood := { row := syntaxWordsRow, standIns := [], harness := (true, "d9bd5d7fea23010989f9b0cc1ec6b4ca7267a9c1ddaae3dd68aba23aca77fd67"), looks := false }, kinds := [], alts := [], laidByText := true, laidKinds := [.data, .pinned], laidTests := true, laidLooks := .later }
def SyntaxWordsCardSaid : Prop := Claim7.holds Tryd.pinned (.plain (OpenSpec.ofChange syntaxWordsSpec)) syntaxWordsCard

/-- THE TIED CARD OF 'copyistlaw21.SyntaxMany'. -/
def syntaxManyCard : Claim7 := { stood := { row := syntaxManyRow, standIns := [], harness := (true, "d9bd5d7fea23010989f9b0cc1ec6b4ca7267a9c1ddaae3dd68aba23aca77fd67"), looks := false }, kinds := [], alts := [], laidByText := true, laidKinds := [.data, .pinned], laidTests := true, laidLooks := .later }
def SyntaxManyCardSaid : Prop := Claim7.holds Tryd.pinned (.plain (OpenSpec.ofChange syntaxManySpec)) syntaxManyCard

/-- THE TIED CARD OF 'copyistlaw21.SyntaxNamed'. -/
def syntaxNamedCard : Claim7 := { stood := { row := syntaxNamedRow, standIns := [], harness := (true, "d9bd5d7fea23010989f9b0cc1ec6b4ca7267a9c1ddaae3dd68aba23aca77fd67"), looks := false }, kinds := [], alts := [], laidByText := true, laidKinds := [.data, .pinned], laidTests := true, laidLooks := .later }
def SyntaxNamedCardSaid : Prop := Claim7.holds Tryd.pinned (.plain (OpenSpec.ofChange syntaxNamedSpec)) syntaxNamedCard

/-- THE TIED CARD OF 'copyistlaw21.SyntaxBuilt'. -/
def syntaxBuiltCard : Claim7 := { stood := { row := syntaxBuiltRow, standIns := [], harness := (true, "d9bd5d7fea23010989f9b0cc1ec6b4ca7267a9c1ddaae3dd68aba23aca77fd67"), looks := false }, kinds := [], alts := [], laidByText := true, laidKinds := [.data, .pinned], laidTests := true, laidLooks := .later }
def SyntaxBuiltCardSaid : Prop := Claim7.holds Tryd.pinned (.plain (OpenSpec.ofChange syntaxBuiltSpec)) syntaxBuiltCard

/-- THE TIED CARD OF 'copyistlaw21.SyntaxOver'. -/
def syntaxOverCard : Claim7 := { stood := { row := syntaxOverRow, standIns := [], harness := (true, "d9bd5d7fea23010989f9b0cc1ec6b4ca7267a9c1ddaae3dd68aba23aca77fd67"), looks := false }, kinds := [], alts := [], laidByText := true, laidKinds := [.data, .pinned], laidTests := true, laidLooks := .later }
def SyntaxOverCardSaid : Prop := Claim7.holds Tryd.pinned (.plain (OpenSpec.ofChange syntaxOverSpec)) syntaxOverCard

/-- THE TIED CARD OF 'copyistlaw21.SyntaxNames'. -/
def syntaxNamesCard : Claim7 := { stood := { row := syntaxNamesRow, standIns := [], harness := (true, "d9bd5d7fea23010989f9b0cc1ec6b4ca7267a9c1ddaae3dd68aba23aca77fd67"), looks := false }, kinds := [], alts := [], laidByText := true, laidKinds := [.data, .pinned], laidTests := true, laidLooks := .later }
def SyntaxNamesCardSaid : Prop := Claim7.holds Tryd.pinned (.plain (OpenSpec.ofChange syntaxNamesSpec)) syntaxNamesCard

/-- THE TIED CARD OF 'copyistlaw21.SyntaxScript'. -/
def syntaxScriptCard : Claim7 := { stood := { row := syntaxScriptRow, standIns := [], harness := (true, "d9bd5d7fea23010989f9b0cc1ec6b4ca7267a9c1ddaae3dd68aba23aca77fd67"), looks := false }, kinds := [], alts := [], laidByText := true, laidKinds := [.data, .pinned], laidTests := true, laidLooks := .later }
def SyntaxScriptCardSaid : Prop := Claim7.holds Tryd.pinned (.plain (OpenSpec.ofChange syntaxScriptSpec)) syntaxScriptCard

/-- THE TIED CARD OF 'copyistlaw21.SyntaxApart'. -/
def syntaxApartCard : Claim7 := { stood := { row := syntaxApartRow, standIns := [], harness := (true, "d9bd5d7fea23010989f9b0cc1ec6b4ca7267a9c1ddaae3dd68aba23aca77fd67"), looks := false }, kinds := [], alts := [], laidByText := true, laidKinds := [.data, .pinned], laidTests := true, laidLooks := .later }
def SyntaxApartCardSaid : Prop := Claim7.holds Tryd.pinned (.plain (OpenSpec.ofChange syntaxApartSpec)) syntaxApartCard

/-- THE SECOND FORM's CARD OF 'copyistlaw21.SyntaxWords'. -/
def syntaxWordsUptoCard : Claim7 := { stood := { row := syntaxWordsUptoRow, standIns := [], harness := (true, "d9bd5d7fea23010989f9b0cc1ec6b4ca7267a9c1ddaae3dd68aba23aca77fd67"), looks := false }, kinds := [], alts := [], laidByText := true, laidKinds := [.data, .pinned], laidTests := true, laidLooks := .later }
def SyntaxWordsUptoCardSaid : Prop := Claim7.holds Tryd.pinned (.plain (OpenSpec.upto syntaxWordsSpec)) syntaxWordsUptoCard

/-- THE SECOND FORM's CARD OF 'copyistlaw21.SyntaxMany'. -/
def syntaxManyUptoCard : Claim7 := { stood := { row := syntaxManyUptoRow, standIns := [], harness := (true, "d9bd5d7fea23010989f9b0cc1ec6b4ca7267a9c1ddaae3dd68aba23aca77fd67"), looks := false }, kinds := [], alts := [], laidByText := true, laidKinds := [.data, .pinned], laidTests := true, laidLooks := .later }
def SyntaxManyUptoCardSaid : Prop := Claim7.holds Tryd.pinned (.plain (OpenSpec.upto syntaxManySpec)) syntaxManyUptoCard

/-- THE SECOND FORM's CARD OF 'copyistlaw21.SyntaxNamed'. -/
def syntaxNamedUptoCard : Claim7 := { stood := { row := syntaxNamedUptoRow, standIns := [], harness := (true, "d9bd5d7fea23010989f9b0cc1ec6b4ca7267a9c1ddaae3dd68aba23aca77fd67"), looks := false }, kinds := [], alts := [], laidByText := true, laidKinds := [.data, .pinned], laidTests := true, laidLooks := .later }
def SyntaxNamedUptoCardSaid : Prop := Claim7.holds Tryd.pinned (.plain (OpenSpec.upto syntaxNamedSpec)) syntaxNamedUptoCard

/-- THE SECOND FORM's CARD OF 'copyistlaw21.SyntaxBuilt'. -/
def syntaxBuiltUptoCard : Claim7 := { stood := { row := syntaxBuiltUptoRow, standIns := [], harness := (true, "d9bd5d7fea23010989f9b0cc1ec6b4ca7267a9c1ddaae3dd68aba23aca77fd67"), looks := false }, kinds := [], alts := [], laidByText := true, laidKinds := [.data, .pinned], laidTests := true, laidLooks := .later }
def SyntaxBuiltUptoCardSaid : Prop := Claim7.holds Tryd.pinned (.plain (OpenSpec.upto syntaxBuiltSpec)) syntaxBuiltUptoCard

/-- THE SECOND FORM's CARD OF 'copyistlaw21.SyntaxOver'. -/
def syntaxOverUptoCard : Claim7 := { stood := { row := syntaxOverUptoRow, standIns := [], harness := (true, "d9bd5d7fea23010989f9b0cc1ec6b4ca7267a9c1ddaae3dd68aba23aca77fd67"), looks := false }, kinds := [], alts := [], laidByText := true, laidKinds := [.data, .pinned], laidTests := true, laidLooks := .later }
def SyntaxOverUptoCardSaid : Prop := Claim7.holds Tryd.pinned (.plain (OpenSpec.upto syntaxOverSpec)) syntaxOverUptoCard

/-- THE SECOND FORM's CARD OF 'copyistlaw21.SyntaxNames'. -/
def syntaxNamesUptoCard : Claim7 := { stood := { row := syntaxNamesUptoRow, standIns := [], harness := (true, "d9bd5d7fea23010989f9b0cc1ec6b4ca7267a9c1ddaae3dd68aba23aca77fd67"), looks := false }, kinds := [], alts := [], laidByText := true, laidKinds := [.data, .pinned], laidTests := true, laidLooks := .later }
def SyntaxNamesUptoCardSaid : Prop := Claim7.holds Tryd.pinned (.plain (OpenSpec.upto syntaxNamesSpec)) syntaxNamesUptoCard

/-- THE SECOND FORM's CARD OF 'copyistlaw21.SyntaxScript'. -/
def syntaxScriptUptoCard : Claim7 := { stood := { row := syntaxScriptUptoRow, standIns := [], harness := (true, "d9bd5d7fea23010989f9b0cc1ec6b4ca7267a9c1ddaae3dd68aba23aca77fd67"), looks := false }, kinds := [], alts := [], laidByText := true, laidKinds := [.data, .pinned], laidTests := true, laidLooks := .later }
def SyntaxScriptUptoCardSaid : Prop := Claim7.holds Tryd.pinned (.plain (OpenSpec.upto syntaxScriptSpec)) syntaxScriptUptoCard

/-- THE SECOND FORM's CARD OF 'copyistlaw21.SyntaxApart'. -/
def syntaxApartUptoCard : Claim7 := { stood := { row := syntaxApartUptoRow, standIns := [], harness := (true, "d9bd5d7fea23010989f9b0cc1ec6b4ca7267a9c1ddaae3dd68aba23aca77fd67"), looks := false }, kinds := [], alts := [], laidByText := true, laidKinds := [.data, .pinned], laidTests := true, laidLooks := .later }
def SyntaxApartUptoCardSaid : Prop := Claim7.holds Tryd.pinned (.plain (OpenSpec.upto syntaxApartSpec)) syntaxApartUptoCard
end Rows
end Go.Proofs.YtdojcgefiekleaaDoor
