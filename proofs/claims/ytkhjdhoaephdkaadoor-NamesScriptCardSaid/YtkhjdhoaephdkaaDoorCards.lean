/-
  DERIVED. GIVEN WITH THE SEED: THE CARDS: each row of YtkhjdhoaephdkaaDoorRows.lean that lists a variable, with what it lists TIED to the program's text (the seventh form; the later family's looks); each row that meets fmt, with fmt's text TOLD by the authors' own Lean function (tested against real Go, not proved from fmt's source: count such statements apart). THE CARD IS WHAT COUNTS. Prove the row's statement (the work); the ties are given (YtkhjdhoaephdkaaDoorTie.lean); close each card by the builder's one call (the guide's Derived/Test/ToyasCard.lean, 'card_holds'). Laid BY PROGRAM, IN A SANDBOX (cutbox-door.mjs). By AI agents, Wed Nov 11 2026. No macro, syntax, notation, axiom, sorry.
-/
import Derived.Test.YtkhjdhoaephdkaaDoorRows
import GoSem.ClaimSeven
namespace Go.Proofs.YtkhjdhoaephdkaaDoor
namespace Rows

/-- THE TIED CARD OF 'copyistlaw03.NamesFull'. -/
def namesFullCard : Claim7 := { stood := { row := namesFullRow, standIns := [], harness := (true, "3dcfba1d01b9068efa2a5fc9e126b39b5696c3d017507df77d44199daa3340e0"), looks := true }, kinds := [], alts := [], laidByText := true, laidKinds := [.data, .pinned], laidTests := true, laidLooks := .later }
def NamesFullCardSaid : Prop := Claim7.holds Tryd.pinned (.plain (OpenSpec.ofChange namesFullSpec)) namesFullCard

/-- THE TIED CARD OF 'copyistlaw03.NamesOnce'. -/
def namesOnceCard : Claim7 := { stood := { row := namesOnceRow, standIns := [], harness := (true, "3dcfba1d01b9068efa2a5fc9e126b39b5696c3d017507df77d44199daa3340e0"), looks := true }, kinds := [], alts := [], laidByText := true, laidKinds := [.data, .pinned], laidTests := true, laidLooks := .later }
def NamesOnceCardSaid : Prop := Claim7.holds Tryd.pinned (.plain (OpenSpec.ofChange namesOnceSpec)) namesOnceCard

/-- THE TIED CARD OF 'copyistlaw03.NamesNames'. -/
def namesNamesCard : Claim7 := { stood := { row := namesNamesRow, standIns := [], harness := (true, "3dcfba1d01b9068efa2a5fc9e126b39b5696c3d017507df77d44199daa3340e0"), looks := true }, kinds := [], alts := [], laidByText := true, laidKinds := [.data, .pinned], laidTests := true, laidLooks := .later }
def NamesNamesCardSaid : Prop := Claim7.holds Tryd.pinned (.plain (OpenSpec.ofChange namesNamesSpec)) namesNamesCard

/-- THE TIED CARD OF 'copyistlaw03.NamesApart'. -/
def namesApartCard : Claim7 := { stood := { row := namesApartRow, standIns := [], harness := (true, "3dcfba1d01b9068efa2a5fc9e126b39b5696c3d017507df77d44199daa3340e0"), looks := true }, kinds := [], alts := [], laidByText := true, laidKinds := [.data, .pinned], laidTests := true, laidLooks := .later }
def NamesApartCardSaid : Prop := Claim7.holds Tryd.pinned (.plain (OpenSpec.ofChange namesApartSpec)) namesApartCard

/-- THE TIED CARD OF 'copyistlaw03.NamesCells'. -/
def namesCellsCard : Claim7 := { stood := { row := namesCellsRow, standIns := [], harness := (true, "3dcfba1d01b9068efa2a5fc9e126b39b5696c3d017507df77d44199daa3340e0"), looks := true }, kinds := [], alts := [], laidByText := true, laidKinds := [.data, .pinned], laidTests := true, laidLooks := .later }
def NamesCellsCardSaid : Prop := Claim7.holds Tryd.pinned (.plain (OpenSpec.ofChange namesCellsSpec)) namesCellsCard

/-- THE TIED CARD OF 'copyistlaw03.NamesScript'. -/
def namesScriptCard : Claim7 := { stood := { row := namesScriptRow, standIns := [], harness := (true, "3dcfba1d01b9068efa2a5fc9e126b39b5696c3d017507df77d44199daa3340e0"), looks := true }, kinds := [], alts := [], laidByText := true, laidKinds := [.data, .pinned], laidTests := true, laidLooks := .later }
def NamesScriptCardSaid : Prop := Claim7.holds Tryd.pinned (.plain (OpenSpec.ofChange namesScriptSpec)) namesScriptCard

/-- THE SECOND FORM's CARD OF 'copyistlaw03.NamesFull'. -/
def namesFullUptoCard : Claim7 := { stood := { row := namesFullUptoRow, standIns := [], harness := (true, "3dcfba1d01b9068efa2a5fc9e126b39b5696c3d017507df77d44199daa3340e0"), looks := true }, kinds := [], alts := [], laidByText := true, laidKinds := [.data, .pinned], laidTests := true, laidLooks := .later }
def NamesFullUptoCardSaid : Prop := Claim7.holds Tryd.pinned (.plain (OpenSpec.upto namesFullSpec)) namesFullUptoCard

/-- THE SECOND FORM's CARD OF 'copyistlaw03.NamesOnce'. -/
def namesOnceUptoCard : Claim7 := { stood := { row := namesOnceUptoRow, standIns := [], harness := (true, "3dcfba1d01b9068efa2a5fc9e126b39b5696c3d017507df77d44199daa3340e0"), looks := true }, kinds := [], alts := [], laidByText := true, laidKinds := [.data, .pinned], laidTests := true, laidLooks := .later }
def NamesOnceUptoCardSaid : Prop := Claim7.holds Tryd.pinned (.plain (OpenSpec.upto namesOnceSpec)) namesOnceUptoCard

/-- THE SECOND FORM's CARD OF 'copyistlaw03.NamesNames'. -/
def namesNamesUptoCard : Claim7 := { stood := { row := namesNamesUptoRow, standIns := [], harness := (true, "3dcfba1d01b9068efa2a5fc9e126b39b5696c3d017507df77d44199daa3340e0"), looks := true }, kinds := [], alts := [], laidByText := true, laidKinds := [.data, .pinned], laidTests := true, laidLooks := .later }
def NamesNamesUptoCardSaid : Prop := Claim7.holds Tryd.pinned (.plain (OpenSpec.upto namesNamesSpec)) namesNamesUptoCard

/-- THE SECOND FORM's CARD OF 'copyistlaw03.NamesApart'. -/
def namesApartUptoCard : Claim7 := { stood := { row := namesApartUptoRow, standIns := [], harness := (true, "3dcfba1d01b9068efa2a5fc9e126b39b5696c3d017507df77d44199daa3340e0"), looks := true }, kinds := [], alts := [], laidByText := true, laidKinds := [.data, .pinned], laidTests := true, laidLooks := .later }
def NamesApartUptoCardSaid : Prop := Claim7.holds Tryd.pinned (.plain (OpenSpec.upto namesApartSpec)) namesApartUptoCard

/-- THE SECOND FORM's CARD OF 'copyistlaw03.NamesCells'. -/
def namesCellsUptoCard : Claim7 := { stood := { row := namesCellsUptoRow, standIns := [], harness := (true, "3dcfba1d01b9068efa2a5fc9e126b39b5696c3d017507df77d44199daa3340e0"), looks := true }, kinds := [], alts := [], laidByText := true, laidKinds := [.data, .pinned], laidTests := true, laidLooks := .later }
def NamesCellsUptoCardSaid : Prop := Claim7.holds Tryd.pinned (.plain (OpenSpec.upto namesCellsSpec)) namesCellsUptoCard

/-- THE SECOND FORM's CARD OF 'copyistlaw03.NamesScript'. -/
def namesScriptUptoCard : Claim7 := { stood := { row := namesScriptUptoRow, standIns := [], harness := (true, "3dcfba1d01b9068efa2a5fc9e126b39b5696c3d017507df77d44199daa3340e0"), looks := true }, kinds := [], alts := [], laidByText := true, laidKinds := [.data, .pinned], laidTests := true, laidLooks := .later }
def NamesScriptUptoCardSaid : Prop := Claim7.holds Tryd.pinned (.plain (OpenSpec.upto namesScriptSpec)) namesScriptUptoCard
end Rows
end Go.Proofs.YtkhjdhoaephdkaaDoor
