/-
  DERIVED. GIVEN WITH THE SEED: THE CARDS: each row of YtooehjbbphokbaaDoorRows.lean that lists a variable, with what it lists TIED to the program's text (the seventh form; the later family's looks); each row that meets fmt, with fmt's text TOLD by the authors' own Lean function (tested against real Go, not proved from fmt's source: count such statements apart). THE CARD IS WHAT COUNTS. Prove the row's statement (the work); the ties are given (YtooehjbbphokbaaDoorTie.lean); close each card by the builder's one call (the guide's Derived/Test/ToyasCard.lean, 'card_holds'). Laid BY PROGRAM, IN A SANDBOX (cutbox-door.mjs). By AI agents, Wed Nov 11 2026. No macro, syntax, notation, axiom, sorry.
-/
import Derived.Test.YtooehjbbphokbaaDoorRows
import GoSem.ClaimSeven
namespace Go.Proofs.YtooehjbbphokbaaDoor
namespace Rows

/-- THE TIED CARD OF 'rubricatorlaw02.LinesHex'. -/
def linesHexCard : Claim7 := { stood := { row := linesHexRow, standIns := [], harness := (true, "1be578f67f9eb25f45637978d35440c9701e17d1dcc7a2076cc061d000bae114"), looks := false }, kinds := [], alts := [], laidByText := true, laidKinds := [.data, .pinned], laidTests := true, laidLooks := .later }
def LinesHexCardSaid : Prop := Claim7.holds Tryd.pinned (.plain (OpenSpec.ofChange linesHexSpec)) linesHexCard

/-- THE TIED CARD OF 'rubricatorlaw02.LinesApart'. -/
def linesApartCard : Claim7 := { stood := { row := linesApartRow, standIns := [], harness := (true, "1be578f67f9eb25f45637978d35440c9701e17d1dcc7a2076cc061d000bae114"), looks := false }, kinds := [], alts := [], laidByText := true, laidKinds := [.data, .pinned], laidTests := true, laidLooks := .later }
def LinesApartCardSaid : Prop := Claim7.holds Tryd.pinned (.plain (OpenSpec.ofChange linesApartSpec)) linesApartCard

/-- THE TIED CARD OF 'rubricatorlaw02.LinesRead'. -/
def linesReadCard : Claim7 := { stood := { row := linesReadRow, standIns := [], harness := (true, "1be578f67f9eb25f45637978d35440c9701e17d1dcc7a2076cc061d000bae114"), looks := false }, kinds := [], alts := [], laidByText := true, laidKinds := [.data, .pinned], laidTests := true, laidLooks := .later }
def LinesReadCardSaid : Prop := Claim7.holds Tryd.pinned (.plain (OpenSpec.ofChange linesReadSpec)) linesReadCard

/-- THE TIED CARD OF 'rubricatorlaw05.NamesLoose'. -/
def namesLooseCard : Claim7 := { stood := { row := namesLooseRow, standIns := [], harness := (true, "1be578f67f9eb25f45637978d35440c9701e17d1dcc7a2076cc061d000bae114"), looks := false }, kinds := [], alts := [], laidByText := true, laidKinds := [.data, .pinned], laidTests := true, laidLooks := .later }
def NamesLooseCardSaid : Prop := Claim7.holds Tryd.pinned (.plain (OpenSpec.ofChange namesLooseSpec)) namesLooseCard

/-- THE TIED CARD OF 'rubricatorlaw05.NamesResolve'. -/
def namesResolveCard : Claim7 := { stood := { row := namesResolveRow, standIns := [], harness := (true, "1be578f67f9eb25f45637978d35440c9701e17d1dcc7a2076cc061d000bae114"), looks := false }, kinds := [], alts := [], laidByText := true, laidKinds := [.data, .pinned], laidTests := true, laidLooks := .later }
def NamesResolveCardSaid : Prop := Claim7.holds Tryd.pinned (.plain (OpenSpec.ofChange namesResolveSpec)) namesResolveCard

/-- THE TIED CARD OF 'rubricatorlaw05.NamesLong'. -/
def namesLongCard : Claim7 := { stood := { row := namesLongRow, standIns := [], harness := (true, "1be578f67f9eb25f45637978d35440c9701e17d1dcc7a2076cc061d000bae114"), looks := false }, kinds := [], alts := [], laidByText := true, laidKinds := [.data, .pinned], laidTests := true, laidLooks := .later }
def NamesLongCardSaid : Prop := Claim7.holds Tryd.pinned (.plain (OpenSpec.ofChange namesLongSpec)) namesLongCard

/-- THE TIED CARD OF 'rubricatorlaw05.NamesBack'. -/
def namesBackCard : Claim7 := { stood := { row := namesBackRow, standIns := [], harness := (true, "1be578f67f9eb25f45637978d35440c9701e17d1dcc7a2076cc061d000bae114"), looks := false }, kinds := [], alts := [], laidByText := true, laidKinds := [.data, .pinned], laidTests := true, laidLooks := .later }
def NamesBackCardSaid : Prop := Claim7.holds Tryd.pinned (.plain (OpenSpec.ofChange namesBackSpec)) namesBackCard

/-- THE TIED CARD OF 'rubricatorlaw02.LinesPrint'. -/
def linesPrintCard : Claim7 := { stood := { row := linesPrintRow, standIns := [], harness := (true, "1be578f67f9eb25f45637978d35440c9701e17d1dcc7a2076cc061d000bae114"), looks := false }, kinds := [], alts := [], laidByText := true, laidKinds := [.data, .pinned], laidTests := true, laidLooks := .later }
def LinesPrintCardSaid : Prop := Claim7.holds Tryd.pinned (.plain (OpenSpec.ofChange linesPrintSpec)) linesPrintCard

/-- THE TIED CARD OF 'rubricatorlaw02.LinesBack'. -/
def linesBackCard : Claim7 := { stood := { row := linesBackRow, standIns := [], harness := (true, "1be578f67f9eb25f45637978d35440c9701e17d1dcc7a2076cc061d000bae114"), looks := false }, kinds := [], alts := [], laidByText := true, laidKinds := [.data, .pinned], laidTests := true, laidLooks := .later }
def LinesBackCardSaid : Prop := Claim7.holds Tryd.pinned (.plain (OpenSpec.ofChange linesBackSpec)) linesBackCard

/-- THE TIED CARD OF 'rubricatorlaw02.LinesIdle'. -/
def linesIdleCard : Claim7 := { stood := { row := linesIdleRow, standIns := [], harness := (true, "1be578f67f9eb25f45637978d35440c9701e17d1dcc7a2076cc061d000bae114"), looks := false }, kinds := [], alts := [], laidByText := true, laidKinds := [.data, .pinned], laidTests := true, laidLooks := .later }
def LinesIdleCardSaid : Prop := Claim7.holds Tryd.pinned (.plain (OpenSpec.ofChange linesIdleSpec)) linesIdleCard

/-- THE TIED CARD OF 'rubricatorlaw05.NamesSame'. -/
def namesSameCard : Claim7 := { stood := { row := namesSameRow, standIns := [], harness := (true, "1be578f67f9eb25f45637978d35440c9701e17d1dcc7a2076cc061d000bae114"), looks := false }, kinds := [], alts := [], laidByText := true, laidKinds := [.data, .pinned, .pinned], laidTests := true, laidLooks := .later }
def NamesSameCardSaid : Prop := Claim7.holds Tryd.pinned (.plain (OpenSpec.ofChange namesSameSpec)) namesSameCard

/-- THE SECOND FORM's CARD OF 'rubricatorlaw02.LinesHex'. -/
def linesHexUptoCard : Claim7 := { stood := { row := linesHexUptoRow, standIns := [], harness := (true, "1be578f67f9eb25f45637978d35440c9701e17d1dcc7a2076cc061d000bae114"), looks := false }, kinds := [], alts := [], laidByText := true, laidKinds := [.data, .pinned], laidTests := true, laidLooks := .later }
def LinesHexUptoCardSaid : Prop := Claim7.holds Tryd.pinned (.plain (OpenSpec.upto linesHexSpec)) linesHexUptoCard

/-- THE SECOND FORM's CARD OF 'rubricatorlaw02.LinesApart'. -/
def linesApartUptoCard : Claim7 := { stood := { row := linesApartUptoRow, standIns := [], harness := (true, "1be578f67f9eb25f45637978d35440c9701e17d1dcc7a2076cc061d000bae114"), looks := false }, kinds := [], alts := [], laidByText := true, laidKinds := [.data, .pinned], laidTests := true, laidLooks := .later }
def LinesApartUptoCardSaid : Prop := Claim7.holds Tryd.pinned (.plain (OpenSpec.upto linesApartSpec)) linesApartUptoCard

/-- THE SECOND FORM's CARD OF 'rubricatorlaw02.LinesRead'. -/
def linesReadUptoCard : Claim7 := { stood := { row := linesReadUptoRow, standIns := [], harness := (true, "1be578f67f9eb25f45637978d35440c9701e17d1dcc7a2076cc061d000bae114"), looks := false }, kinds := [], alts := [], laidByText := true, laidKinds := [.data, .pinned], laidTests := true, laidLooks := .later }
def LinesReadUptoCardSaid : Prop := Claim7.holds Tryd.pinned (.plain (OpenSpec.upto linesReadSpec)) linesReadUptoCard

/-- THE SECOND FORM's CARD OF 'rubricatorlaw05.NamesLoose'. -/
def namesLooseUptoCard : Claim7 := { stood := { row := namesLooseUptoRow, standIns := [], harness := (true, "1be578f67f9eb25f45637978d35440c9701e17d1dcc7a2076cc061d000bae114"), looks := false }, kinds := [], alts := [], laidByText := true, laidKinds := [.data, .pinned], laidTests := true, laidLooks := .later }
def NamesLooseUptoCardSaid : Prop := Claim7.holds Tryd.pinned (.plain (OpenSpec.upto namesLooseSpec)) namesLooseUptoCard

/-- THE SECOND FORM's CARD OF 'rubricatorlaw05.NamesResolve'. -/
def namesResolveUptoCard : Claim7 := { stood := { row := namesResolveUptoRow, standIns := [], harness := (true, "1be578f67f9eb25f45637978d35440c9701e17d1dcc7a2076cc061d000bae114"), looks := false }, kinds := [], alts := [], laidByText := true, laidKinds := [.data, .pinned], laidTests := true, laidLooks := .later }
def NamesResolveUptoCardSaid : Prop := Claim7.holds Tryd.pinned (.plain (OpenSpec.upto namesResolveSpec)) namesResolveUptoCard

/-- THE SECOND FORM's CARD OF 'rubricatorlaw05.NamesLong'. -/
def namesLongUptoCard : Claim7 := { stood := { row := namesLongUptoRow, standIns := [], harness := (true, "1be578f67f9eb25f45637978d35440c9701e17d1dcc7a2076cc061d000bae114"), looks := false }, kinds := [], alts := [], laidByText := true, laidKinds := [.data, .pinned], laidTests := true, laidLooks := .later }
def NamesLongUptoCardSaid : Prop := Claim7.holds Tryd.pinned (.plain (OpenSpec.upto namesLongSpec)) namesLongUptoCard

/-- THE SECOND FORM's CARD OF 'rubricatorlaw05.NamesBack'. -/
def namesBackUptoCard : Claim7 := { stood := { row := namesBackUptoRow, standIns := [], harness := (true, "1be578f67f9eb25f45637978d35440c9701e17d1dcc7a2076cc061d000bae114"), looks := false }, kinds := [], alts := [], laidByText := true, laidKinds := [.data, .pinned], laidTests := true, laidLooks := .later }
def NamesBackUptoCardSaid : Prop := Claim7.holds Tryd.pinned (.plain (OpenSpec.upto namesBackSpec)) namesBackUptoCard

/-- THE SECOND FORM's CARD OF 'rubricatorlaw02.LinesPrint'. -/
def linesPrintUptoCard : Claim7 := { stood := { row := linesPrintUptoRow, standIns := [], harness := (true, "1be578f67f9eb25f45637978d35440c9701e17d1dcc7a2076cc061d000bae114"), looks := false }, kinds := [], alts := [], laidByText := true, laidKinds := [.data, .pinned], laidTests := true, laidLooks := .later }
def LinesPrintUptoCardSaid : Prop := Claim7.holds Tryd.pinned (.plain (OpenSpec.upto linesPrintSpec)) linesPrintUptoCard

/-- THE SECOND FORM's CARD OF 'rubricatorlaw02.LinesBack'. -/
def linesBackUptoCard : Claim7 := { stood := { row := linesBackUptoRow, standIns := [], harness := (true, "1be578f67f9eb25f45637978d35440c9701e17d1dcc7a2076cc061d000bae114"), looks := false }, kinds := [], alts := [], laidByText := true, laidKinds := [.data, .pinned], laidTests := true, laidLooks := .later }
def LinesBackUptoCardSaid : Prop := Claim7.holds Tryd.pinned (.plain (OpenSpec.upto linesBackSpec)) linesBackUptoCard

/-- THE SECOND FORM's CARD OF 'rubricatorlaw02.LinesIdle'. -/
def linesIdleUptoCard : Claim7 := { stood := { row := linesIdleUptoRow, standIns := [], harness := (true, "1be578f67f9eb25f45637978d35440c9701e17d1dcc7a2076cc061d000bae114"), looks := false }, kinds := [], alts := [], laidByText := true, laidKinds := [.data, .pinned], laidTests := true, laidLooks := .later }
def LinesIdleUptoCardSaid : Prop := Claim7.holds Tryd.pinned (.plain (OpenSpec.upto linesIdleSpec)) linesIdleUptoCard

/-- THE SECOND FORM's CARD OF 'rubricatorlaw05.NamesSame'. -/
def namesSameUptoCard : Claim7 := { stood := { row := namesSameUptoRow, standIns := [], harness := (true, "1be578f67f9eb25f45637978d35440c9701e17d1dcc7a2076cc061d000bae114"), looks := false }, kinds := [], alts := [], laidByText := true, laidKinds := [.data, .pinned, .pinned], laidTests := true, laidLooks := .later }
def NamesSameUptoCardSaid : Prop := Claim7.holds Tryd.pinned (.plain (OpenSpec.upto namesSameSpec)) namesSameUptoCard
end Rows
end Go.Proofs.YtooehjbbphokbaaDoor
