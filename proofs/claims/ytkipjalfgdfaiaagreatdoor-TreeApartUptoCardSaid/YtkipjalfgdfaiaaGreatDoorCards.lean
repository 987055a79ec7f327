/-
  DERIVED. GIVEN WITH THE SEED: THE CARDS: each row of YtkipjalfgdfaiaaGreatDoorRows.lean that lists a variable, with what it lists TIED to the program's text (the seventh form; the later family's looks); each row that meets fmt, with fmt's text TOLD by the authors' own Lean function (tested against real Go, not proved from fmt's source: count such statements apart). THE CARD IS WHAT COUNTS. Prove the row's statement (the work); the ties are given (YtkipjalfgdfaiaaGreatDoorTie.lean); close each card by the builder's one call (the guide's Derived/Test/ToyasCard.lean, 'card_holds'). Laid BY PROGRAM, IN A SANDBOX (cutbox-door.mjs). By AI agents, Wed Nov 11 2026. No macro, syntax, notation, axiom, sorry.
-/
import Derived.Test.YtkipjalfgdfaiaaGreatDoorRows
import GoSem.ClaimSeven
namespace Go.Proofs.YtkipjalfgdfaiaaGreatDoor
namespace Rows

/-- THE TIED CARD OF 'rubricatorlaw14.TreeApart'. -/
def treeApartCard : Claim7 := { stood := { row := treeApartRow, standIns := [], harness := (true, "457cd3f8ccdd20717e4f1df5db6b672fd4af85944b0b9d28fb2c5d0afdab10d1"), looks := true }, kinds := [], alts := [], laidByText := true, laidKinds := [.data, .data, .data, .data, .pinned, .pinned], laidTests := true, laidLooks := .later }
def TreeApartCardSaid : Prop := Claim7.holds Tryz.pinned (.plain (OpenSpec.ofChange treeApartSpec)) treeApartCard

/-- THE TIED CARD OF 'rubricatorlaw14.TreeBounds'. -/
def treeBoundsCard : Claim7 := { stood := { row := treeBoundsRow, standIns := [], harness := (true, "457cd3f8ccdd20717e4f1df5db6b672fd4af85944b0b9d28fb2c5d0afdab10d1"), looks := true }, kinds := [], alts := [], laidByText := true, laidKinds := [.data, .data, .data, .data, .pinned, .pinned], laidTests := true, laidLooks := .later }
def TreeBoundsCardSaid : Prop := Claim7.holds Tryz.pinned (.plain (OpenSpec.ofChange treeBoundsSpec)) treeBoundsCard

/-- THE TIED CARD OF 'rubricatorlaw14.TreeWraps'. -/
def treeWrapsCard : Claim7 := { stood := { row := treeWrapsRow, standIns := [], harness := (true, "457cd3f8ccdd20717e4f1df5db6b672fd4af85944b0b9d28fb2c5d0afdab10d1"), looks := true }, kinds := [], alts := [], laidByText := true, laidKinds := [.data, .data, .data, .data, .pinned, .pinned], laidTests := true, laidLooks := .later }
def TreeWrapsCardSaid : Prop := Claim7.holds Tryz.pinned (.plain (OpenSpec.ofChange treeWrapsSpec)) treeWrapsCard

/-- THE TIED CARD OF 'rubricatorlaw13.TokenStands'. -/
def tokenStandsCard : Claim7 := { stood := { row := tokenStandsRow, standIns := [], harness := (true, "457cd3f8ccdd20717e4f1df5db6b672fd4af85944b0b9d28fb2c5d0afdab10d1"), looks := true }, kinds := [], alts := [], laidByText := true, laidKinds := [.data, .data, .data, .data, .sentinel, .sentinel, .pinned], laidTests := true, laidLooks := .later }
def TokenStandsCardSaid : Prop := Claim7.holds Tryz.pinned (.plain (OpenSpec.ofChange tokenStandsSpec)) tokenStandsCard

/-- THE TIED CARD OF 'rubricatorlaw13.TokenAhead'. -/
def tokenAheadCard : Claim7 := { stood := { row := tokenAheadRow, standIns := [], harness := (true, "457cd3f8ccdd20717e4f1df5db6b672fd4af85944b0b9d28fb2c5d0afdab10d1"), looks := true }, kinds := [], alts := [], laidByText := true, laidKinds := [.data, .data, .data, .data, .sentinel, .sentinel, .pinned], laidTests := true, laidLooks := .later }
def TokenAheadCardSaid : Prop := Claim7.holds Tryz.pinned (.plain (OpenSpec.ofChange tokenAheadSpec)) tokenAheadCard

/-- THE TIED CARD OF 'rubricatorlaw13.TokenProps'. -/
def tokenPropsCard : Claim7 := { stood := { row := tokenPropsRow, standIns := [], harness := (true, "457cd3f8ccdd20717e4f1df5db6b672fd4af85944b0b9d28fb2c5d0afdab10d1"), looks := true }, kinds := [], alts := [], laidByText := true, laidKinds := [.data, .data, .data, .data, .sentinel, .sentinel, .pinned], laidTests := true, laidLooks := .later }
def TokenPropsCardSaid : Prop := Claim7.holds Tryz.pinned (.plain (OpenSpec.ofChange tokenPropsSpec)) tokenPropsCard

/-- THE TIED CARD OF 'rubricatorlaw13.TokenPrint'. -/
def tokenPrintCard : Claim7 := { stood := { row := tokenPrintRow, standIns := [], harness := (true, "457cd3f8ccdd20717e4f1df5db6b672fd4af85944b0b9d28fb2c5d0afdab10d1"), looks := true }, kinds := [], alts := [], laidByText := true, laidKinds := [.data, .data, .data, .data, .sentinel, .sentinel, .pinned, .pinned], laidTests := true, laidLooks := .later }
def TokenPrintCardSaid : Prop := Claim7.holds Tryz.pinned (.plain (OpenSpec.ofChange tokenPrintSpec)) tokenPrintCard

/-- THE TIED CARD OF 'rubricatorlaw13.TokenBack'. -/
def tokenBackCard : Claim7 := { stood := { row := tokenBackRow, standIns := [], harness := (true, "457cd3f8ccdd20717e4f1df5db6b672fd4af85944b0b9d28fb2c5d0afdab10d1"), looks := true }, kinds := [], alts := [], laidByText := true, laidKinds := [.data, .data, .data, .data, .sentinel, .sentinel, .pinned, .pinned], laidTests := true, laidLooks := .later }
def TokenBackCardSaid : Prop := Claim7.holds Tryz.pinned (.plain (OpenSpec.ofChange tokenBackSpec)) tokenBackCard

/-- THE TIED CARD OF 'rubricatorlaw13.TokenJoins'. -/
def tokenJoinsCard : Claim7 := { stood := { row := tokenJoinsRow, standIns := [], harness := (true, "457cd3f8ccdd20717e4f1df5db6b672fd4af85944b0b9d28fb2c5d0afdab10d1"), looks := true }, kinds := [], alts := [], laidByText := true, laidKinds := [.data, .data, .data, .data, .sentinel, .sentinel, .pinned, .pinned], laidTests := true, laidLooks := .later }
def TokenJoinsCardSaid : Prop := Claim7.holds Tryz.pinned (.plain (OpenSpec.ofChange tokenJoinsSpec)) tokenJoinsCard

/-- THE SECOND FORM's CARD OF 'rubricatorlaw14.TreeApart'. -/
def treeApartUptoCard : Claim7 := { stood := { row := treeApartUptoRow, standIns := [], harness := (true, "457cd3f8ccdd20717e4f1df5db6b672fd4af85944b0b9d28fb2c5d0afdab10d1"), looks := true }, kinds := [], alts := [], laidByText := true, laidKinds := [.data, .data, .data, .data, .pinned, .pinned], laidTests := true, laidLooks := .later }
def TreeApartUptoCardSaid : Prop := Claim7.holds Tryz.pinned (.plain (OpenSpec.upto treeApartSpec)) treeApartUptoCard

/-- THE SECOND FORM's CARD OF 'rubricatorlaw14.TreeBounds'. -/
def treeBoundsUptoCard : Claim7 := { stood := { row := treeBoundsUptoRow, standIns := [], harness := (true, "457cd3f8ccdd20717e4f1df5db6b672fd4af85944b0b9d28fb2c5d0afdab10d1"), looks := true }, kinds := [], alts := [], laidByText := true, laidKinds := [.data, .data, .data, .data, .pinned, .pinned], laidTests := true, laidLooks := .later }
def TreeBoundsUptoCardSaid : Prop := Claim7.holds Tryz.pinned (.plain (OpenSpec.upto treeBoundsSpec)) treeBoundsUptoCard

/-- THE SECOND FORM's CARD OF 'rubricatorlaw14.TreeWraps'. -/
def treeWrapsUptoCard : Claim7 := { stood := { row := treeWrapsUptoRow, standIns := [], harness := (true, "457cd3f8ccdd20717e4f1df5db6b672fd4af85944b0b9d28fb2c5d0afdab10d1"), looks := true }, kinds := [], alts := [], laidByText := true, laidKinds := [.data, .data, .data, .data, .pinned, .pinned], laidTests := true, laidLooks := .later }
def TreeWrapsUptoCardSaid : Prop := Claim7.holds Tryz.pinned (.plain (OpenSpec.upto treeWrapsSpec)) treeWrapsUptoCard

/-- THE SECOND FORM's CARD OF 'rubricatorlaw13.TokenStands'. -/
def tokenStandsUptoCard : Claim7 := { stood := { row := tokenStandsUptoRow, standIns := [], harness := (true, "457cd3f8ccdd20717e4f1df5db6b672fd4af85944b0b9d28fb2c5d0afdab10d1"), looks := true }, kinds := [], alts := [], laidByText := true, laidKinds := [.data, .data, .data, .data, .sentinel, .sentinel, .pinned], laidTests := true, laidLooks := .later }
def TokenStandsUptoCardSaid : Prop := Claim7.holds Tryz.pinned (.plain (OpenSpec.upto tokenStandsSpec)) tokenStandsUptoCard

/-- THE SECOND FORM's CARD OF 'rubricatorlaw13.TokenAhead'. -/
def tokenAheadUptoCard : Claim7 := { stood := { row := tokenAheadUptoRow, standIns := [], harness := (true, "457cd3f8ccdd20717e4f1df5db6b672fd4af85944b0b9d28fb2c5d0afdab10d1"), looks := true }, kinds := [], alts := [], laidByText := true, laidKinds := [.data, .data, .data, .data, .sentinel, .sentinel, .pinned], laidTests := true, laidLooks := .later }
def TokenAheadUptoCardSaid : Prop := Claim7.holds Tryz.pinned (.plain (OpenSpec.upto tokenAheadSpec)) tokenAheadUptoCard

/-- THE SECOND FORM's CARD OF 'rubricatorlaw13.TokenProps'. -/
def tokenPropsUptoCard : Claim7 := { stood := { row := tokenPropsUptoRow, standIns := [], harness := (true, "457cd3f8ccdd20717e4f1df5db6b672fd4af85944b0b9d28fb2c5d0afdab10d1"), looks := true }, kinds := [], alts := [], laidByText := true, laidKinds := [.data, .data, .data, .data, .sentinel, .sentinel, .pinned], laidTests := true, laidLooks := .later }
def TokenPropsUptoCardSaid : Prop := Claim7.holds Tryz.pinned (.plain (OpenSpec.upto tokenPropsSpec)) tokenPropsUptoCard

/-- THE SECOND FORM's CARD OF 'rubricatorlaw13.TokenPrint'. -/
def tokenPrintUptoCard : Claim7 := { stood := { row := tokenPrintUptoRow, standIns := [], harness := (true, "457cd3f8ccdd20717e4f1df5db6b672fd4af85944b0b9d28fb2c5d0afdab10d1"), looks := true }, kinds := [], alts := [], laidByText := true, laidKinds := [.data, .data, .data, .data, .sentinel, .sentinel, .pinned, .pinned], laidTests := true, laidLooks := .later }
def TokenPrintUptoCardSaid : Prop := Claim7.holds Tryz.pinned (.plain (OpenSpec.upto tokenPrintSpec)) tokenPrintUptoCard

/-- THE SECOND FORM's CARD OF 'rubricatorlaw13.TokenBack'. -/
def tokenBackUptoCard : Claim7 := { stood := { row := tokenBackUptoRow, standIns := [], harness := (true, "457cd3f8ccdd20717e4f1df5db6b672fd4af85944b0b9d28fb2c5d0afdab10d1"), looks := true }, kinds := [], alts := [], laidByText := true, laidKinds := [.data, .data, .data, .data, .sentinel, .sentinel, .pinned, .pinned], laidTests := true, laidLooks := .later }
def TokenBackUptoCardSaid : Prop := Claim7.holds Tryz.pinned (.plain (OpenSpec.upto tokenBackSpec)) tokenBackUptoCard

/-- THE SECOND FORM's CARD OF 'rubricatorlaw13.TokenJoins'. -/
def tokenJoinsUptoCard : Claim7 := { stood := { row := tokenJoinsUptoRow, standIns := [], harness := (true, "457cd3f8ccdd20717e4f1df5db6b672fd4af85944b0b9d28fb2c5d0afdab10d1"), looks := true }, kinds := [], alts := [], laidByText := true, laidKinds := [.data, .data, .data, .data, .sentinel, .sentinel, .pinned, .pinned], laidTests := true, laidLooks := .later }
def TokenJoinsUptoCardSaid : Prop := Claim7.holds Tryz.pinned (.plain (OpenSpec.upto tokenJoinsSpec)) tokenJoinsUptoCard
end Rows
end Go.Proofs.YtkipjalfgdfaiaaGreatDoor
