/-
  DERIVED. GIVEN WITH THE SEED: THE CARDS: each row of YtaejogkinniakaaDoorRows.lean that lists a variable, with what it lists TIED to the program's text (the seventh form; the later family's looks); each row that meets fmt, with fmt's text TOLD by the authors' own Lean function (tested against real Go, not proved from fmt's source: count such statements apart). THE CARD IS WHAT COUNTS. Prove the row's statement (the work); the ties are given (YtaejogkinniakaaDoorTie.lean); close each card by the builder's one call (the guide's Derived/Test/ToyasCard.lean, 'card_holds'). Laid BY PROGRAM, IN A SANDBOX (cutbox-door.mjs). By AI agents, Wed Nov 11 2026. No macro, syntax, notation, axiom, sorry.
-/
import Derived.Test.YtaejogkinniakaaDoorRows
import GoSem.ClaimSeven
namespace Go.Proofs.YtaejogkinniakaaDoor
namespace Rows

/-- THE TIED CARD OF 'rubricatorlaw22.EditTemplate'. -/
def editTemplateCard : Claim7 := { stood := { row := editTemplateRow, standIns := [], harness := (true, "f062fc1b691b730a18d917abb3d391703e800339c44e5ba1582c898c558d8a66"), looks := true }, kinds := [], alts := [], laidByText := true, laidKinds := [.data, .data, .data, .sentinel, .sentinel], laidTests := true, laidLooks := .later }
def EditTemplateCardSaid : Prop := Claim7.holds Tryd.pinned (.plain (OpenSpec.ofChange editTemplateSpec)) editTemplateCard

/-- THE TIED CARD OF 'rubricatorlaw22.EditRebuilds'. -/
def editRebuildsCard : Claim7 := { stood := { row := editRebuildsRow, standIns := [], harness := (true, "f062fc1b691b730a18d917abb3d391703e800339c44e5ba1582c898c558d8a66"), looks := true }, kinds := [], alts := [], laidByText := true, laidKinds := [.data, .data, .data, .sentinel, .sentinel], laidTests := true, laidLooks := .later }
def EditRebuildsCardSaid : Prop := Claim7.holds Tryd.pinned (.plain (OpenSpec.ofChange editRebuildsSpec)) editRebuildsCard

/-- THE TIED CARD OF 'rubricatorlaw22.EditSplit'. -/
def editSplitCard : Claim7 := { stood := { row := editSplitRow, standIns := [], harness := (true, "f062fc1b691b730a18d917abb3d391703e800339c44e5ba1582c898c558d8a66"), looks := true }, kinds := [], alts := [], laidByText := true, laidKinds := [.data, .data, .data, .sentinel, .sentinel], laidTests := true, laidLooks := .later }
def EditSplitCardSaid : Prop := Claim7.holds Tryd.pinned (.plain (OpenSpec.ofChange editSplitSpec)) editSplitCard

/-- THE TIED CARD OF 'rubricatorlaw22.EditReplace'. -/
def editReplaceCard : Claim7 := { stood := { row := editReplaceRow, standIns := [], harness := (true, "f062fc1b691b730a18d917abb3d391703e800339c44e5ba1582c898c558d8a66"), looks := true }, kinds := [], alts := [], laidByText := true, laidKinds := [.data, .data, .data, .sentinel, .sentinel], laidTests := true, laidLooks := .later }
def EditReplaceCardSaid : Prop := Claim7.holds Tryd.pinned (.plain (OpenSpec.ofChange editReplaceSpec)) editReplaceCard

/-- THE TIED CARD OF 'rubricatorlaw22.EditSelf'. -/
def editSelfCard : Claim7 := { stood := { row := editSelfRow, standIns := [], harness := (true, "f062fc1b691b730a18d917abb3d391703e800339c44e5ba1582c898c558d8a66"), looks := true }, kinds := [], alts := [], laidByText := true, laidKinds := [.data, .data, .data, .sentinel, .sentinel], laidTests := true, laidLooks := .later }
def EditSelfCardSaid : Prop := Claim7.holds Tryd.pinned (.plain (OpenSpec.ofChange editSelfSpec)) editSelfCard

/-- THE SECOND FORM's CARD OF 'rubricatorlaw22.EditTemplate'. -/
def editTemplateUptoCard : Claim7 := { stood := { row := editTemplateUptoRow, standIns := [], harness := (true, "f062fc1b691b730a18d917abb3d391703e800339c44e5ba1582c898c558d8a66"), looks := true }, kinds := [], alts := [], laidByText := true, laidKinds := [.data, .data, .data, .sentinel, .sentinel], laidTests := true, laidLooks := .later }
def EditTemplateUptoCardSaid : Prop := Claim7.holds Tryd.pinned (.plain (OpenSpec.upto editTemplateSpec)) editTemplateUptoCard

/-- THE SECOND FORM's CARD OF 'rubricatorlaw22.EditRebuilds'. -/
def editRebuildsUptoCard : Claim7 := { stood := { row := editRebuildsUptoRow, standIns := [], harness := (true, "f062fc1b691b730a18d917abb3d391703e800339c44e5ba1582c898c558d8a66"), looks := true }, kinds := [], alts := [], laidByText := true, laidKinds := [.data, .data, .data, .sentinel, .sentinel], laidTests := true, laidLooks := .later }
def EditRebuildsUptoCardSaid : Prop := Claim7.holds Tryd.pinned (.plain (OpenSpec.upto editRebuildsSpec)) editRebuildsUptoCard

/-- THE SECOND FORM's CARD OF 'rubricatorlaw22.EditSplit'. -/
def editSplitUptoCard : Claim7 := { stood := { row := editSplitUptoRow, standIns := [], harness := (true, "f062fc1b691b730a18d917abb3d391703e800339c44e5ba1582c898c558d8a66"), looks := true }, kinds := [], alts := [], laidByText := true, laidKinds := [.data, .data, .data, .sentinel, .sentinel], laidTests := true, laidLooks := .later }
def EditSplitUptoCardSaid : Prop := Claim7.holds Tryd.pinned (.plain (OpenSpec.upto editSplitSpec)) editSplitUptoCard

/-- THE SECOND FORM's CARD OF 'rubricatorlaw22.EditReplace'. -/
def editReplaceUptoCard : Claim7 := { stood := { row := editReplaceUptoRow, standIns := [], harness := (true, "f062fc1b691b730a18d917abb3d391703e800339c44e5ba1582c898c558d8a66"), looks := true }, kinds := [], alts := [], laidByText := true, laidKinds := [.data, .data, .data, .sentinel, .sentinel], laidTests := true, laidLooks := .later }
def EditReplaceUptoCardSaid : Prop := Claim7.holds Tryd.pinned (.plain (OpenSpec.upto editReplaceSpec)) editReplaceUptoCard

/-- THE SECOND FORM's CARD OF 'rubricatorlaw22.EditSelf'. -/
def editSelfUptoCard : Claim7 := { stood := { row := editSelfUptoRow, standIns := [], harness := (true, "f062fc1b691b730a18d917abb3d391703e800339c44e5ba1582c898c558d8a66"), looks := true }, kinds := [], alts := [], laidByText := true, laidKinds := [.data, .data, .data, .sentinel, .sentinel], laidTests := true, laidLooks := .later }
def EditSelfUptoCardSaid : Prop := Claim7.holds Tryd.pinned (.plain (OpenSpec.upto editSelfSpec)) editSelfUptoCard
end Rows
end Go.Proofs.YtaejogkinniakaaDoor
