/-
  DERIVED. GIVEN WITH THE SEED: THE CARDS: each row of YtkfeagokmcakgaaGreatDoorRows.lean that lists a variable, with what it lists TIED to the program's text (the seventh form; the later family's looks); each row that meets fmt, with fmt's text TOLD by the authors' own Lean function (tested against real Go, not proved from fmt's source: count such statements apart). THE CARD IS WHAT COUNTS. Prove the row's statement (the work); the ties are given (YtkfeagokmcakgaaGreatDoorTie.lean); close each card by the builder's one call (the guide's Derived/Test/ToyasCard.lean, 'card_holds'). Laid BY PROGRAM, IN A SANDBOX (cutbox-door.mjs). By AI agents, Wed Nov 11 2026. No macro, syntax, notation, axiom, sorry.
-/
import Derived.Test.YtkfeagokmcakgaaGreatDoorRows
import GoSem.ClaimSeven
namespace Go.Proofs.YtkfeagokmcakgaaGreatDoor
namespace Rows

/-- THE TIED CARD OF 'giornatalaw06.PigmentParses'. -/
def pigmentParsesCard : Claim7 := { stood := { row := pigmentParsesRow, standIns := [], harness := (true, "8ccf7893ef156cce7c922c0a3d1301fc9d1d4a90956ae7b8beaa9ca84a4965c4"), looks := true }, kinds := [], alts := [], laidByText := true, laidKinds := [.data, .data, .data, .data, .sentinel, .sentinel, .pinned], laidTests := true, laidLooks := .later }
def PigmentParsesCardSaid : Prop := Claim7.holds Tryz.pinned (.plain (OpenSpec.ofChange pigmentParsesSpec)) pigmentParsesCard

/-- THE TIED CARD OF 'giornatalaw06.PigmentStrokes'. -/
def pigmentStrokesCard : Claim7 := { stood := { row := pigmentStrokesRow, standIns := [], harness := (true, "8ccf7893ef156cce7c922c0a3d1301fc9d1d4a90956ae7b8beaa9ca84a4965c4"), looks := true }, kinds := [], alts := [], laidByText := true, laidKinds := [.data, .data, .data, .data, .sentinel, .sentinel, .pinned], laidTests := true, laidLooks := .later }
def PigmentStrokesCardSaid : Prop := Claim7.holds Tryz.pinned (.plain (OpenSpec.ofChange pigmentStrokesSpec)) pigmentStrokesCard

/-- THE TIED CARD OF 'giornatalaw06.PigmentChains'. -/
def pigmentChainsCard : Claim7 := { stood := { row := pigmentChainsRow, standIns := [], harness := (true, "8ccf7893ef156cce7c922c0a3d1301fc9d1d4a90956ae7b8beaa9ca84a4965c4"), looks := true }, kinds := [], alts := [], laidByText := true, laidKinds := [.data, .data, .data, .data, .sentinel, .sentinel, .pinned], laidTests := true, laidLooks := .later }
def PigmentChainsCardSaid : Prop := Claim7.holds Tryz.pinned (.plain (OpenSpec.ofChange pigmentChainsSpec)) pigmentChainsCard

/-- THE TIED CARD OF 'giornatalaw06.PigmentLines'. -/
def pigmentLinesCard : Claim7 := { stood := { row := pigmentLinesRow, standIns := [], harness := (true, "8ccf7893ef156cce7c922c0a3d1301fc9d1d4a90956ae7b8beaa9ca84a4965c4"), looks := true }, kinds := [], alts := [], laidByText := true, laidKinds := [.data, .data, .data, .data, .sentinel, .sentinel, .pinned], laidTests := true, laidLooks := .later }
def PigmentLinesCardSaid : Prop := Claim7.holds Tryz.pinned (.plain (OpenSpec.ofChange pigmentLinesSpec)) pigmentLinesCard

/-- THE TIED CARD OF 'giornatalaw06.PigmentStates'. -/
def pigmentStatesCard : Claim7 := { stood := { row := pigmentStatesRow, standIns := [], harness := (true, "8ccf7893ef156cce7c922c0a3d1301fc9d1d4a90956ae7b8beaa9ca84a4965c4"), looks := true }, kinds := [], alts := [], laidByText := true, laidKinds := [.data, .data, .data, .data, .sentinel, .sentinel, .pinned], laidTests := true, laidLooks := .later }
def PigmentStatesCardSaid : Prop := Claim7.holds Tryz.pinned (.plain (OpenSpec.ofChange pigmentStatesSpec)) pigmentStatesCard

/-- THE TIED CARD OF 'giornatalaw06.PigmentGroups'. -/
def pigmentGroupsCard : Claim7 := { stood := { row := pigmentGroupsRow, standIns := [], harness := (true, "8ccf7893ef156cce7c922c0a3d1301fc9d1d4a90956ae7b8beaa9ca84a4965c4"), looks := true }, kinds := [], alts := [], laidByText := true, laidKinds := [.data, .data, .data, .data, .sentinel, .sentinel, .pinned], laidTests := true, laidLooks := .later }
def PigmentGroupsCardSaid : Prop := Claim7.holds Tryz.pinned (.plain (OpenSpec.ofChange pigmentGroupsSpec)) pigmentGroupsCard

/-- THE TIED CARD OF 'giornatalaw06.PigmentColours'. -/
def pigmentColoursCard : Claim7 := { stood := { row := pigmentColoursRow, standIns := [], harness := (true, "8ccf7893ef156cce7c922c0a3d1301fc9d1d4a90956ae7b8beaa9ca84a4965c4"), looks := true }, kinds := [], alts := [], laidByText := true, laidKinds := [.data, .data, .data, .data, .sentinel, .sentinel, .pinned], laidTests := true, laidLooks := .later }
def PigmentColoursCardSaid : Prop := Claim7.holds Tryz.pinned (.plain (OpenSpec.ofChange pigmentColoursSpec)) pigmentColoursCard

/-- THE TIED CARD OF 'giornatalaw06.PigmentChecks'. -/
def pigmentChecksCard : Claim7 := { stood := { row := pigmentChecksRow, standIns := [], harness := (true, "8ccf7893ef156cce7c922c0a3d1301fc9d1d4a90956ae7b8beaa9ca84a4965c4"), looks := true }, kinds := [], alts := [], laidByText := true, laidKinds := [.data, .data, .data, .data, .sentinel, .sentinel, .pinned], laidTests := true, laidLooks := .later }
def PigmentChecksCardSaid : Prop := Claim7.holds Tryz.pinned (.plain (OpenSpec.ofChange pigmentChecksSpec)) pigmentChecksCard

/-- THE TIED CARD OF 'giornatalaw06.PigmentLimit'. -/
def pigmentLimitCard : Claim7 := { stood := { row := pigmentLimitRow, standIns := [], harness := (true, "8ccf7893ef156cce7c922c0a3d1301fc9d1d4a90956ae7b8beaa9ca84a4965c4"), looks := true }, kinds := [], alts := [], laidByText := true, laidKinds := [.data, .data, .data, .data, .sentinel, .sentinel, .pinned], laidTests := true, laidLooks := .later }
def PigmentLimitCardSaid : Prop := Claim7.holds Tryz.pinned (.plain (OpenSpec.ofChange pigmentLimitSpec)) pigmentLimitCard

/-- THE TIED CARD OF 'giornatalaw06.PigmentKnown'. -/
def pigmentKnownCard : Claim7 := { stood := { row := pigmentKnownRow, standIns := [], harness := (true, "8ccf7893ef156cce7c922c0a3d1301fc9d1d4a90956ae7b8beaa9ca84a4965c4"), looks := true }, kinds := [], alts := [], laidByText := true, laidKinds := [.data, .data, .data, .data, .sentinel, .sentinel, .pinned], laidTests := true, laidLooks := .later }
def PigmentKnownCardSaid : Prop := Claim7.holds Tryz.pinned (.plain (OpenSpec.ofChange pigmentKnownSpec)) pigmentKnownCard

/-- THE TIED CARD OF 'giornatalaw06.PigmentArranges'. -/
def pigmentArrangesCard : Claim7 := { stood := { row := pigmentArrangesRow, standIns := [], harness := (true, "8ccf7893ef156cce7c922c0a3d1301fc9d1d4a90956ae7b8beaa9ca84a4965c4"), looks := true }, kinds := [], alts := [], laidByText := true, laidKinds := [.data, .data, .data, .data, .sentinel, .sentinel, .pinned], laidTests := true, laidLooks := .later }
def PigmentArrangesCardSaid : Prop := Claim7.holds Tryz.pinned (.plain (OpenSpec.ofChange pigmentArrangesSpec)) pigmentArrangesCard

/-- THE TIED CARD OF 'giornatalaw06.PigmentOrders'. -/
def pigmentOrdersCard : Claim7 := { stood := { row := pigmentOrdersRow, standIns := [], harness := (true, "8ccf7893ef156cce7c922c0a3d1301fc9d1d4a90956ae7b8beaa9ca84a4965c4"), looks := true }, kinds := [], alts := [], laidByText := true, laidKinds := [.data, .data, .data, .data, .sentinel, .sentinel, .pinned], laidTests := true, laidLooks := .later }
def PigmentOrdersCardSaid : Prop := Claim7.holds Tryz.pinned (.plain (OpenSpec.ofChange pigmentOrdersSpec)) pigmentOrdersCard

/-- THE TIED CARD OF 'giornatalaw06.PigmentVoids'. -/
def pigmentVoidsCard : Claim7 := { stood := { row := pigmentVoidsRow, standIns := [], harness := (true, "8ccf7893ef156cce7c922c0a3d1301fc9d1d4a90956ae7b8beaa9ca84a4965c4"), looks := true }, kinds := [], alts := [], laidByText := true, laidKinds := [.data, .data, .data, .data, .sentinel, .sentinel, .pinned], laidTests := true, laidLooks := .later }
def PigmentVoidsCardSaid : Prop := Claim7.holds Tryz.pinned (.plain (OpenSpec.ofChange pigmentVoidsSpec)) pigmentVoidsCard

/-- THE TIED CARD OF 'giornatalaw06.PigmentLists'. -/
def pigmentListsCard : Claim7 := { stood := { row := pigmentListsRow, standIns := [], harness := (true, "8ccf7893ef156cce7c922c0a3d1301fc9d1d4a90956ae7b8beaa9ca84a4965c4"), looks := true }, kinds := [], alts := [], laidByText := true, laidKinds := [.data, .data, .data, .data, .sentinel, .sentinel, .pinned], laidTests := true, laidLooks := .later }
def PigmentListsCardSaid : Prop := Claim7.holds Tryz.pinned (.plain (OpenSpec.ofChange pigmentListsSpec)) pigmentListsCard

/-- THE SECOND FORM's CARD OF 'giornatalaw06.PigmentParses'. -/
def pigmentParsesUptoCard : Claim7 := { stood := { row := pigmentParsesUptoRow, standIns := [], harness := (true, "8ccf7893ef156cce7c922c0a3d1301fc9d1d4a90956ae7b8beaa9ca84a4965c4"), looks := true }, kinds := [], alts := [], laidByText := true, laidKinds := [.data, .data, .data, .data, .sentinel, .sentinel, .pinned], laidTests := true, laidLooks := .later }
def PigmentParsesUptoCardSaid : Prop := Claim7.holds Tryz.pinned (.plain (OpenSpec.upto pigmentParsesSpec)) pigmentParsesUptoCard

/-- THE SECOND FORM's CARD OF 'giornatalaw06.PigmentStrokes'. -/
def pigmentStrokesUptoCard : Claim7 := { stood := { row := pigmentStrokesUptoRow, standIns := [], harness := (true, "8ccf7893ef156cce7c922c0a3d1301fc9d1d4a90956ae7b8beaa9ca84a4965c4"), looks := true }, kinds := [], alts := [], laidByText := true, laidKinds := [.data, .data, .data, .data, .sentinel, .sentinel, .pinned], laidTests := true, laidLooks := .later }
def PigmentStrokesUptoCardSaid : Prop := Claim7.holds Tryz.pinned (.plain (OpenSpec.upto pigmentStrokesSpec)) pigmentStrokesUptoCard

/-- THE SECOND FORM's CARD OF 'giornatalaw06.PigmentChains'. -/
def pigmentChainsUptoCard : Claim7 := { stood := { row := pigmentChainsUptoRow, standIns := [], harness := (true, "8ccf7893ef156cce7c922c0a3d1301fc9d1d4a90956ae7b8beaa9ca84a4965c4"), looks := true }, kinds := [], alts := [], laidByText := true, laidKinds := [.data, .data, .data, .data, .sentinel, .sentinel, .pinned], laidTests := true, laidLooks := .later }
def PigmentChainsUptoCardSaid : Prop := Claim7.holds Tryz.pinned (.plain (OpenSpec.upto pigmentChainsSpec)) pigmentChainsUptoCard

/-- THE SECOND FORM's CARD OF 'giornatalaw06.PigmentLines'. -/
def pigmentLinesUptoCard : Claim7 := { stood := { row := pigmentLinesUptoRow, standIns := [], harness := (true, "8ccf7893ef156cce7c922c0a3d1301fc9d1d4a90956ae7b8beaa9ca84a4965c4"), looks := true }, kinds := [], alts := [], laidByText := true, laidKinds := [.data, .data, .data, .data, .sentinel, .sentinel, .pinned], laidTests := true, laidLooks := .later }
def PigmentLinesUptoCardSaid : Prop := Claim7.holds Tryz.pinned (.plain (OpenSpec.upto pigmentLinesSpec)) pigmentLinesUptoCard

/-- THE SECOND FORM's CARD OF 'giornatalaw06.PigmentStates'. -/
def pigmentStatesUptoCard : Claim7 := { stood := { row := pigmentStatesUptoRow, standIns := [], harness := (true, "8ccf7893ef156cce7c922c0a3d1301fc9d1d4a90956ae7b8beaa9ca84a4965c4"), looks := true }, kinds := [], alts := [], laidByText := true, laidKinds := [.data, .data, .data, .data, .sentinel, .sentinel, .pinned], laidTests := true, laidLooks := .later }
def PigmentStatesUptoCardSaid : Prop := Claim7.holds Tryz.pinned (.plain (OpenSpec.upto pigmentStatesSpec)) pigmentStatesUptoCard

/-- THE SECOND FORM's CARD OF 'giornatalaw06.PigmentGroups'. -/
def pigmentGroupsUptoCard : Claim7 := { stood := { row := pigmentGroupsUptoRow, standIns := [], harness := (true, "8ccf7893ef156cce7c922c0a3d1301fc9d1d4a90956ae7b8beaa9ca84a4965c4"), looks := true }, kinds := [], alts := [], laidByText := true, laidKinds := [.data, .data, .data, .data, .sentinel, .sentinel, .pinned], laidTests := true, laidLooks := .later }
def PigmentGroupsUptoCardSaid : Prop := Claim7.holds Tryz.pinned (.plain (OpenSpec.upto pigmentGroupsSpec)) pigmentGroupsUptoCard

/-- THE SECOND FORM's CARD OF 'giornatalaw06.PigmentColours'. -/
def pigmentColoursUptoCard : Claim7 := { stood := { row := pigmentColoursUptoRow, standIns := [], harness := (true, "8ccf7893ef156cce7c922c0a3d1301fc9d1d4a90956ae7b8beaa9ca84a4965c4"), looks := true }, kinds := [], alts := [], laidByText := true, laidKinds := [.data, .data, .data, .data, .sentinel, .sentinel, .pinned], laidTests := true, laidLooks := .later }
def PigmentColoursUptoCardSaid : Prop := Claim7.holds Tryz.pinned (.plain (OpenSpec.upto pigmentColoursSpec)) pigmentColoursUptoCard

/-- THE SECOND FORM's CARD OF 'giornatalaw06.PigmentChecks'. -/
def pigmentChecksUptoCard : Claim7 := { stood := { row := pigmentChecksUptoRow, standIns := [], harness := (true, "8ccf7893ef156cce7c922c0a3d1301fc9d1d4a90956ae7b8beaa9ca84a4965c4"), looks := true }, kinds := [], alts := [], laidByText := true, laidKinds := [.data, .data, .data, .data, .sentinel, .sentinel, .pinned], laidTests := true, laidLooks := .later }
def PigmentChecksUptoCardSaid : Prop := Claim7.holds Tryz.pinned (.plain (OpenSpec.upto pigmentChecksSpec)) pigmentChecksUptoCard

/-- THE SECOND FORM's CARD OF 'giornatalaw06.PigmentLimit'. -/
def pigmentLimitUptoCard : Claim7 := { stood := { row := pigmentLimitUptoRow, standIns := [], harness := (true, "8ccf7893ef156cce7c922c0a3d1301fc9d1d4a90956ae7b8beaa9ca84a4965c4"), looks := true }, kinds := [], alts := [], laidByText := true, laidKinds := [.data, .data, .data, .data, .sentinel, .sentinel, .pinned], laidTests := true, laidLooks := .later }
def PigmentLimitUptoCardSaid : Prop := Claim7.holds Tryz.pinned (.plain (OpenSpec.upto pigmentLimitSpec)) pigmentLimitUptoCard

/-- THE SECOND FORM's CARD OF 'giornatalaw06.PigmentKnown'. -/
def pigmentKnownUptoCard : Claim7 := { stood := { row := pigmentKnownUptoRow, standIns := [], harness := (true, "8ccf7893ef156cce7c922c0a3d1301fc9d1d4a90956ae7b8beaa9ca84a4965c4"), looks := true }, kinds := [], alts := [], laidByText := true, laidKinds := [.data, .data, .data, .data, .sentinel, .sentinel, .pinned], laidTests := true, laidLooks := .later }
def PigmentKnownUptoCardSaid : Prop := Claim7.holds Tryz.pinned (.plain (OpenSpec.upto pigmentKnownSpec)) pigmentKnownUptoCard

/-- THE SECOND FORM's CARD OF 'giornatalaw06.PigmentArranges'. -/
def pigmentArrangesUptoCard : Claim7 := { stood := { row := pigmentArrangesUptoRow, standIns := [], harness := (true, "8ccf7893ef156cce7c922c0a3d1301fc9d1d4a90956ae7b8beaa9ca84a4965c4"), looks := true }, kinds := [], alts := [], laidByText := true, laidKinds := [.data, .data, .data, .data, .sentinel, .sentinel, .pinned], laidTests := true, laidLooks := .later }
def PigmentArrangesUptoCardSaid : Prop := Claim7.holds Tryz.pinned (.plain (OpenSpec.upto pigmentArrangesSpec)) pigmentArrangesUptoCard

/-- THE SECOND FORM's CARD OF 'giornatalaw06.PigmentOrders'. -/
def pigmentOrdersUptoCard : Claim7 := { stood := { row := pigmentOrdersUptoRow, standIns := [], harness := (true, "8ccf7893ef156cce7c922c0a3d1301fc9d1d4a90956ae7b8beaa9ca84a4965c4"), looks := true }, kinds := [], alts := [], laidByText := true, laidKinds := [.data, .data, .data, .data, .sentinel, .sentinel, .pinned], laidTests := true, laidLooks := .later }
def PigmentOrdersUptoCardSaid : Prop := Claim7.holds Tryz.pinned (.plain (OpenSpec.upto pigmentOrdersSpec)) pigmentOrdersUptoCard

/-- THE SECOND FORM's CARD OF 'giornatalaw06.PigmentVoids'. -/
def pigmentVoidsUptoCard : Claim7 := { stood := { row := pigmentVoidsUptoRow, standIns := [], harness := (true, "8ccf7893ef156cce7c922c0a3d1301fc9d1d4a90956ae7b8beaa9ca84a4965c4"), looks := true }, kinds := [], alts := [], laidByText := true, laidKinds := [.data, .data, .data, .data, .sentinel, .sentinel, .pinned], laidTests := true, laidLooks := .later }
def PigmentVoidsUptoCardSaid : Prop := Claim7.holds Tryz.pinned (.plain (OpenSpec.upto pigmentVoidsSpec)) pigmentVoidsUptoCard

/-- THE SECOND FORM's CARD OF 'giornatalaw06.PigmentLists'. -/
def pigmentListsUptoCard : Claim7 := { stood := { row := pigmentListsUptoRow, standIns := [], harness := (true, "8ccf7893ef156cce7c922c0a3d1301fc9d1d4a90956ae7b8beaa9ca84a4965c4"), looks := true }, kinds := [], alts := [], laidByText := true, laidKinds := [.data, .data, .data, .data, .sentinel, .sentinel, .pinned], laidTests := true, laidLooks := .later }
def PigmentListsUptoCardSaid : Prop := Claim7.holds Tryz.pinned (.plain (OpenSpec.upto pigmentListsSpec)) pigmentListsUptoCard
end Rows
end Go.Proofs.YtkfeagokmcakgaaGreatDoor
