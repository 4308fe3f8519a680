/-
  DERIVED. GIVEN WITH THE SEED: THE CARDS: each row of YtcaigcmbgihhkaaDoorRows.lean that lists a variable, with what it lists TIED to the program's text (the seventh form; the later family's looks); each row that meets fmt, with fmt's text TOLD by the authors' own Lean function (tested against real Go, not proved from fmt's source: count such statements apart). THE CARD IS WHAT COUNTS. Prove the row's statement (the work); the ties are given (YtcaigcmbgihhkaaDoorTie.lean); close each card by the builder's one call (the guide's Derived/Test/ToyasCard.lean, 'card_holds'). Laid BY PROGRAM, IN A SANDBOX (cutbox-door.mjs). By AI agents, Wed Nov 11 2026. No macro, syntax, notation, axiom, sorry.
-/
import Derived.Test.YtcaigcmbgihhkaaDoorRows
import GoSem.ClaimSeven
namespace Go.Proofs.YtcaigcmbgihhkaaDoor
namespace Rows

/-- THE TIED CARD OF 'hornbooklaw25.ParseNodes'. -/
def parseNodesCard : Claim7 := { stood := { row := parseNodesRow, standIns := [], harness := (true, "8b78279222fe2e347fe20f62e9d68194cc54eba4c939f32d8166727c6eb2bbb7"), looks := true }, kinds := [], alts := [], laidByText := true, laidKinds := [.data, .listed, .data, .pinned], laidTests := true, laidLooks := .later }
def ParseNodesCardSaid : Prop := Claim7.holds Tryd.pinned (.plain (OpenSpec.ofChange parseNodesSpec)) parseNodesCard

/-- THE TIED CARD OF 'hornbooklaw25.ParseTwo'. -/
def parseTwoCard : Claim7 := { stood := { row := parseTwoRow, standIns := [], harness := (true, "8b78279222fe2e347fe20f62e9d68194cc54eba4c939f32d8166727c6eb2bbb7"), looks := true }, kinds := [], alts := [], laidByText := true, laidKinds := [.data, .listed, .data, .pinned], laidTests := true, laidLooks := .later }
def ParseTwoCardSaid : Prop := Claim7.holds Tryd.pinned (.plain (OpenSpec.ofChange parseTwoSpec)) parseTwoCard

/-- THE TIED CARD OF 'hornbooklaw25.ParsePlaces'. -/
def parsePlacesCard : Claim7 := { stood := { row := parsePlacesRow, standIns := [], harness := (true, "8b78279222fe2e347fe20f62e9d68194cc54eba4c939f32d8166727c6eb2bbb7"), looks := true }, kinds := [], alts := [], laidByText := true, laidKinds := [.data, .listed, .data, .pinned], laidTests := true, laidLooks := .later }
def ParsePlacesCardSaid : Prop := Claim7.holds Tryd.pinned (.plain (OpenSpec.ofChange parsePlacesSpec)) parsePlacesCard

/-- THE TIED CARD OF 'hornbooklaw25.ParseSame'. -/
def parseSameCard : Claim7 := { stood := { row := parseSameRow, standIns := [], harness := (true, "8b78279222fe2e347fe20f62e9d68194cc54eba4c939f32d8166727c6eb2bbb7"), looks := true }, kinds := [], alts := [], laidByText := true, laidKinds := [.data, .listed, .data, .pinned], laidTests := true, laidLooks := .later }
def ParseSameCardSaid : Prop := Claim7.holds Tryd.pinned (.plain (OpenSpec.ofChange parseSameSpec)) parseSameCard

/-- THE SECOND FORM's CARD OF 'hornbooklaw25.ParseNodes'. -/
def parseNodesUptoCard : Claim7 := { stood := { row := parseNodesUptoRow, standIns := [], harness := (true, "8b78279222fe2e347fe20f62e9d68194cc54eba4c939f32d8166727c6eb2bbb7"), looks := true }, kinds := [], alts := [], laidByText := true, laidKinds := [.data, .listed, .data, .pinned], laidTests := true, laidLooks := .later }
def ParseNodesUptoCardSaid : Prop := Claim7.holds Tryd.pinned (.plain (OpenSpec.upto parseNodesSpec)) parseNodesUptoCard

/-- THE SECOND FORM's CARD OF 'hornbooklaw25.ParseTwo'. -/
def parseTwoUptoCard : Claim7 := { stood := { row := parseTwoUptoRow, standIns := [], harness := (true, "8b78279222fe2e347fe20f62e9d68194cc54eba4c939f32d8166727c6eb2bbb7"), looks := true }, kinds := [], alts := [], laidByText := true, laidKinds := [.data, .listed, .data, .pinned], laidTests := true, laidLooks := .later }
def ParseTwoUptoCardSaid : Prop := Claim7.holds Tryd.pinned (.plain (OpenSpec.upto parseTwoSpec)) parseTwoUptoCard

/-- THE SECOND FORM's CARD OF 'hornbooklaw25.ParsePlaces'. -/
def parsePlacesUptoCard : Claim7 := { stood := { row := parsePlacesUptoRow, standIns := [], harness := (true, "8b78279222fe2e347fe20f62e9d68194cc54eba4c939f32d8166727c6eb2bbb7"), looks := true }, kinds := [], alts := [], laidByText := true, laidKinds := [.data, .listed, .data, .pinned], laidTests := true, laidLooks := .later }
def ParsePlacesUptoCardSaid : Prop := Claim7.holds Tryd.pinned (.plain (OpenSpec.upto parsePlacesSpec)) parsePlacesUptoCard

/-- THE SECOND FORM's CARD OF 'hornbooklaw25.ParseSame'. -/
def parseSameUptoCard : Claim7 := { stood := { row := parseSameUptoRow, standIns := [], harness := (true, "8b78279222fe2e347fe20f62e9d68194cc54eba4c939f32d8166727c6eb2bbb7"), looks := true }, kinds := [], alts := [], laidByText := true, laidKinds := [.data, .listed, .data, .pinned], laidTests := true, laidLooks := .later }
def ParseSameUptoCardSaid : Prop := Claim7.holds Tryd.pinned (.plain (OpenSpec.upto parseSameSpec)) parseSameUptoCard
end Rows
end Go.Proofs.YtcaigcmbgihhkaaDoor
