/-
  DERIVED. GIVEN WITH THE SEED: THE CARDS: each row of YtmlcififmjpcpaaDoorRows.lean that lists a variable, with what it lists TIED to the program's text (the seventh form; the later family's looks); each row that meets fmt, with fmt's text TOLD by the authors' own Lean function (tested against real Go, not proved from fmt's source: count such statements apart). THE CARD IS WHAT COUNTS. Prove the row's statement (the work); the ties are given (YtmlcififmjpcpaaDoorTie.lean); close each card by the builder's one call (the guide's Derived/Test/ToyasCard.lean, 'card_holds'). Laid BY PROGRAM, IN A SANDBOX (cutbox-door.mjs). By AI agents, Wed Nov 11 2026. No macro, syntax, notation, axiom, sorry.
-/
import Derived.Test.YtmlcififmjpcpaaDoorRows
import GoSem.ClaimSeven
namespace Go.Proofs.YtmlcififmjpcpaaDoor
namespace Rows

/-- THE TIED CARD OF 'hornbooklaw04.InsNames'. -/
def insNamesCard : Claim7 := { stood := { row := insNamesRow, standIns := [], harness := (true, "a149b5efa6094c4ae34cf5402dbb9492130dd701a086829151c15b5c0ebff30b"), looks := false }, kinds := [], alts := [], laidByText := true, laidKinds := [.data], laidTests := true, laidLooks := .later }
def InsNamesCardSaid : Prop := Claim7.holds Tryd.pinned (.plain (OpenSpec.ofChange insNamesSpec)) insNamesCard

/-- THE TIED CARD OF 'hornbooklaw04.InsChecks'. -/
def insChecksCard : Claim7 := { stood := { row := insChecksRow, standIns := [], harness := (true, "a149b5efa6094c4ae34cf5402dbb9492130dd701a086829151c15b5c0ebff30b"), looks := false }, kinds := [], alts := [], laidByText := true, laidKinds := [.data], laidTests := true, laidLooks := .later }
def InsChecksCardSaid : Prop := Claim7.holds Tryd.pinned (.plain (OpenSpec.ofChange insChecksSpec)) insChecksCard

/-- THE TIED CARD OF 'hornbooklaw04.InsBytes'. -/
def insBytesCard : Claim7 := { stood := { row := insBytesRow, standIns := [], harness := (true, "a149b5efa6094c4ae34cf5402dbb9492130dd701a086829151c15b5c0ebff30b"), looks := false }, kinds := [], alts := [], laidByText := true, laidKinds := [.data], laidTests := true, laidLooks := .later }
def InsBytesCardSaid : Prop := Claim7.holds Tryd.pinned (.plain (OpenSpec.ofChange insBytesSpec)) insBytesCard

/-- THE TIED CARD OF 'hornbooklaw04.InsFlows'. -/
def insFlowsCard : Claim7 := { stood := { row := insFlowsRow, standIns := [], harness := (true, "a149b5efa6094c4ae34cf5402dbb9492130dd701a086829151c15b5c0ebff30b"), looks := false }, kinds := [], alts := [], laidByText := true, laidKinds := [.data], laidTests := true, laidLooks := .later }
def InsFlowsCardSaid : Prop := Claim7.holds Tryd.pinned (.plain (OpenSpec.ofChange insFlowsSpec)) insFlowsCard

/-- THE SECOND FORM's CARD OF 'hornbooklaw04.InsNames'. -/
def insNamesUptoCard : Claim7 := { stood := { row := insNamesUptoRow, standIns := [], harness := (true, "a149b5efa6094c4ae34cf5402dbb9492130dd701a086829151c15b5c0ebff30b"), looks := false }, kinds := [], alts := [], laidByText := true, laidKinds := [.data], laidTests := true, laidLooks := .later }
def InsNamesUptoCardSaid : Prop := Claim7.holds Tryd.pinned (.plain (OpenSpec.upto insNamesSpec)) insNamesUptoCard

/-- THE SECOND FORM's CARD OF 'hornbooklaw04.InsChecks'. -/
def insChecksUptoCard : Claim7 := { stood := { row := insChecksUptoRow, standIns := [], harness := (true, "a149b5efa6094c4ae34cf5402dbb9492130dd701a086829151c15b5c0ebff30b"), looks := false }, kinds := [], alts := [], laidByText := true, laidKinds := [.data], laidTests := true, laidLooks := .later }
def InsChecksUptoCardSaid : Prop := Claim7.holds Tryd.pinned (.plain (OpenSpec.upto insChecksSpec)) insChecksUptoCard

/-- THE SECOND FORM's CARD OF 'hornbooklaw04.InsBytes'. -/
def insBytesUptoCard : Claim7 := { stood := { row := insBytesUptoRow, standIns := [], harness := (true, "a149b5efa6094c4ae34cf5402dbb9492130dd701a086829151c15b5c0ebff30b"), looks := false }, kinds := [], alts := [], laidByText := true, laidKinds := [.data], laidTests := true, laidLooks := .later }
def InsBytesUptoCardSaid : Prop := Claim7.holds Tryd.pinned (.plain (OpenSpec.upto insBytesSpec)) insBytesUptoCard

/-- THE SECOND FORM's CARD OF 'hornbooklaw04.InsFlows'. -/
def insFlowsUptoCard : Claim7 := { stood := { row := insFlowsUptoRow, standIns := [], harness := (true, "a149b5efa6094c4ae34cf5402dbb9492130dd701a086829151c15b5c0ebff30b"), looks := false }, kinds := [], alts := [], laidByText := true, laidKinds := [.data], laidTests := true, laidLooks := .later }
def InsFlowsUptoCardSaid : Prop := Claim7.holds Tryd.pinned (.plain (OpenSpec.upto insFlowsSpec)) insFlowsUptoCard
end Rows
end Go.Proofs.YtmlcififmjpcpaaDoor
