/-
  DERIVED. GIVEN WITH THE SEED: THE CARDS: each row of YthmgcjmoiilggaaDoorRows.lean that lists a variable, with what it lists TIED to the program's text (the seventh form; the later family's looks); each row that meets fmt, with fmt's text TOLD by the authors' own Lean function (tested against real Go, not proved from fmt's source: count such statements apart). THE CARD IS WHAT COUNTS. Prove the row's statement (the work); the ties are given (YthmgcjmoiilggaaDoorTie.lean); close each card by the builder's one call (the guide's Derived/Test/ToyasCard.lean, 'card_holds'). Laid BY PROGRAM, IN A SANDBOX (cutbox-door.mjs). By AI agents, Wed Nov 11 2026. No macro, syntax, notation, axiom, sorry.
-/
import Derived.Test.YthmgcjmoiilggaaDoorRows
import GoSem.ClaimSeven
namespace Go.Proofs.YthmgcjmoiilggaaDoor
namespace Rows

/-- THE TIED CARD OF 'sastrugilaw09.CrewLegals'. -/
def crewLegalsCard : Claim7 := { stood := { row := crewLegalsRow, standIns := [], harness := (true, "649530528c47dce5dbbb67fa85c73b1724972033b5a725c1e414766309aa9cf4"), looks := false }, kinds := [], alts := [], laidByText := true, laidKinds := [.data, .pinned], laidTests := true, laidLooks := .later }
def CrewLegalsCardSaid : Prop := Claim7.holds Tryd.pinned (.plain (OpenSpec.ofChange crewLegalsSpec)) crewLegalsCard

/-- THE TIED CARD OF 'sastrugilaw09.CrewTruth'. -/
def crewTruthCard : Claim7 := { stood := { row := crewTruthRow, standIns := [], harness := (true, "649530528c47dce5dbbb67fa85c73b1724972033b5a725c1e414766309aa9cf4"), looks := false }, kinds := [], alts := [], laidByText := true, laidKinds := [.data, .pinned], laidTests := true, laidLooks := .later }
def CrewTruthCardSaid : Prop := Claim7.holds Tryd.pinned (.plain (OpenSpec.ofChange crewTruthSpec)) crewTruthCard

/-- THE TIED CARD OF 'sastrugilaw09.CrewWorst'. -/
def crewWorstCard : Claim7 := { stood := { row := crewWorstRow, standIns := [], harness := (true, "649530528c47dce5dbbb67fa85c73b1724972033b5a725c1e414766309aa9cf4"), looks := false }, kinds := [], alts := [], laidByText := true, laidKinds := [.data, .pinned], laidTests := true, laidLooks := .later }
def CrewWorstCardSaid : Prop := Claim7.holds Tryd.pinned (.plain (OpenSpec.ofChange crewWorstSpec)) crewWorstCard

/-- THE TIED CARD OF 'sastrugilaw09.CrewNarrows'. -/
def crewNarrowsCard : Claim7 := { stood := { row := crewNarrowsRow, standIns := [], harness := (true, "649530528c47dce5dbbb67fa85c73b1724972033b5a725c1e414766309aa9cf4"), looks := false }, kinds := [], alts := [], laidByText := true, laidKinds := [.data, .pinned], laidTests := true, laidLooks := .later }
def CrewNarrowsCardSaid : Prop := Claim7.holds Tryd.pinned (.plain (OpenSpec.ofChange crewNarrowsSpec)) crewNarrowsCard

/-- THE TIED CARD OF 'sastrugilaw09.CrewMore'. -/
def crewMoreCard : Claim7 := { stood := { row := crewMoreRow, standIns := [], harness := (true, "649530528c47dce5dbbb67fa85c73b1724972033b5a725c1e414766309aa9cf4"), looks := false }, kinds := [], alts := [], laidByText := true, laidKinds := [.data, .pinned], laidTests := true, laidLooks := .later }
def CrewMoreCardSaid : Prop := Claim7.holds Tryd.pinned (.plain (OpenSpec.ofChange crewMoreSpec)) crewMoreCard

/-- THE TIED CARD OF 'sastrugilaw09.CrewTurns'. -/
def crewTurnsCard : Claim7 := { stood := { row := crewTurnsRow, standIns := [], harness := (true, "649530528c47dce5dbbb67fa85c73b1724972033b5a725c1e414766309aa9cf4"), looks := false }, kinds := [], alts := [], laidByText := true, laidKinds := [.data, .pinned], laidTests := true, laidLooks := .later }
def CrewTurnsCardSaid : Prop := Claim7.holds Tryd.pinned (.plain (OpenSpec.ofChange crewTurnsSpec)) crewTurnsCard

/-- THE TIED CARD OF 'sastrugilaw09.CrewLeft'. -/
def crewLeftCard : Claim7 := { stood := { row := crewLeftRow, standIns := [], harness := (true, "649530528c47dce5dbbb67fa85c73b1724972033b5a725c1e414766309aa9cf4"), looks := false }, kinds := [], alts := [], laidByText := true, laidKinds := [.data, .pinned], laidTests := true, laidLooks := .later }
def CrewLeftCardSaid : Prop := Claim7.holds Tryd.pinned (.plain (OpenSpec.ofChange crewLeftSpec)) crewLeftCard

/-- THE TIED CARD OF 'sastrugilaw09.CrewScales'. -/
def crewScalesCard : Claim7 := { stood := { row := crewScalesRow, standIns := [], harness := (true, "649530528c47dce5dbbb67fa85c73b1724972033b5a725c1e414766309aa9cf4"), looks := false }, kinds := [], alts := [], laidByText := true, laidKinds := [.data, .pinned], laidTests := true, laidLooks := .later }
def CrewScalesCardSaid : Prop := Claim7.holds Tryd.pinned (.plain (OpenSpec.ofChange crewScalesSpec)) crewScalesCard

/-- THE TIED CARD OF 'sastrugilaw09.CrewWeighs'. -/
def crewWeighsCard : Claim7 := { stood := { row := crewWeighsRow, standIns := [], harness := (true, "649530528c47dce5dbbb67fa85c73b1724972033b5a725c1e414766309aa9cf4"), looks := false }, kinds := [], alts := [], laidByText := true, laidKinds := [.data, .pinned], laidTests := true, laidLooks := .later }
def CrewWeighsCardSaid : Prop := Claim7.holds Tryd.pinned (.plain (OpenSpec.ofChange crewWeighsSpec)) crewWeighsCard

/-- THE TIED CARD OF 'sastrugilaw09.CrewHauls'. -/
def crewHaulsCard : Claim7 := { stood := { row := crewHaulsRow, standIns := [], harness := (true, "649530528c47dce5dbbb67fa85c73b1724972033b5a725c1e414766309aa9cf4"), looks := false }, kinds := [], alts := [], laidByText := true, laidKinds := [.data, .pinned], laidTests := true, laidLooks := .later }
def CrewHaulsCardSaid : Prop := Claim7.holds Tryd.pinned (.plain (OpenSpec.ofChange crewHaulsSpec)) crewHaulsCard

/-- THE TIED CARD OF 'sastrugilaw09.CrewAssigned'. -/
def crewAssignedCard : Claim7 := { stood := { row := crewAssignedRow, standIns := [], harness := (true, "649530528c47dce5dbbb67fa85c73b1724972033b5a725c1e414766309aa9cf4"), looks := false }, kinds := [], alts := [], laidByText := true, laidKinds := [.data, .pinned], laidTests := true, laidLooks := .later }
def CrewAssignedCardSaid : Prop := Claim7.holds Tryd.pinned (.plain (OpenSpec.ofChange crewAssignedSpec)) crewAssignedCard

/-- THE SECOND FORM's CARD OF 'sastrugilaw09.CrewLegals'. -/
def crewLegalsUptoCard : Claim7 := { stood := { row := crewLegalsUptoRow, standIns := [], harness := (true, "649530528c47dce5dbbb67fa85c73b1724972033b5a725c1e414766309aa9cf4"), looks := false }, kinds := [], alts := [], laidByText := true, laidKinds := [.data, .pinned], laidTests := true, laidLooks := .later }
def CrewLegalsUptoCardSaid : Prop := Claim7.holds Tryd.pinned (.plain (OpenSpec.upto crewLegalsSpec)) crewLegalsUptoCard

/-- THE SECOND FORM's CARD OF 'sastrugilaw09.CrewTruth'. -/
def crewTruthUptoCard : Claim7 := { stood := { row := crewTruthUptoRow, standIns := [], harness := (true, "649530528c47dce5dbbb67fa85c73b1724972033b5a725c1e414766309aa9cf4"), looks := false }, kinds := [], alts := [], laidByText := true, laidKinds := [.data, .pinned], laidTests := true, laidLooks := .later }
def CrewTruthUptoCardSaid : Prop := Claim7.holds Tryd.pinned (.plain (OpenSpec.upto crewTruthSpec)) crewTruthUptoCard

/-- THE SECOND FORM's CARD OF 'sastrugilaw09.CrewWorst'. -/
def crewWorstUptoCard : Claim7 := { stood := { row := crewWorstUptoRow, standIns := [], harness := (true, "649530528c47dce5dbbb67fa85c73b1724972033b5a725c1e414766309aa9cf4"), looks := false }, kinds := [], alts := [], laidByText := true, laidKinds := [.data, .pinned], laidTests := true, laidLooks := .later }
def CrewWorstUptoCardSaid : Prop := Claim7.holds Tryd.pinned (.plain (OpenSpec.upto crewWorstSpec)) crewWorstUptoCard

/-- THE SECOND FORM's CARD OF 'sastrugilaw09.CrewNarrows'. -/
def crewNarrowsUptoCard : Claim7 := { stood := { row := crewNarrowsUptoRow, standIns := [], harness := (true, "649530528c47dce5dbbb67fa85c73b1724972033b5a725c1e414766309aa9cf4"), looks := false }, kinds := [], alts := [], laidByText := true, laidKinds := [.data, .pinned], laidTests := true, laidLooks := .later }
def CrewNarrowsUptoCardSaid : Prop := Claim7.holds Tryd.pinned (.plain (OpenSpec.upto crewNarrowsSpec)) crewNarrowsUptoCard

/-- THE SECOND FORM's CARD OF 'sastrugilaw09.CrewMore'. -/
def crewMoreUptoCard : Claim7 := { stood := { row := crewMoreUptoRow, standIns := [], harness := (true, "649530528c47dce5dbbb67fa85c73b1724972033b5a725c1e414766309aa9cf4"), looks := false }, kinds := [], alts := [], laidByText := true, laidKinds := [.data, .pinned], laidTests := true, laidLooks := .later }
def CrewMoreUptoCardSaid : Prop := Claim7.holds Tryd.pinned (.plain (OpenSpec.upto crewMoreSpec)) crewMoreUptoCard

/-- THE SECOND FORM's CARD OF 'sastrugilaw09.CrewTurns'. -/
def crewTurnsUptoCard : Claim7 := { stood := { row := crewTurnsUptoRow, standIns := [], harness := (true, "649530528c47dce5dbbb67fa85c73b1724972033b5a725c1e414766309aa9cf4"), looks := false }, kinds := [], alts := [], laidByText := true, laidKinds := [.data, .pinned], laidTests := true, laidLooks := .later }
def CrewTurnsUptoCardSaid : Prop := Claim7.holds Tryd.pinned (.plain (OpenSpec.upto crewTurnsSpec)) crewTurnsUptoCard

/-- THE SECOND FORM's CARD OF 'sastrugilaw09.CrewLeft'. -/
def crewLeftUptoCard : Claim7 := { stood := { row := crewLeftUptoRow, standIns := [], harness := (true, "649530528c47dce5dbbb67fa85c73b1724972033b5a725c1e414766309aa9cf4"), looks := false }, kinds := [], alts := [], laidByText := true, laidKinds := [.data, .pinned], laidTests := true, laidLooks := .later }
def CrewLeftUptoCardSaid : Prop := Claim7.holds Tryd.pinned (.plain (OpenSpec.upto crewLeftSpec)) crewLeftUptoCard

/-- THE SECOND FORM's CARD OF 'sastrugilaw09.CrewScales'. -/
def crewScalesUptoCard : Claim7 := { stood := { row := crewScalesUptoRow, standIns := [], harness := (true, "649530528c47dce5dbbb67fa85c73b1724972033b5a725c1e414766309aa9cf4"), looks := false }, kinds := [], alts := [], laidByText := true, laidKinds := [.data, .pinned], laidTests := true, laidLooks := .later }
def CrewScalesUptoCardSaid : Prop := Claim7.holds Tryd.pinned (.plain (OpenSpec.upto crewScalesSpec)) crewScalesUptoCard

/-- THE SECOND FORM's CARD OF 'sastrugilaw09.CrewWeighs'. -/
def crewWeighsUptoCard : Claim7 := { stood := { row := crewWeighsUptoRow, standIns := [], harness := (true, "649530528c47dce5dbbb67fa85c73b1724972033b5a725c1e414766309aa9cf4"), looks := false }, kinds := [], alts := [], laidByText := true, laidKinds := [.data, .pinned], laidTests := true, laidLooks := .later }
def CrewWeighsUptoCardSaid : Prop := Claim7.holds Tryd.pinned (.plain (OpenSpec.upto crewWeighsSpec)) crewWeighsUptoCard

/-- THE SECOND FORM's CARD OF 'sastrugilaw09.CrewHauls'. -/
def crewHaulsUptoCard : Claim7 := { stood := { row := crewHaulsUptoRow, standIns := [], harness := (true, "649530528c47dce5dbbb67fa85c73b1724972033b5a725c1e414766309aa9cf4"), looks := false }, kinds := [], alts := [], laidByText := true, laidKinds := [.data, .pinned], laidTests := true, laidLooks := .later }
def CrewHaulsUptoCardSaid : Prop := Claim7.holds Tryd.pinned (.plain (OpenSpec.upto crewHaulsSpec)) crewHaulsUptoCard

/-- THE SECOND FORM's CARD OF 'sastrugilaw09.CrewAssigned'. -/
def crewAssignedUptoCard : Claim7 := { stood := { row := crewAssignedUptoRow, standIns := [], harness := (true, "649530528c47dce5dbbb67fa85c73b1724972033b5a725c1e414766309aa9cf4"), looks := false }, kinds := [], alts := [], laidByText := true, laidKinds := [.data, .pinned], laidTests := true, laidLooks := .later }
def CrewAssignedUptoCardSaid : Prop := Claim7.holds Tryd.pinned (.plain (OpenSpec.upto crewAssignedSpec)) crewAssignedUptoCard
end Rows
end Go.Proofs.YthmgcjmoiilggaaDoor
