/-
  DERIVED. GIVEN WITH THE SEED: THE CARDS: each row of YtbkogeihjcnejaaGreatDoorRows.lean that lists a variable, with what it lists TIED to the program's text (the seventh form; the later family's looks); each row that meets fmt, with fmt's text TOLD by the authors' own Lean function (tested against real Go, not proved from fmt's source: count such statements apart). THE CARD IS WHAT COUNTS. Prove the row's statement (the work); the ties are given (YtbkogeihjcnejaaGreatDoorTie.lean); close each card by the builder's one call (the guide's Derived/Test/ToyasCard.lean, 'card_holds'). Laid BY PROGRAM, IN A SANDBOX (cutbox-door.mjs). By AI agents, Wed Nov 11 2026. No macro, syntax, notation, axiom, sorry.
-/
import Derived.Test.YtbkogeihjcnejaaGreatDoorRows
import GoSem.ClaimSeven
namespace Go.Proofs.YtbkogeihjcnejaaGreatDoor
namespace Rows

/-- THE TIED CARD OF 'sastrugilaw09.CrewBooks'. -/
def crewBooksCard : Claim7 := { stood := { row := crewBooksRow, standIns := [], harness := (true, "2beef0bacbef9ded3ee6641d055dbce234fdb55c3851ede34761aacff99ad5f9"), looks := true }, kinds := [], alts := [], laidByText := true, laidKinds := [.data, .data, .data, .data, .sentinel, .sentinel, .pinned], laidTests := true, laidLooks := .later }
def CrewBooksCardSaid : Prop := Claim7.holds Tryz.pinned (.plain (OpenSpec.ofChange crewBooksSpec)) crewBooksCard

/-- THE TIED CARD OF 'sastrugilaw09.CrewNotes'. -/
def crewNotesCard : Claim7 := { stood := { row := crewNotesRow, standIns := [], harness := (true, "2beef0bacbef9ded3ee6641d055dbce234fdb55c3851ede34761aacff99ad5f9"), looks := true }, kinds := [], alts := [], laidByText := true, laidKinds := [.data, .data, .data, .data, .sentinel, .sentinel, .pinned], laidTests := true, laidLooks := .later }
def CrewNotesCardSaid : Prop := Claim7.holds Tryz.pinned (.plain (OpenSpec.ofChange crewNotesSpec)) crewNotesCard

/-- THE SECOND FORM's CARD OF 'sastrugilaw09.CrewBooks'. -/
def crewBooksUptoCard : Claim7 := { stood := { row := crewBooksUptoRow, standIns := [], harness := (true, "2beef0bacbef9ded3ee6641d055dbce234fdb55c3851ede34761aacff99ad5f9"), looks := true }, kinds := [], alts := [], laidByText := true, laidKinds := [.data, .data, .data, .data, .sentinel, .sentinel, .pinned], laidTests := true, laidLooks := .later }
def CrewBooksUptoCardSaid : Prop := Claim7.holds Tryz.pinned (.plain (OpenSpec.upto crewBooksSpec)) crewBooksUptoCard

/-- THE SECOND FORM's CARD OF 'sastrugilaw09.CrewNotes'. -/
def crewNotesUptoCard : Claim7 := { stood := { row := crewNotesUptoRow, standIns := [], harness := (true, "2beef0bacbef9ded3ee6641d055dbce234fdb55c3851ede34761aacff99ad5f9"), looks := true }, kinds := [], alts := [], laidByText := true, laidKinds := [.data, .data, .data, .data, .sentinel, .sentinel, .pinned], laidTests := true, laidLooks := .later }
def CrewNotesUptoCardSaid : Prop := Claim7.holds Tryz.pinned (.plain (OpenSpec.upto crewNotesSpec)) crewNotesUptoCard
end Rows
end Go.Proofs.YtbkogeihjcnejaaGreatDoor
