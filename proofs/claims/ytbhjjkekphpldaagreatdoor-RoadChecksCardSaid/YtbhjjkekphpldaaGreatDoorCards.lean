/-
  DERIVED. GIVEN WITH THE SEED: THE CARDS: each row of YtbhjjkekphpldaaGreatDoorRows.lean that lists a variable, with what it lists TIED to the program's text (the seventh form; the later family's looks); each row that meets fmt, with fmt's text TOLD by the authors' own Lean function (tested against real Go, not proved from fmt's source: count such statements apart). THE CARD IS WHAT COUNTS. Prove the row's statement (the work); the ties are given (YtbhjjkekphpldaaGreatDoorTie.lean); close each card by the builder's one call (the guide's Derived/Test/ToyasCard.lean, 'card_holds'). Laid BY PROGRAM, IN A SANDBOX (cutbox-door.mjs). By AI agents, Wed Nov 11 2026. No macro, syntax, notation, axiom, sorry.
-/
import Derived.Test.YtbhjjkekphpldaaGreatDoorRows
import GoSem.ClaimSeven
namespace Go.Proofs.YtbhjjkekphpldaaGreatDoor
namespace Rows

/-- THE TIED CARD OF 'sastrugilaw10.RoadChecks'. -/
def roadChecksCard : Claim7 := { stood := { row := roadChecksRow, standIns := [], harness := (true, "3a5d7b2dfb7dc471f5384382fffc002e4b17ecd6090b7ad0e69793a218398bfb"), looks := true }, kinds := [], alts := [], laidByText := true, laidKinds := [.data, .data, .data, .data, .sentinel, .sentinel, .data, .data, .data, .pinned], laidTests := true, laidLooks := .later }
def RoadChecksCardSaid : Prop := Claim7.holds Tryz.pinned (.plain (OpenSpec.ofChange roadChecksSpec)) roadChecksCard

/-- THE TIED CARD OF 'sastrugilaw10.RoadKnown'. -/
def roadKnownCard : Claim7 := { stood := { row := roadKnownRow, standIns := [], harness := (true, "3a5d7b2dfb7dc471f5384382fffc002e4b17ecd6090b7ad0e69793a218398bfb"), looks := true }, kinds := [], alts := [], laidByText := true, laidKinds := [.data, .data, .data, .data, .sentinel, .sentinel, .data, .data, .data, .pinned], laidTests := true, laidLooks := .later }
def RoadKnownCardSaid : Prop := Claim7.holds Tryz.pinned (.plain (OpenSpec.ofChange roadKnownSpec)) roadKnownCard

/-- THE SECOND FORM's CARD OF 'sastrugilaw10.RoadChecks'. -/
def roadChecksUptoCard : Claim7 := { stood := { row := roadChecksUptoRow, standIns := [], harness := (true, "3a5d7b2dfb7dc471f5384382fffc002e4b17ecd6090b7ad0e69793a218398bfb"), looks := true }, kinds := [], alts := [], laidByText := true, laidKinds := [.data, .data, .data, .data, .sentinel, .sentinel, .data, .data, .data, .pinned], laidTests := true, laidLooks := .later }
def RoadChecksUptoCardSaid : Prop := Claim7.holds Tryz.pinned (.plain (OpenSpec.upto roadChecksSpec)) roadChecksUptoCard

/-- THE SECOND FORM's CARD OF 'sastrugilaw10.RoadKnown'. -/
def roadKnownUptoCard : Claim7 := { stood := { row := roadKnownUptoRow, standIns := [], harness := (true, "3a5d7b2dfb7dc471f5384382fffc002e4b17ecd6090b7ad0e69793a218398bfb"), looks := true }, kinds := [], alts := [], laidByText := true, laidKinds := [.data, .data, .data, .data, .sentinel, .sentinel, .data, .data, .data, .pinned], laidTests := true, laidLooks := .later }
def RoadKnownUptoCardSaid : Prop := Claim7.holds Tryz.pinned (.plain (OpenSpec.upto roadKnownSpec)) roadKnownUptoCard
end Rows
end Go.Proofs.YtbhjjkekphpldaaGreatDoor
