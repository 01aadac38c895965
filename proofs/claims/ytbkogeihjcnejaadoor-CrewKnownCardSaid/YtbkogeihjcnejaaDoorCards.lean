/-
  DERIVED. GIVEN WITH THE SEED: THE CARDS: each row of YtbkogeihjcnejaaDoorRows.lean that lists a variable, with what it lists TIED to the program's text (the seventh form; the later family's looks); each row that meets fmt, with fmt's text TOLD by the authors' own Lean function (tested against real Go, not proved from fmt's source: count such statements apart). THE CARD IS WHAT COUNTS. Prove the row's statement (the work); the ties are given (YtbkogeihjcnejaaDoorTie.lean); close each card by the builder's one call (the guide's Derived/Test/ToyasCard.lean, 'card_holds'). Laid BY PROGRAM, IN A SANDBOX (cutbox-door.mjs). By AI agents, Wed Nov 11 2026. No macro, syntax, notation, axiom, sorry.
-/
import Derived.Test.YtbkogeihjcnejaaDoorRows
import GoSem.ClaimSeven
namespace Go.Proofs.YtbkogeihjcnejaaDoor
namespace Rows

/-- THE TIED CARD OF 'sastrugilaw09.CrewKnown'. -/
def crewKnownCard : Claim7 := { stood := { row := crewKnownRow, standIns := [], harness := (true, "7b8146be0c16445ed52da181566527969e2987815387a06093d059326a8d5716"), looks := false }, kinds := [], alts := [], laidByText := true, laidKinds := [.data, .data, .data, .data, .pinned], laidTests := true, laidLooks := .later }
def CrewKnownCardSaid : Prop := Claim7.holds Tryd.pinned (.plain (OpenSpec.ofChange crewKnownSpec)) crewKnownCard

/-- THE SECOND FORM's CARD OF 'sastrugilaw09.CrewKnown'. -/
def crewKnownUptoCard : Claim7 := { stood := { row := crewKnownUptoRow, standIns := [], harness := (true, "7b8146be0c16445ed52da181566527969e2987815387a06093d059326a8d5716"), looks := false }, kinds := [], alts := [], laidByText := true, laidKinds := [.data, .data, .data, .data, .pinned], laidTests := true, laidLooks := .later }
def CrewKnownUptoCardSaid : Prop := Claim7.holds Tryd.pinned (.plain (OpenSpec.upto crewKnownSpec)) crewKnownUptoCard
end Rows
end Go.Proofs.YtbkogeihjcnejaaDoor
