/-
  DERIVED. GIVEN WITH THE SEED: THE CARDS: each row of YtmoiedlfimodeaaDoorRows.lean that lists a variable, with what it lists TIED to the program's text (the seventh form; the later family's looks); each row that meets fmt, with fmt's text TOLD by the authors' own Lean function (tested against real Go, not proved from fmt's source: count such statements apart). THE CARD IS WHAT COUNTS. Prove the row's statement (the work); the ties are given (YtmoiedlfimodeaaDoorTie.lean); close each card by the builder's one call (the guide's Derived/Test/ToyasCard.lean, 'card_holds'). Laid BY PROGRAM, IN A SANDBOX (cutbox-door.mjs). By AI agents, Wed Nov 11 2026. No macro, syntax, notation, axiom, sorry.
-/
import Derived.Test.YtmoiedlfimodeaaDoorRows
import GoSem.ClaimSeven
namespace Go.Proofs.YtmoiedlfimodeaaDoor
namespace Rows

/-- THE TIED CARD OF 'sastrugilaw04.ConvoyTurned'. -/
def convoyTurnedCard : Claim7 := { stood := { row := convoyTurnedRow, standIns := [], harness := (true, "e758831f70649df4274e18ba43bd013a2312be5b7d04121d06fdce5bf04c3592"), looks := true }, kinds := [], alts := [], laidByText := true, laidKinds := [.data], laidTests := true, laidLooks := .later }
def ConvoyTurnedCardSaid : Prop := Claim7.holds Tryd.pinned (.plain (OpenSpec.ofChange convoyTurnedSpec)) convoyTurnedCard

/-- THE TIED CARD OF 'sastrugilaw04.ConvoyKnown'. -/
def convoyKnownCard : Claim7 := { stood := { row := convoyKnownRow, standIns := [], harness := (true, "e758831f70649df4274e18ba43bd013a2312be5b7d04121d06fdce5bf04c3592"), looks := true }, kinds := [], alts := [], laidByText := true, laidKinds := [.data, .data, .data, .data, .data], laidTests := true, laidLooks := .later }
def ConvoyKnownCardSaid : Prop := Claim7.holds Tryd.pinned (.plain (OpenSpec.ofChange convoyKnownSpec)) convoyKnownCard

/-- THE TIED CARD OF 'sastrugilaw04.ConvoyTape'. -/
def convoyTapeCard : Claim7 := { stood := { row := convoyTapeRow, standIns := [], harness := (true, "e758831f70649df4274e18ba43bd013a2312be5b7d04121d06fdce5bf04c3592"), looks := true }, kinds := [], alts := [], laidByText := true, laidKinds := [.data, .data, .data, .data, .sentinel, .sentinel, .data, .data, .pinned], laidTests := true, laidLooks := .later }
def ConvoyTapeCardSaid : Prop := Claim7.holds Tryd.pinned (.plain (OpenSpec.ofChange convoyTapeSpec)) convoyTapeCard

/-- THE SECOND FORM's CARD OF 'sastrugilaw04.ConvoyTurned'. -/
def convoyTurnedUptoCard : Claim7 := { stood := { row := convoyTurnedUptoRow, standIns := [], harness := (true, "e758831f70649df4274e18ba43bd013a2312be5b7d04121d06fdce5bf04c3592"), looks := true }, kinds := [], alts := [], laidByText := true, laidKinds := [.data], laidTests := true, laidLooks := .later }
def ConvoyTurnedUptoCardSaid : Prop := Claim7.holds Tryd.pinned (.plain (OpenSpec.upto convoyTurnedSpec)) convoyTurnedUptoCard

/-- THE SECOND FORM's CARD OF 'sastrugilaw04.ConvoyKnown'. -/
def convoyKnownUptoCard : Claim7 := { stood := { row := convoyKnownUptoRow, standIns := [], harness := (true, "e758831f70649df4274e18ba43bd013a2312be5b7d04121d06fdce5bf04c3592"), looks := true }, kinds := [], alts := [], laidByText := true, laidKinds := [.data, .data, .data, .data, .data], laidTests := true, laidLooks := .later }
def ConvoyKnownUptoCardSaid : Prop := Claim7.holds Tryd.pinned (.plain (OpenSpec.upto convoyKnownSpec)) convoyKnownUptoCard

/-- THE SECOND FORM's CARD OF 'sastrugilaw04.ConvoyTape'. -/
def convoyTapeUptoCard : Claim7 := { stood := { row := convoyTapeUptoRow, standIns := [], harness := (true, "e758831f70649df4274e18ba43bd013a2312be5b7d04121d06fdce5bf04c3592"), looks := true }, kinds := [], alts := [], laidByText := true, laidKinds := [.data, .data, .data, .data, .sentinel, .sentinel, .data, .data, .pinned], laidTests := true, laidLooks := .later }
def ConvoyTapeUptoCardSaid : Prop := Claim7.holds Tryd.pinned (.plain (OpenSpec.upto convoyTapeSpec)) convoyTapeUptoCard
end Rows
end Go.Proofs.YtmoiedlfimodeaaDoor
