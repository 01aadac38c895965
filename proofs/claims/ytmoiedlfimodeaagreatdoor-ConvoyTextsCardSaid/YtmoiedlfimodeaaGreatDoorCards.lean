/-
  DERIVED. GIVEN WITH THE SEED: THE CARDS: each row of YtmoiedlfimodeaaGreatDoorRows.lean that lists a variable, with what it lists TIED to the program's text (the seventh form; the later family's looks); each row that meets fmt, with fmt's text TOLD by the authors' own Lean function (tested against real Go, not proved from fmt's source: count such statements apart). THE CARD IS WHAT COUNTS. Prove the row's statement (the work); the ties are given (YtmoiedlfimodeaaGreatDoorTie.lean); close each card by the builder's one call (the guide's Derived/Test/ToyasCard.lean, 'card_holds'). Laid BY PROGRAM, IN A SANDBOX (cutbox-door.mjs). By AI agents, Wed Nov 11 2026. No macro, syntax, notation, axiom, sorry.
-/
import Derived.Test.YtmoiedlfimodeaaGreatDoorRows
import GoSem.ClaimSeven
namespace Go.Proofs.YtmoiedlfimodeaaGreatDoor
namespace Rows

/-- THE TIED CARD OF 'sastrugilaw04.ConvoyTexts'. -/
def convoyTextsCard : Claim7 := { stood := { row := convoyTextsRow, standIns := [], harness := (true, "4a422a82352b3421c9a20ff2e88aa12d5561af33bbcfb6c653425ef19e6420f3"), looks := true }, kinds := [], alts := [], laidByText := true, laidKinds := [.data, .data, .data, .data, .sentinel, .sentinel, .data, .data, .pinned], laidTests := true, laidLooks := .later }
def ConvoyTextsCardSaid : Prop := Claim7.holds Tryz.pinned (.plain (OpenSpec.ofChange convoyTextsSpec)) convoyTextsCard

/-- THE SECOND FORM's CARD OF 'sastrugilaw04.ConvoyTexts'. -/
def convoyTextsUptoCard : Claim7 := { stood := { row := convoyTextsUptoRow, standIns := [], harness := (true, "4a422a82352b3421c9a20ff2e88aa12d5561af33bbcfb6c653425ef19e6420f3"), looks := true }, kinds := [], alts := [], laidByText := true, laidKinds := [.data, .data, .data, .data, .sentinel, .sentinel, .data, .data, .pinned], laidTests := true, laidLooks := .later }
def ConvoyTextsUptoCardSaid : Prop := Claim7.holds Tryz.pinned (.plain (OpenSpec.upto convoyTextsSpec)) convoyTextsUptoCard
end Rows
end Go.Proofs.YtmoiedlfimodeaaGreatDoor
