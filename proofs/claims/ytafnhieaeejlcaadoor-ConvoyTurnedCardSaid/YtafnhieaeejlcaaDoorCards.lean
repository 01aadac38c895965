/-
  DERIVED. GIVEN WITH THE SEED: THE CARDS: each row of YtafnhieaeejlcaaDoorRows.lean that lists a variable, with what it lists TIED to the program's text (the seventh form; the later family's looks); each row that meets fmt, with fmt's text TOLD by the authors' own Lean function (tested against real Go, not proved from fmt's source: count such statements apart). THE CARD IS WHAT COUNTS. Prove the row's statement (the work); the ties are given (YtafnhieaeejlcaaDoorTie.lean); close each card by the builder's one call (the guide's Derived/Test/ToyasCard.lean, 'card_holds'). Laid BY PROGRAM, IN A SANDBOX (cutbox-door.mjs). By AI agents, Wed Nov 11 2026. No macro, syntax, notation, axiom, sorry.
-/
import Derived.Test.YtafnhieaeejlcaaDoorRows
import GoSem.ClaimSeven
namespace Go.Proofs.YtafnhieaeejlcaaDoor
namespace Rows

/-- THE TIED CARD OF 'sastrugilaw04.ConvoyChecks'. -/
def convoyChecksCard : Claim7 := { stood := { row := convoyChecksRow, standIns := [], harness := (true, "81cfbdabcbb03e447a6b26507d5873a7eb4bff82a64c7b9b8e43c87eaf3670ce"), looks := false }, kinds := [], alts := [], laidByText := true, laidKinds := [.data], laidTests := true, laidLooks := .later }
def ConvoyChecksCardSaid : Prop := Claim7.holds Tryd.pinned (.plain (OpenSpec.ofChange convoyChecksSpec)) convoyChecksCard

/-- THE TIED CARD OF 'sastrugilaw04.ConvoyMeets'. -/
def convoyMeetsCard : Claim7 := { stood := { row := convoyMeetsRow, standIns := [], harness := (true, "81cfbdabcbb03e447a6b26507d5873a7eb4bff82a64c7b9b8e43c87eaf3670ce"), looks := false }, kinds := [], alts := [], laidByText := true, laidKinds := [.data], laidTests := true, laidLooks := .later }
def ConvoyMeetsCardSaid : Prop := Claim7.holds Tryd.pinned (.plain (OpenSpec.ofChange convoyMeetsSpec)) convoyMeetsCard

/-- THE TIED CARD OF 'sastrugilaw04.ConvoyApart'. -/
def convoyApartCard : Claim7 := { stood := { row := convoyApartRow, standIns := [], harness := (true, "81cfbdabcbb03e447a6b26507d5873a7eb4bff82a64c7b9b8e43c87eaf3670ce"), looks := false }, kinds := [], alts := [], laidByText := true, laidKinds := [.data], laidTests := true, laidLooks := .later }
def ConvoyApartCardSaid : Prop := Claim7.holds Tryd.pinned (.plain (OpenSpec.ofChange convoyApartSpec)) convoyApartCard

/-- THE TIED CARD OF 'sastrugilaw04.ConvoyFewer'. -/
def convoyFewerCard : Claim7 := { stood := { row := convoyFewerRow, standIns := [], harness := (true, "81cfbdabcbb03e447a6b26507d5873a7eb4bff82a64c7b9b8e43c87eaf3670ce"), looks := false }, kinds := [], alts := [], laidByText := true, laidKinds := [.data], laidTests := true, laidLooks := .later }
def ConvoyFewerCardSaid : Prop := Claim7.holds Tryd.pinned (.plain (OpenSpec.ofChange convoyFewerSpec)) convoyFewerCard

/-- THE TIED CARD OF 'sastrugilaw04.ConvoyEnds'. -/
def convoyEndsCard : Claim7 := { stood := { row := convoyEndsRow, standIns := [], harness := (true, "81cfbdabcbb03e447a6b26507d5873a7eb4bff82a64c7b9b8e43c87eaf3670ce"), looks := false }, kinds := [], alts := [], laidByText := true, laidKinds := [.data], laidTests := true, laidLooks := .later }
def ConvoyEndsCardSaid : Prop := Claim7.holds Tryd.pinned (.plain (OpenSpec.ofChange convoyEndsSpec)) convoyEndsCard

/-- THE TIED CARD OF 'sastrugilaw04.ConvoyTurned'. -/
def convoyTurnedCard : Claim7 := { stood := { row := convoyTurnedRow, standIns := [], harness := (true, "81cfbdabcbb03e447a6b26507d5873a7eb4bff82a64c7b9b8e43c87eaf3670ce"), looks := false }, kinds := [], alts := [], laidByText := true, laidKinds := [.data], laidTests := true, laidLooks := .later }
def ConvoyTurnedCardSaid : Prop := Claim7.holds Tryd.pinned (.plain (OpenSpec.ofChange convoyTurnedSpec)) convoyTurnedCard

/-- THE TIED CARD OF 'sastrugilaw04.ConvoyWheres'. -/
def convoyWheresCard : Claim7 := { stood := { row := convoyWheresRow, standIns := [], harness := (true, "81cfbdabcbb03e447a6b26507d5873a7eb4bff82a64c7b9b8e43c87eaf3670ce"), looks := false }, kinds := [], alts := [], laidByText := true, laidKinds := [.data], laidTests := true, laidLooks := .later }
def ConvoyWheresCardSaid : Prop := Claim7.holds Tryd.pinned (.plain (OpenSpec.ofChange convoyWheresSpec)) convoyWheresCard

/-- THE TIED CARD OF 'sastrugilaw04.ConvoyTruth'. -/
def convoyTruthCard : Claim7 := { stood := { row := convoyTruthRow, standIns := [], harness := (true, "81cfbdabcbb03e447a6b26507d5873a7eb4bff82a64c7b9b8e43c87eaf3670ce"), looks := false }, kinds := [], alts := [], laidByText := true, laidKinds := [.data], laidTests := true, laidLooks := .later }
def ConvoyTruthCardSaid : Prop := Claim7.holds Tryd.pinned (.plain (OpenSpec.ofChange convoyTruthSpec)) convoyTruthCard

/-- THE TIED CARD OF 'sastrugilaw04.ConvoyExact'. -/
def convoyExactCard : Claim7 := { stood := { row := convoyExactRow, standIns := [], harness := (true, "81cfbdabcbb03e447a6b26507d5873a7eb4bff82a64c7b9b8e43c87eaf3670ce"), looks := false }, kinds := [], alts := [], laidByText := true, laidKinds := [.data], laidTests := true, laidLooks := .later }
def ConvoyExactCardSaid : Prop := Claim7.holds Tryd.pinned (.plain (OpenSpec.ofChange convoyExactSpec)) convoyExactCard

/-- THE TIED CARD OF 'sastrugilaw04.ConvoyShown'. -/
def convoyShownCard : Claim7 := { stood := { row := convoyShownRow, standIns := [], harness := (true, "81cfbdabcbb03e447a6b26507d5873a7eb4bff82a64c7b9b8e43c87eaf3670ce"), looks := false }, kinds := [], alts := [], laidByText := true, laidKinds := [.data], laidTests := true, laidLooks := .later }
def ConvoyShownCardSaid : Prop := Claim7.holds Tryd.pinned (.plain (OpenSpec.ofChange convoyShownSpec)) convoyShownCard

/-- THE TIED CARD OF 'sastrugilaw04.ConvoyReleases'. -/
def convoyReleasesCard : Claim7 := { stood := { row := convoyReleasesRow, standIns := [], harness := (true, "81cfbdabcbb03e447a6b26507d5873a7eb4bff82a64c7b9b8e43c87eaf3670ce"), looks := false }, kinds := [], alts := [], laidByText := true, laidKinds := [.data], laidTests := true, laidLooks := .later }
def ConvoyReleasesCardSaid : Prop := Claim7.holds Tryd.pinned (.plain (OpenSpec.ofChange convoyReleasesSpec)) convoyReleasesCard

/-- THE TIED CARD OF 'sastrugilaw04.ConvoyLets'. -/
def convoyLetsCard : Claim7 := { stood := { row := convoyLetsRow, standIns := [], harness := (true, "81cfbdabcbb03e447a6b26507d5873a7eb4bff82a64c7b9b8e43c87eaf3670ce"), looks := false }, kinds := [], alts := [], laidByText := true, laidKinds := [.data], laidTests := true, laidLooks := .later }
def ConvoyLetsCardSaid : Prop := Claim7.holds Tryd.pinned (.plain (OpenSpec.ofChange convoyLetsSpec)) convoyLetsCard

/-- THE TIED CARD OF 'sastrugilaw04.ConvoyOffs'. -/
def convoyOffsCard : Claim7 := { stood := { row := convoyOffsRow, standIns := [], harness := (true, "81cfbdabcbb03e447a6b26507d5873a7eb4bff82a64c7b9b8e43c87eaf3670ce"), looks := false }, kinds := [], alts := [], laidByText := true, laidKinds := [.data], laidTests := true, laidLooks := .later }
def ConvoyOffsCardSaid : Prop := Claim7.holds Tryd.pinned (.plain (OpenSpec.ofChange convoyOffsSpec)) convoyOffsCard

/-- THE TIED CARD OF 'sastrugilaw04.ConvoyTimes'. -/
def convoyTimesCard : Claim7 := { stood := { row := convoyTimesRow, standIns := [], harness := (true, "81cfbdabcbb03e447a6b26507d5873a7eb4bff82a64c7b9b8e43c87eaf3670ce"), looks := false }, kinds := [], alts := [], laidByText := true, laidKinds := [.data], laidTests := true, laidLooks := .later }
def ConvoyTimesCardSaid : Prop := Claim7.holds Tryd.pinned (.plain (OpenSpec.ofChange convoyTimesSpec)) convoyTimesCard

/-- THE TIED CARD OF 'sastrugilaw04.ConvoyBest'. -/
def convoyBestCard : Claim7 := { stood := { row := convoyBestRow, standIns := [], harness := (true, "81cfbdabcbb03e447a6b26507d5873a7eb4bff82a64c7b9b8e43c87eaf3670ce"), looks := false }, kinds := [], alts := [], laidByText := true, laidKinds := [.data], laidTests := true, laidLooks := .later }
def ConvoyBestCardSaid : Prop := Claim7.holds Tryd.pinned (.plain (OpenSpec.ofChange convoyBestSpec)) convoyBestCard

/-- THE SECOND FORM's CARD OF 'sastrugilaw04.ConvoyChecks'. -/
def convoyChecksUptoCard : Claim7 := { stood := { row := convoyChecksUptoRow, standIns := [], harness := (true, "81cfbdabcbb03e447a6b26507d5873a7eb4bff82a64c7b9b8e43c87eaf3670ce"), looks := false }, kinds := [], alts := [], laidByText := true, laidKinds := [.data], laidTests := true, laidLooks := .later }
def ConvoyChecksUptoCardSaid : Prop := Claim7.holds Tryd.pinned (.plain (OpenSpec.upto convoyChecksSpec)) convoyChecksUptoCard

/-- THE SECOND FORM's CARD OF 'sastrugilaw04.ConvoyMeets'. -/
def convoyMeetsUptoCard : Claim7 := { stood := { row := convoyMeetsUptoRow, standIns := [], harness := (true, "81cfbdabcbb03e447a6b26507d5873a7eb4bff82a64c7b9b8e43c87eaf3670ce"), looks := false }, kinds := [], alts := [], laidByText := true, laidKinds := [.data], laidTests := true, laidLooks := .later }
def ConvoyMeetsUptoCardSaid : Prop := Claim7.holds Tryd.pinned (.plain (OpenSpec.upto convoyMeetsSpec)) convoyMeetsUptoCard

/-- THE SECOND FORM's CARD OF 'sastrugilaw04.ConvoyApart'. -/
def convoyApartUptoCard : Claim7 := { stood := { row := convoyApartUptoRow, standIns := [], harness := (true, "81cfbdabcbb03e447a6b26507d5873a7eb4bff82a64c7b9b8e43c87eaf3670ce"), looks := false }, kinds := [], alts := [], laidByText := true, laidKinds := [.data], laidTests := true, laidLooks := .later }
def ConvoyApartUptoCardSaid : Prop := Claim7.holds Tryd.pinned (.plain (OpenSpec.upto convoyApartSpec)) convoyApartUptoCard

/-- THE SECOND FORM's CARD OF 'sastrugilaw04.ConvoyFewer'. -/
def convoyFewerUptoCard : Claim7 := { stood := { row := convoyFewerUptoRow, standIns := [], harness := (true, "81cfbdabcbb03e447a6b26507d5873a7eb4bff82a64c7b9b8e43c87eaf3670ce"), looks := false }, kinds := [], alts := [], laidByText := true, laidKinds := [.data], laidTests := true, laidLooks := .later }
def ConvoyFewerUptoCardSaid : Prop := Claim7.holds Tryd.pinned (.plain (OpenSpec.upto convoyFewerSpec)) convoyFewerUptoCard

/-- THE SECOND FORM's CARD OF 'sastrugilaw04.ConvoyEnds'. -/
def convoyEndsUptoCard : Claim7 := { stood := { row := convoyEndsUptoRow, standIns := [], harness := (true, "81cfbdabcbb03e447a6b26507d5873a7eb4bff82a64c7b9b8e43c87eaf3670ce"), looks := false }, kinds := [], alts := [], laidByText := true, laidKinds := [.data], laidTests := true, laidLooks := .later }
def ConvoyEndsUptoCardSaid : Prop := Claim7.holds Tryd.pinned (.plain (OpenSpec.upto convoyEndsSpec)) convoyEndsUptoCard

/-- THE SECOND FORM's CARD OF 'sastrugilaw04.ConvoyTurned'. -/
def convoyTurnedUptoCard : Claim7 := { stood := { row := convoyTurnedUptoRow, standIns := [], harness := (true, "81cfbdabcbb03e447a6b26507d5873a7eb4bff82a64c7b9b8e43c87eaf3670ce"), looks := false }, kinds := [], alts := [], laidByText := true, laidKinds := [.data], laidTests := true, laidLooks := .later }
def ConvoyTurnedUptoCardSaid : Prop := Claim7.holds Tryd.pinned (.plain (OpenSpec.upto convoyTurnedSpec)) convoyTurnedUptoCard

/-- THE SECOND FORM's CARD OF 'sastrugilaw04.ConvoyWheres'. -/
def convoyWheresUptoCard : Claim7 := { stood := { row := convoyWheresUptoRow, standIns := [], harness := (true, "81cfbdabcbb03e447a6b26507d5873a7eb4bff82a64c7b9b8e43c87eaf3670ce"), looks := false }, kinds := [], alts := [], laidByText := true, laidKinds := [.data], laidTests := true, laidLooks := .later }
def ConvoyWheresUptoCardSaid : Prop := Claim7.holds Tryd.pinned (.plain (OpenSpec.upto convoyWheresSpec)) convoyWheresUptoCard

/-- THE SECOND FORM's CARD OF 'sastrugilaw04.ConvoyTruth'. -/
def convoyTruthUptoCard : Claim7 := { stood := { row := convoyTruthUptoRow, standIns := [], harness := (true, "81cfbdabcbb03e447a6b26507d5873a7eb4bff82a64c7b9b8e43c87eaf3670ce"), looks := false }, kinds := [], alts := [], laidByText := true, laidKinds := [.data], laidTests := true, laidLooks := .later }
def ConvoyTruthUptoCardSaid : Prop := Claim7.holds Tryd.pinned (.plain (OpenSpec.upto convoyTruthSpec)) convoyTruthUptoCard

/-- THE SECOND FORM's CARD OF 'sastrugilaw04.ConvoyExact'. -/
def convoyExactUptoCard : Claim7 := { stood := { row := convoyExactUptoRow, standIns := [], harness := (true, "81cfbdabcbb03e447a6b26507d5873a7eb4bff82a64c7b9b8e43c87eaf3670ce"), looks := false }, kinds := [], alts := [], laidByText := true, laidKinds := [.data], laidTests := true, laidLooks := .later }
def ConvoyExactUptoCardSaid : Prop := Claim7.holds Tryd.pinned (.plain (OpenSpec.upto convoyExactSpec)) convoyExactUptoCard

/-- THE SECOND FORM's CARD OF 'sastrugilaw04.ConvoyShown'. -/
def convoyShownUptoCard : Claim7 := { stood := { row := convoyShownUptoRow, standIns := [], harness := (true, "81cfbdabcbb03e447a6b26507d5873a7eb4bff82a64c7b9b8e43c87eaf3670ce"), looks := false }, kinds := [], alts := [], laidByText := true, laidKinds := [.data], laidTests := true, laidLooks := .later }
def ConvoyShownUptoCardSaid : Prop := Claim7.holds Tryd.pinned (.plain (OpenSpec.upto convoyShownSpec)) convoyShownUptoCard

/-- THE SECOND FORM's CARD OF 'sastrugilaw04.ConvoyReleases'. -/
def convoyReleasesUptoCard : Claim7 := { stood := { row := convoyReleasesUptoRow, standIns := [], harness := (true, "81cfbdabcbb03e447a6b26507d5873a7eb4bff82a64c7b9b8e43c87eaf3670ce"), looks := false }, kinds := [], alts := [], laidByText := true, laidKinds := [.data], laidTests := true, laidLooks := .later }
def ConvoyReleasesUptoCardSaid : Prop := Claim7.holds Tryd.pinned (.plain (OpenSpec.upto convoyReleasesSpec)) convoyReleasesUptoCard

/-- THE SECOND FORM's CARD OF 'sastrugilaw04.ConvoyLets'. -/
def convoyLetsUptoCard : Claim7 := { stood := { row := convoyLetsUptoRow, standIns := [], harness := (true, "81cfbdabcbb03e447a6b26507d5873a7eb4bff82a64c7b9b8e43c87eaf3670ce"), looks := false }, kinds := [], alts := [], laidByText := true, laidKinds := [.data], laidTests := true, laidLooks := .later }
def ConvoyLetsUptoCardSaid : Prop := Claim7.holds Tryd.pinned (.plain (OpenSpec.upto convoyLetsSpec)) convoyLetsUptoCard

/-- THE SECOND FORM's CARD OF 'sastrugilaw04.ConvoyOffs'. -/
def convoyOffsUptoCard : Claim7 := { stood := { row := convoyOffsUptoRow, standIns := [], harness := (true, "81cfbdabcbb03e447a6b26507d5873a7eb4bff82a64c7b9b8e43c87eaf3670ce"), looks := false }, kinds := [], alts := [], laidByText := true, laidKinds := [.data], laidTests := true, laidLooks := .later }
def ConvoyOffsUptoCardSaid : Prop := Claim7.holds Tryd.pinned (.plain (OpenSpec.upto convoyOffsSpec)) convoyOffsUptoCard

/-- THE SECOND FORM's CARD OF 'sastrugilaw04.ConvoyTimes'. -/
def convoyTimesUptoCard : Claim7 := { stood := { row := convoyTimesUptoRow, standIns := [], harness := (true, "81cfbdabcbb03e447a6b26507d5873a7eb4bff82a64c7b9b8e43c87eaf3670ce"), looks := false }, kinds := [], alts := [], laidByText := true, laidKinds := [.data], laidTests := true, laidLooks := .later }
def ConvoyTimesUptoCardSaid : Prop := Claim7.holds Tryd.pinned (.plain (OpenSpec.upto convoyTimesSpec)) convoyTimesUptoCard

/-- THE SECOND FORM's CARD OF 'sastrugilaw04.ConvoyBest'. -/
def convoyBestUptoCard : Claim7 := { stood := { row := convoyBestUptoRow, standIns := [], harness := (true, "81cfbdabcbb03e447a6b26507d5873a7eb4bff82a64c7b9b8e43c87eaf3670ce"), looks := false }, kinds := [], alts := [], laidByText := true, laidKinds := [.data], laidTests := true, laidLooks := .later }
def ConvoyBestUptoCardSaid : Prop := Claim7.holds Tryd.pinned (.plain (OpenSpec.upto convoyBestSpec)) convoyBestUptoCard
end Rows
end Go.Proofs.YtafnhieaeejlcaaDoor
