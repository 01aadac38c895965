/-
  NARROWER THAN 'FOR EVERY INPUT', by the rows' own cells (each row's printed sentence says how): ConvoyChecks: laid · ConvoyMeets: laid · ConvoyApart: laid · ConvoyFewer: laid · ConvoyEnds: laid · ConvoyTurned: laid · ConvoyWheres: laid · ConvoyTruth: laid · ConvoyExact: laid · ConvoyShown: laid · ConvoyReleases: laid · ConvoyLets: laid · ConvoyOffs: laid · ConvoyTimes: laid · ConvoyBest: laid.
  DERIVED. THE GIVEN ROWS OF THIS SEAT. 15 by the template 'for every input the law returns true; each argument reads behind the call as it read before'; 0 by the template 'total and deterministic' (their statements: YtafnhieaeejlcaaDoorTotals.lean).
  GIVEN WITH THE SEED: the statements are not yours to turn. If you find one false, say at which input.
  Laid BY PROGRAM, IN A SANDBOX (cutbox-rows.mjs): the forced cells as the released guide's own fill.sh prints them over the translation ea349aeb7fb9298a… (all of the seat's roots in one cut). By AI agents, Wed Nov 11 2026. No macro, syntax, notation, axiom, sorry.
-/
import Derived.Test.YtafnhieaeejlcaaDoorChecked
import GoSem.Claim
import GoSem.ClaimJoined
import GoSem.ClaimMapViews
import Derived.JoinedTies
import Derived.KernelRfl
namespace Go.Proofs.YtafnhieaeejlcaaDoor
/- THE CELL 'sum', in the pinned program and in every row, IS THE sha256 OF THE DUMP (.gsa) THAT YtafnhieaeejlcaaDoorProg.lean LOADS. Nothing in Lean hashes anything: it is a label: what it is worth is what the hold of that sum in a sandbox is worth. -/
noncomputable def Tryd.pinned : Pinned := { name := "ytafnhieaeejlcaadoor", sum := "ea349aeb7fb9298a6ca0e3dceb008c798c07a93897e7cf16ad2f80becf7c696f", checked := Tryd.checked }
namespace Rows
def none {H : Type} : Left H := { results := [], args := [] }

/- WHAT THE LISTED PACKAGE-LEVEL VARIABLES READ AS WHEN THE CALL BEGINS. Each datum BY PROGRAM (the guide's laid-datum.mjs) off the statement by which the dump's own 'gosem.cut.vars' lays the variable. In a bare row this is a premise. The card (YtafnhieaeejlcaaDoorCards.lean) ties it to the program's text. -/
def laid_sastrugi_convoy_cases {H : Type} : DataW H := .agg [.agg [.lit (.int .i64 0), .lit (.int .i64 0)], .agg [.lit (.int .i64 1), .lit (.int .i64 0)], .agg [.lit (.int .i64 0), .lit (.int .i64 1)], .agg [.lit (.int .i64 1), .lit (.int .i64 1)]]

/-- 'sastrugilaw04.ConvoyChecks': WHATEVER THE INPUT: true; the input reads as it did. -/
def convoyChecksSpec : ChangeSpec := { name := "convoyChecks", fn := fun _ => fun
  | [d] => { results := [.lit (.bool true)], args := [d] }
  | _ => none }
def convoyChecksRow : OpenClaim := { program := "ytafnhieaeejlcaadoor", sum := "ea349aeb7fb9298a6ca0e3dceb008c798c07a93897e7cf16ad2f80becf7c696f", func := "sastrugi/sastrugilaw04.ConvoyChecks", spec := "convoyChecks", unfollowed := true, recurses := true, named := ["sastrugi/convoy.cases"], apart := false, laid := [("sastrugi/convoy.cases", laid_sastrugi_convoy_cases)] }
def ConvoyChecksSaid : Prop := convoyChecksRow.holds Tryd.pinned (OpenSpec.ofChange convoyChecksSpec)

/-- ITS FALSE NEIGHBOUR: 'it returns false'. Refute it at one input. -/
def convoyChecksWrong : ChangeSpec := { name := "convoyChecks", fn := fun _ => fun
  | [d] => { results := [.lit (.bool false)], args := [d] }
  | _ => none }
def ConvoyChecksWrongFalsely : Prop := convoyChecksRow.holds Tryd.pinned (OpenSpec.ofChange convoyChecksWrong)

/-- 'sastrugilaw04.ConvoyMeets': WHATEVER THE INPUT: true; the input reads as it did. -/
def convoyMeetsSpec : ChangeSpec := { name := "convoyMeets", fn := fun _ => fun
  | [d1, d2] => { results := [.lit (.bool true)], args := [d1, d2] }
  | _ => none }
def convoyMeetsRow : OpenClaim := { program := "ytafnhieaeejlcaadoor", sum := "ea349aeb7fb9298a6ca0e3dceb008c798c07a93897e7cf16ad2f80becf7c696f", func := "sastrugi/sastrugilaw04.ConvoyMeets", spec := "convoyMeets", unfollowed := true, recurses := true, named := ["sastrugi/convoy.cases"], apart := false, laid := [("sastrugi/convoy.cases", laid_sastrugi_convoy_cases)] }
def ConvoyMeetsSaid : Prop := convoyMeetsRow.holds Tryd.pinned (OpenSpec.ofChange convoyMeetsSpec)

/-- ITS FALSE NEIGHBOUR: 'it returns false'. Refute it at one input. -/
def convoyMeetsWrong : ChangeSpec := { name := "convoyMeets", fn := fun _ => fun
  | [d1, d2] => { results := [.lit (.bool false)], args := [d1, d2] }
  | _ => none }
def ConvoyMeetsWrongFalsely : Prop := convoyMeetsRow.holds Tryd.pinned (OpenSpec.ofChange convoyMeetsWrong)

/-- 'sastrugilaw04.ConvoyApart': WHATEVER THE INPUT: true; the input reads as it did. -/
def convoyApartSpec : ChangeSpec := { name := "convoyApart", fn := fun _ => fun
  | [d] => { results := [.lit (.bool true)], args := [d] }
  | _ => none }
def convoyApartRow : OpenClaim := { program := "ytafnhieaeejlcaadoor", sum := "ea349aeb7fb9298a6ca0e3dceb008c798c07a93897e7cf16ad2f80becf7c696f", func := "sastrugi/sastrugilaw04.ConvoyApart", spec := "convoyApart", unfollowed := true, recurses := true, named := ["sastrugi/convoy.cases"], apart := false, laid := [("sastrugi/convoy.cases", laid_sastrugi_convoy_cases)] }
def ConvoyApartSaid : Prop := convoyApartRow.holds Tryd.pinned (OpenSpec.ofChange convoyApartSpec)

/-- ITS FALSE NEIGHBOUR: 'it returns false'. Refute it at one input. -/
def convoyApartWrong : ChangeSpec := { name := "convoyApart", fn := fun _ => fun
  | [d] => { results := [.lit (.bool false)], args := [d] }
  | _ => none }
def ConvoyApartWrongFalsely : Prop := convoyApartRow.holds Tryd.pinned (OpenSpec.ofChange convoyApartWrong)

/-- 'sastrugilaw04.ConvoyFewer': WHATEVER THE INPUT: true; the input reads as it did. -/
def convoyFewerSpec : ChangeSpec := { name := "convoyFewer", fn := fun _ => fun
  | [d] => { results := [.lit (.bool true)], args := [d] }
  | _ => none }
def convoyFewerRow : OpenClaim := { program := "ytafnhieaeejlcaadoor", sum := "ea349aeb7fb9298a6ca0e3dceb008c798c07a93897e7cf16ad2f80becf7c696f", func := "sastrugi/sastrugilaw04.ConvoyFewer", spec := "convoyFewer", unfollowed := true, recurses := true, named := ["sastrugi/convoy.cases"], apart := false, laid := [("sastrugi/convoy.cases", laid_sastrugi_convoy_cases)] }
def ConvoyFewerSaid : Prop := convoyFewerRow.holds Tryd.pinned (OpenSpec.ofChange convoyFewerSpec)

/-- ITS FALSE NEIGHBOUR: 'it returns false'. Refute it at one input. -/
def convoyFewerWrong : ChangeSpec := { name := "convoyFewer", fn := fun _ => fun
  | [d] => { results := [.lit (.bool false)], args := [d] }
  | _ => none }
def ConvoyFewerWrongFalsely : Prop := convoyFewerRow.holds Tryd.pinned (OpenSpec.ofChange convoyFewerWrong)

/-- 'sastrugilaw04.ConvoyEnds': WHATEVER THE INPUT: true; the input reads as it did. -/
def convoyEndsSpec : ChangeSpec := { name := "convoyEnds", fn := fun _ => fun
  | [d] => { results := [.lit (.bool true)], args := [d] }
  | _ => none }
def convoyEndsRow : OpenClaim := { program := "ytafnhieaeejlcaadoor", sum := "ea349aeb7fb9298a6ca0e3dceb008c798c07a93897e7cf16ad2f80becf7c696f", func := "sastrugi/sastrugilaw04.ConvoyEnds", spec := "convoyEnds", unfollowed := true, recurses := true, named := ["sastrugi/convoy.cases"], apart := false, laid := [("sastrugi/convoy.cases", laid_sastrugi_convoy_cases)] }
def ConvoyEndsSaid : Prop := convoyEndsRow.holds Tryd.pinned (OpenSpec.ofChange convoyEndsSpec)

/-- ITS FALSE NEIGHBOUR: 'it returns false'. Refute it at one input. -/
def convoyEndsWrong : ChangeSpec := { name := "convoyEnds", fn := fun _ => fun
  | [d] => { results := [.lit (.bool false)], args := [d] }
  | _ => none }
def ConvoyEndsWrongFalsely : Prop := convoyEndsRow.holds Tryd.pinned (OpenSpec.ofChange convoyEndsWrong)

/-- 'sastrugilaw04.ConvoyTurned': WHATEVER THE INPUT: true; the input reads as it did. -/
def convoyTurnedSpec : ChangeSpec := { name := "convoyTurned", fn := fun _ => fun
  | [d] => { results := [.lit (.bool true)], args := [d] }
  | _ => none }
def convoyTurnedRow : OpenClaim := { program := "ytafnhieaeejlcaadoor", sum := "ea349aeb7fb9298a6ca0e3dceb008c798c07a93897e7cf16ad2f80becf7c696f", func := "sastrugi/sastrugilaw04.ConvoyTurned", spec := "convoyTurned", unfollowed := true, recurses := true, named := ["sastrugi/convoy.cases"], apart := false, laid := [("sastrugi/convoy.cases", laid_sastrugi_convoy_cases)] }
def ConvoyTurnedSaid : Prop := convoyTurnedRow.holds Tryd.pinned (OpenSpec.ofChange convoyTurnedSpec)

/-- ITS FALSE NEIGHBOUR: 'it returns false'. Refute it at one input. -/
def convoyTurnedWrong : ChangeSpec := { name := "convoyTurned", fn := fun _ => fun
  | [d] => { results := [.lit (.bool false)], args := [d] }
  | _ => none }
def ConvoyTurnedWrongFalsely : Prop := convoyTurnedRow.holds Tryd.pinned (OpenSpec.ofChange convoyTurnedWrong)

/-- 'sastrugilaw04.ConvoyWheres': WHATEVER THE INPUT: true; the input reads as it did. -/
def convoyWheresSpec : ChangeSpec := { name := "convoyWheres", fn := fun _ => fun
  | [d1, d2, d3, d4, d5] => { results := [.lit (.bool true)], args := [d1, d2, d3, d4, d5] }
  | _ => none }
def convoyWheresRow : OpenClaim := { program := "ytafnhieaeejlcaadoor", sum := "ea349aeb7fb9298a6ca0e3dceb008c798c07a93897e7cf16ad2f80becf7c696f", func := "sastrugi/sastrugilaw04.ConvoyWheres", spec := "convoyWheres", unfollowed := true, recurses := true, named := ["sastrugi/convoy.cases"], apart := false, laid := [("sastrugi/convoy.cases", laid_sastrugi_convoy_cases)] }
def ConvoyWheresSaid : Prop := convoyWheresRow.holds Tryd.pinned (OpenSpec.ofChange convoyWheresSpec)

/-- ITS FALSE NEIGHBOUR: 'it returns false'. Refute it at one input. -/
def convoyWheresWrong : ChangeSpec := { name := "convoyWheres", fn := fun _ => fun
  | [d1, d2, d3, d4, d5] => { results := [.lit (.bool false)], args := [d1, d2, d3, d4, d5] }
  | _ => none }
def ConvoyWheresWrongFalsely : Prop := convoyWheresRow.holds Tryd.pinned (OpenSpec.ofChange convoyWheresWrong)

/-- 'sastrugilaw04.ConvoyTruth': WHATEVER THE INPUT: true; the input reads as it did. -/
def convoyTruthSpec : ChangeSpec := { name := "convoyTruth", fn := fun _ => fun
  | [d] => { results := [.lit (.bool true)], args := [d] }
  | _ => none }
def convoyTruthRow : OpenClaim := { program := "ytafnhieaeejlcaadoor", sum := "ea349aeb7fb9298a6ca0e3dceb008c798c07a93897e7cf16ad2f80becf7c696f", func := "sastrugi/sastrugilaw04.ConvoyTruth", spec := "convoyTruth", unfollowed := true, recurses := true, named := ["sastrugi/convoy.cases"], apart := false, laid := [("sastrugi/convoy.cases", laid_sastrugi_convoy_cases)] }
def ConvoyTruthSaid : Prop := convoyTruthRow.holds Tryd.pinned (OpenSpec.ofChange convoyTruthSpec)

/-- ITS FALSE NEIGHBOUR: 'it returns false'. Refute it at one input. -/
def convoyTruthWrong : ChangeSpec := { name := "convoyTruth", fn := fun _ => fun
  | [d] => { results := [.lit (.bool false)], args := [d] }
  | _ => none }
def ConvoyTruthWrongFalsely : Prop := convoyTruthRow.holds Tryd.pinned (OpenSpec.ofChange convoyTruthWrong)

/-- 'sastrugilaw04.ConvoyExact': WHATEVER THE INPUT: true; the input reads as it did. -/
def convoyExactSpec : ChangeSpec := { name := "convoyExact", fn := fun _ => fun
  | [d] => { results := [.lit (.bool true)], args := [d] }
  | _ => none }
def convoyExactRow : OpenClaim := { program := "ytafnhieaeejlcaadoor", sum := "ea349aeb7fb9298a6ca0e3dceb008c798c07a93897e7cf16ad2f80becf7c696f", func := "sastrugi/sastrugilaw04.ConvoyExact", spec := "convoyExact", unfollowed := true, recurses := true, named := ["sastrugi/convoy.cases"], apart := false, laid := [("sastrugi/convoy.cases", laid_sastrugi_convoy_cases)] }
def ConvoyExactSaid : Prop := convoyExactRow.holds Tryd.pinned (OpenSpec.ofChange convoyExactSpec)

/-- ITS FALSE NEIGHBOUR: 'it returns false'. Refute it at one input. -/
def convoyExactWrong : ChangeSpec := { name := "convoyExact", fn := fun _ => fun
  | [d] => { results := [.lit (.bool false)], args := [d] }
  | _ => none }
def ConvoyExactWrongFalsely : Prop := convoyExactRow.holds Tryd.pinned (OpenSpec.ofChange convoyExactWrong)

/-- 'sastrugilaw04.ConvoyShown': WHATEVER THE INPUT: true; the input reads as it did. -/
def convoyShownSpec : ChangeSpec := { name := "convoyShown", fn := fun _ => fun
  | [d] => { results := [.lit (.bool true)], args := [d] }
  | _ => none }
def convoyShownRow : OpenClaim := { program := "ytafnhieaeejlcaadoor", sum := "ea349aeb7fb9298a6ca0e3dceb008c798c07a93897e7cf16ad2f80becf7c696f", func := "sastrugi/sastrugilaw04.ConvoyShown", spec := "convoyShown", unfollowed := true, recurses := true, named := ["sastrugi/convoy.cases"], apart := false, laid := [("sastrugi/convoy.cases", laid_sastrugi_convoy_cases)] }
def ConvoyShownSaid : Prop := convoyShownRow.holds Tryd.pinned (OpenSpec.ofChange convoyShownSpec)

/-- ITS FALSE NEIGHBOUR: 'it returns false'. Refute it at one input. -/
def convoyShownWrong : ChangeSpec := { name := "convoyShown", fn := fun _ => fun
  | [d] => { results := [.lit (.bool false)], args := [d] }
  | _ => none }
def ConvoyShownWrongFalsely : Prop := convoyShownRow.holds Tryd.pinned (OpenSpec.ofChange convoyShownWrong)

/-- 'sastrugilaw04.ConvoyReleases': WHATEVER THE INPUT: true; the input reads as it did. -/
def convoyReleasesSpec : ChangeSpec := { name := "convoyReleases", fn := fun _ => fun
  | [d1, d2, d3, d4, d5] => { results := [.lit (.bool true)], args := [d1, d2, d3, d4, d5] }
  | _ => none }
def convoyReleasesRow : OpenClaim := { program := "ytafnhieaeejlcaadoor", sum := "ea349aeb7fb9298a6ca0e3dceb008c798c07a93897e7cf16ad2f80becf7c696f", func := "sastrugi/sastrugilaw04.ConvoyReleases", spec := "convoyReleases", unfollowed := true, recurses := true, named := ["sastrugi/convoy.cases"], apart := false, laid := [("sastrugi/convoy.cases", laid_sastrugi_convoy_cases)] }
def ConvoyReleasesSaid : Prop := convoyReleasesRow.holds Tryd.pinned (OpenSpec.ofChange convoyReleasesSpec)

/-- ITS FALSE NEIGHBOUR: 'it returns false'. Refute it at one input. -/
def convoyReleasesWrong : ChangeSpec := { name := "convoyReleases", fn := fun _ => fun
  | [d1, d2, d3, d4, d5] => { results := [.lit (.bool false)], args := [d1, d2, d3, d4, d5] }
  | _ => none }
def ConvoyReleasesWrongFalsely : Prop := convoyReleasesRow.holds Tryd.pinned (OpenSpec.ofChange convoyReleasesWrong)

/-- 'sastrugilaw04.ConvoyLets': WHATEVER THE INPUT: true; the input reads as it did. -/
def convoyLetsSpec : ChangeSpec := { name := "convoyLets", fn := fun _ => fun
  | [d] => { results := [.lit (.bool true)], args := [d] }
  | _ => none }
def convoyLetsRow : OpenClaim := { program := "ytafnhieaeejlcaadoor", sum := "ea349aeb7fb9298a6ca0e3dceb008c798c07a93897e7cf16ad2f80becf7c696f", func := "sastrugi/sastrugilaw04.ConvoyLets", spec := "convoyLets", unfollowed := true, recurses := true, named := ["sastrugi/convoy.cases"], apart := false, laid := [("sastrugi/convoy.cases", laid_sastrugi_convoy_cases)] }
def ConvoyLetsSaid : Prop := convoyLetsRow.holds Tryd.pinned (OpenSpec.ofChange convoyLetsSpec)

/-- ITS FALSE NEIGHBOUR: 'it returns false'. Refute it at one input. -/
def convoyLetsWrong : ChangeSpec := { name := "convoyLets", fn := fun _ => fun
  | [d] => { results := [.lit (.bool false)], args := [d] }
  | _ => none }
def ConvoyLetsWrongFalsely : Prop := convoyLetsRow.holds Tryd.pinned (OpenSpec.ofChange convoyLetsWrong)

/-- 'sastrugilaw04.ConvoyOffs': WHATEVER THE INPUT: true; the input reads as it did. -/
def convoyOffsSpec : ChangeSpec := { name := "convoyOffs", fn := fun _ => fun
  | [d1, d2, d3, d4] => { results := [.lit (.bool true)], args := [d1, d2, d3, d4] }
  | _ => none }
def convoyOffsRow : OpenClaim := { program := "ytafnhieaeejlcaadoor", sum := "ea349aeb7fb9298a6ca0e3dceb008c798c07a93897e7cf16ad2f80becf7c696f", func := "sastrugi/sastrugilaw04.ConvoyOffs", spec := "convoyOffs", unfollowed := true, recurses := true, named := ["sastrugi/convoy.cases"], apart := false, laid := [("sastrugi/convoy.cases", laid_sastrugi_convoy_cases)] }
def ConvoyOffsSaid : Prop := convoyOffsRow.holds Tryd.pinned (OpenSpec.ofChange convoyOffsSpec)

/-- ITS FALSE NEIGHBOUR: 'it returns false'. Refute it at one input. -/
def convoyOffsWrong : ChangeSpec := { name := "convoyOffs", fn := fun _ => fun
  | [d1, d2, d3, d4] => { results := [.lit (.bool false)], args := [d1, d2, d3, d4] }
  | _ => none }
def ConvoyOffsWrongFalsely : Prop := convoyOffsRow.holds Tryd.pinned (OpenSpec.ofChange convoyOffsWrong)

/-- 'sastrugilaw04.ConvoyTimes': WHATEVER THE INPUT: true; the input reads as it did. -/
def convoyTimesSpec : ChangeSpec := { name := "convoyTimes", fn := fun _ => fun
  | [d1, d2, d3] => { results := [.lit (.bool true)], args := [d1, d2, d3] }
  | _ => none }
def convoyTimesRow : OpenClaim := { program := "ytafnhieaeejlcaadoor", sum := "ea349aeb7fb9298a6ca0e3dceb008c798c07a93897e7cf16ad2f80becf7c696f", func := "sastrugi/sastrugilaw04.ConvoyTimes", spec := "convoyTimes", unfollowed := true, recurses := true, named := ["sastrugi/convoy.cases"], apart := false, laid := [("sastrugi/convoy.cases", laid_sastrugi_convoy_cases)] }
def ConvoyTimesSaid : Prop := convoyTimesRow.holds Tryd.pinned (OpenSpec.ofChange convoyTimesSpec)

/-- ITS FALSE NEIGHBOUR: 'it returns false'. Refute it at one input. -/
def convoyTimesWrong : ChangeSpec := { name := "convoyTimes", fn := fun _ => fun
  | [d1, d2, d3] => { results := [.lit (.bool false)], args := [d1, d2, d3] }
  | _ => none }
def ConvoyTimesWrongFalsely : Prop := convoyTimesRow.holds Tryd.pinned (OpenSpec.ofChange convoyTimesWrong)

/-- 'sastrugilaw04.ConvoyBest': WHATEVER THE INPUT: true; the input reads as it did. -/
def convoyBestSpec : ChangeSpec := { name := "convoyBest", fn := fun _ => fun
  | [d] => { results := [.lit (.bool true)], args := [d] }
  | _ => none }
def convoyBestRow : OpenClaim := { program := "ytafnhieaeejlcaadoor", sum := "ea349aeb7fb9298a6ca0e3dceb008c798c07a93897e7cf16ad2f80becf7c696f", func := "sastrugi/sastrugilaw04.ConvoyBest", spec := "convoyBest", unfollowed := true, recurses := true, named := ["sastrugi/convoy.cases"], apart := false, laid := [("sastrugi/convoy.cases", laid_sastrugi_convoy_cases)] }
def ConvoyBestSaid : Prop := convoyBestRow.holds Tryd.pinned (OpenSpec.ofChange convoyBestSpec)

/-- ITS FALSE NEIGHBOUR: 'it returns false'. Refute it at one input. -/
def convoyBestWrong : ChangeSpec := { name := "convoyBest", fn := fun _ => fun
  | [d] => { results := [.lit (.bool false)], args := [d] }
  | _ => none }
def ConvoyBestWrongFalsely : Prop := convoyBestRow.holds Tryd.pinned (OpenSpec.ofChange convoyBestWrong)

/- THE SECOND FORM. 'bulk': how many values and letters a reading holds, each counted each time it is reached (what is shared counts as often as it is met; a slice's spare places count too). A statement '..UptoSaid' is the law's where the arguments, and the package variables that the reading takes, are together of bulk at most 1048576: NARROWER than '..Said'. Prove '..Said' where nothing that the law and all that it calls make is longer than what came in: it says more and counts as full. Else prove '..UptoSaid'. A law counts once. -/
mutual
def uptoBulk {H : Type} : DataW H → Nat
  | .lit (.string bytes) => bytes.length + 1
  | .lit _ => 1
  | .nil => 1
  | .ptr d => uptoBulk d + 1
  | .slice elems spare => uptoBulkAll elems + uptoBulkAll spare + 1
  | .agg parts => uptoBulkAll parts + 1
  | .iface _ d => uptoBulk d + 1
  | .map entries => uptoBulkEntries entries + 1
  | .held _ => 1
def uptoBulkAll {H : Type} : List (DataW H) → Nat
  | [] => 0
  | d :: r => uptoBulk d + uptoBulkAll r
def uptoBulkEntries {H : Type} : List (Lit × DataW H) → Nat
  | [] => 0
  | x :: r => uptoBulkEntry x + uptoBulkEntries r
def uptoBulkEntry {H : Type} : Lit × DataW H → Nat
  | (.string bytes, d) => bytes.length + uptoBulk d + 1
  | (_, d) => uptoBulk d + 1
 end
def uptoSmall : (H : Type) → List (DataW H) → Bool := fun _ ds => decide (uptoBulkAll ds ≤ 1048576)
def OpenSpec.upto (s : _root_.Go.ChangeSpec) : _root_.Go.OpenSpec := { _root_.Go.OpenSpec.ofChange s with cond := some uptoSmall }

/-- 'sastrugilaw04.ConvoyChecks', WHERE WHAT IT READS IS OF BULK AT MOST 1048576: true; the input reads as it did. -/
def convoyChecksUptoRow : OpenClaim := { program := "ytafnhieaeejlcaadoor", sum := "ea349aeb7fb9298a6ca0e3dceb008c798c07a93897e7cf16ad2f80becf7c696f", func := "sastrugi/sastrugilaw04.ConvoyChecks", spec := "convoyChecks", unfollowed := true, recurses := true, named := ["sastrugi/convoy.cases"], apart := false, laid := [("sastrugi/convoy.cases", laid_sastrugi_convoy_cases)], narrowed := true }
def ConvoyChecksUptoSaid : Prop := convoyChecksUptoRow.holds Tryd.pinned (OpenSpec.upto convoyChecksSpec)

/-- 'sastrugilaw04.ConvoyMeets', WHERE WHAT IT READS IS OF BULK AT MOST 1048576: true; the input reads as it did. -/
def convoyMeetsUptoRow : OpenClaim := { program := "ytafnhieaeejlcaadoor", sum := "ea349aeb7fb9298a6ca0e3dceb008c798c07a93897e7cf16ad2f80becf7c696f", func := "sastrugi/sastrugilaw04.ConvoyMeets", spec := "convoyMeets", unfollowed := true, recurses := true, named := ["sastrugi/convoy.cases"], apart := false, laid := [("sastrugi/convoy.cases", laid_sastrugi_convoy_cases)], narrowed := true }
def ConvoyMeetsUptoSaid : Prop := convoyMeetsUptoRow.holds Tryd.pinned (OpenSpec.upto convoyMeetsSpec)

/-- 'sastrugilaw04.ConvoyApart', WHERE WHAT IT READS IS OF BULK AT MOST 1048576: true; the input reads as it did. -/
def convoyApartUptoRow : OpenClaim := { program := "ytafnhieaeejlcaadoor", sum := "ea349aeb7fb9298a6ca0e3dceb008c798c07a93897e7cf16ad2f80becf7c696f", func := "sastrugi/sastrugilaw04.ConvoyApart", spec := "convoyApart", unfollowed := true, recurses := true, named := ["sastrugi/convoy.cases"], apart := false, laid := [("sastrugi/convoy.cases", laid_sastrugi_convoy_cases)], narrowed := true }
def ConvoyApartUptoSaid : Prop := convoyApartUptoRow.holds Tryd.pinned (OpenSpec.upto convoyApartSpec)

/-- 'sastrugilaw04.ConvoyFewer', WHERE WHAT IT READS IS OF BULK AT MOST 1048576: true; the input reads as it did. -/
def convoyFewerUptoRow : OpenClaim := { program := "ytafnhieaeejlcaadoor", sum := "ea349aeb7fb9298a6ca0e3dceb008c798c07a93897e7cf16ad2f80becf7c696f", func := "sastrugi/sastrugilaw04.ConvoyFewer", spec := "convoyFewer", unfollowed := true, recurses := true, named := ["sastrugi/convoy.cases"], apart := false, laid := [("sastrugi/convoy.cases", laid_sastrugi_convoy_cases)], narrowed := true }
def ConvoyFewerUptoSaid : Prop := convoyFewerUptoRow.holds Tryd.pinned (OpenSpec.upto convoyFewerSpec)

/-- 'sastrugilaw04.ConvoyEnds', WHERE WHAT IT READS IS OF BULK AT MOST 1048576: true; the input reads as it did. -/
def convoyEndsUptoRow : OpenClaim := { program := "ytafnhieaeejlcaadoor", sum := "ea349aeb7fb9298a6ca0e3dceb008c798c07a93897e7cf16ad2f80becf7c696f", func := "sastrugi/sastrugilaw04.ConvoyEnds", spec := "convoyEnds", unfollowed := true, recurses := true, named := ["sastrugi/convoy.cases"], apart := false, laid := [("sastrugi/convoy.cases", laid_sastrugi_convoy_cases)], narrowed := true }
def ConvoyEndsUptoSaid : Prop := convoyEndsUptoRow.holds Tryd.pinned (OpenSpec.upto convoyEndsSpec)

/-- 'sastrugilaw04.ConvoyTurned', WHERE WHAT IT READS IS OF BULK AT MOST 1048576: true; the input reads as it did. -/
def convoyTurnedUptoRow : OpenClaim := { program := "ytafnhieaeejlcaadoor", sum := "ea349aeb7fb9298a6ca0e3dceb008c798c07a93897e7cf16ad2f80becf7c696f", func := "sastrugi/sastrugilaw04.ConvoyTurned", spec := "convoyTurned", unfollowed := true, recurses := true, named := ["sastrugi/convoy.cases"], apart := false, laid := [("sastrugi/convoy.cases", laid_sastrugi_convoy_cases)], narrowed := true }
def ConvoyTurnedUptoSaid : Prop := convoyTurnedUptoRow.holds Tryd.pinned (OpenSpec.upto convoyTurnedSpec)

/-- 'sastrugilaw04.ConvoyWheres', WHERE WHAT IT READS IS OF BULK AT MOST 1048576: true; the input reads as it did. -/
def convoyWheresUptoRow : OpenClaim := { program := "ytafnhieaeejlcaadoor", sum := "ea349aeb7fb9298a6ca0e3dceb008c798c07a93897e7cf16ad2f80becf7c696f", func := "sastrugi/sastrugilaw04.ConvoyWheres", spec := "convoyWheres", unfollowed := true, recurses := true, named := ["sastrugi/convoy.cases"], apart := false, laid := [("sastrugi/convoy.cases", laid_sastrugi_convoy_cases)], narrowed := true }
def ConvoyWheresUptoSaid : Prop := convoyWheresUptoRow.holds Tryd.pinned (OpenSpec.upto convoyWheresSpec)

/-- 'sastrugilaw04.ConvoyTruth', WHERE WHAT IT READS IS OF BULK AT MOST 1048576: true; the input reads as it did. -/
def convoyTruthUptoRow : OpenClaim := { program := "ytafnhieaeejlcaadoor", sum := "ea349aeb7fb9298a6ca0e3dceb008c798c07a93897e7cf16ad2f80becf7c696f", func := "sastrugi/sastrugilaw04.ConvoyTruth", spec := "convoyTruth", unfollowed := true, recurses := true, named := ["sastrugi/convoy.cases"], apart := false, laid := [("sastrugi/convoy.cases", laid_sastrugi_convoy_cases)], narrowed := true }
def ConvoyTruthUptoSaid : Prop := convoyTruthUptoRow.holds Tryd.pinned (OpenSpec.upto convoyTruthSpec)

/-- 'sastrugilaw04.ConvoyExact', WHERE WHAT IT READS IS OF BULK AT MOST 1048576: true; the input reads as it did. -/
def convoyExactUptoRow : OpenClaim := { program := "ytafnhieaeejlcaadoor", sum := "ea349aeb7fb9298a6ca0e3dceb008c798c07a93897e7cf16ad2f80becf7c696f", func := "sastrugi/sastrugilaw04.ConvoyExact", spec := "convoyExact", unfollowed := true, recurses := true, named := ["sastrugi/convoy.cases"], apart := false, laid := [("sastrugi/convoy.cases", laid_sastrugi_convoy_cases)], narrowed := true }
def ConvoyExactUptoSaid : Prop := convoyExactUptoRow.holds Tryd.pinned (OpenSpec.upto convoyExactSpec)

/-- 'sastrugilaw04.ConvoyShown', WHERE WHAT IT READS IS OF BULK AT MOST 1048576: true; the input reads as it did. -/
def convoyShownUptoRow : OpenClaim := { program := "ytafnhieaeejlcaadoor", sum := "ea349aeb7fb9298a6ca0e3dceb008c798c07a93897e7cf16ad2f80becf7c696f", func := "sastrugi/sastrugilaw04.ConvoyShown", spec := "convoyShown", unfollowed := true, recurses := true, named := ["sastrugi/convoy.cases"], apart := false, laid := [("sastrugi/convoy.cases", laid_sastrugi_convoy_cases)], narrowed := true }
def ConvoyShownUptoSaid : Prop := convoyShownUptoRow.holds Tryd.pinned (OpenSpec.upto convoyShownSpec)

/-- 'sastrugilaw04.ConvoyReleases', WHERE WHAT IT READS IS OF BULK AT MOST 1048576: true; the input reads as it did. -/
def convoyReleasesUptoRow : OpenClaim := { program := "ytafnhieaeejlcaadoor", sum := "ea349aeb7fb9298a6ca0e3dceb008c798c07a93897e7cf16ad2f80becf7c696f", func := "sastrugi/sastrugilaw04.ConvoyReleases", spec := "convoyReleases", unfollowed := true, recurses := true, named := ["sastrugi/convoy.cases"], apart := false, laid := [("sastrugi/convoy.cases", laid_sastrugi_convoy_cases)], narrowed := true }
def ConvoyReleasesUptoSaid : Prop := convoyReleasesUptoRow.holds Tryd.pinned (OpenSpec.upto convoyReleasesSpec)

/-- 'sastrugilaw04.ConvoyLets', WHERE WHAT IT READS IS OF BULK AT MOST 1048576: true; the input reads as it did. -/
def convoyLetsUptoRow : OpenClaim := { program := "ytafnhieaeejlcaadoor", sum := "ea349aeb7fb9298a6ca0e3dceb008c798c07a93897e7cf16ad2f80becf7c696f", func := "sastrugi/sastrugilaw04.ConvoyLets", spec := "convoyLets", unfollowed := true, recurses := true, named := ["sastrugi/convoy.cases"], apart := false, laid := [("sastrugi/convoy.cases", laid_sastrugi_convoy_cases)], narrowed := true }
def ConvoyLetsUptoSaid : Prop := convoyLetsUptoRow.holds Tryd.pinned (OpenSpec.upto convoyLetsSpec)

/-- 'sastrugilaw04.ConvoyOffs', WHERE WHAT IT READS IS OF BULK AT MOST 1048576: true; the input reads as it did. -/
def convoyOffsUptoRow : OpenClaim := { program := "ytafnhieaeejlcaadoor", sum := "ea349aeb7fb9298a6ca0e3dceb008c798c07a93897e7cf16ad2f80becf7c696f", func := "sastrugi/sastrugilaw04.ConvoyOffs", spec := "convoyOffs", unfollowed := true, recurses := true, named := ["sastrugi/convoy.cases"], apart := false, laid := [("sastrugi/convoy.cases", laid_sastrugi_convoy_cases)], narrowed := true }
def ConvoyOffsUptoSaid : Prop := convoyOffsUptoRow.holds Tryd.pinned (OpenSpec.upto convoyOffsSpec)

/-- 'sastrugilaw04.ConvoyTimes', WHERE WHAT IT READS IS OF BULK AT MOST 1048576: true; the input reads as it did. -/
def convoyTimesUptoRow : OpenClaim := { program := "ytafnhieaeejlcaadoor", sum := "ea349aeb7fb9298a6ca0e3dceb008c798c07a93897e7cf16ad2f80becf7c696f", func := "sastrugi/sastrugilaw04.ConvoyTimes", spec := "convoyTimes", unfollowed := true, recurses := true, named := ["sastrugi/convoy.cases"], apart := false, laid := [("sastrugi/convoy.cases", laid_sastrugi_convoy_cases)], narrowed := true }
def ConvoyTimesUptoSaid : Prop := convoyTimesUptoRow.holds Tryd.pinned (OpenSpec.upto convoyTimesSpec)

/-- 'sastrugilaw04.ConvoyBest', WHERE WHAT IT READS IS OF BULK AT MOST 1048576: true; the input reads as it did. -/
def convoyBestUptoRow : OpenClaim := { program := "ytafnhieaeejlcaadoor", sum := "ea349aeb7fb9298a6ca0e3dceb008c798c07a93897e7cf16ad2f80becf7c696f", func := "sastrugi/sastrugilaw04.ConvoyBest", spec := "convoyBest", unfollowed := true, recurses := true, named := ["sastrugi/convoy.cases"], apart := false, laid := [("sastrugi/convoy.cases", laid_sastrugi_convoy_cases)], narrowed := true }
def ConvoyBestUptoSaid : Prop := convoyBestUptoRow.holds Tryd.pinned (OpenSpec.upto convoyBestSpec)

end Rows
end Go.Proofs.YtafnhieaeejlcaaDoor
