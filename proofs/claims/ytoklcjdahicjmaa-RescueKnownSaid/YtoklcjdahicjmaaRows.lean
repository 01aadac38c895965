/-
  No cell of these rows narrows 'for every input' (looked for: loops, veiled, ifaces, maps, wideKeys, modest, calm, conditions, laid).
  DERIVED. THE GIVEN ROWS OF THIS SEAT. 13 by the template 'for every input the law returns true; each argument reads behind the call as it read before'; 0 by the template 'total and deterministic' (their statements: YtoklcjdahicjmaaTotals.lean).
  GIVEN WITH THE SEED: the statements are not yours to turn. If you find one false, say at which input.
  Laid BY PROGRAM, IN A SANDBOX (cutbox-rows.mjs): the forced cells as the released guide's own fill.sh prints them over the translation 93a181333e069fb0… (all of the seat's roots in one cut). By AI agents, Wed Nov 11 2026. No macro, syntax, notation, axiom, sorry.
-/
import Derived.Test.YtoklcjdahicjmaaChecked
import GoSem.Claim
import GoSem.ClaimJoined
import GoSem.ClaimMapViews
import Derived.JoinedTies
import Derived.KernelRfl
namespace Go.Proofs.Ytoklcjdahicjmaa
/- THE CELL 'sum', in the pinned program and in every row, IS THE sha256 OF THE DUMP (.gsa) THAT YtoklcjdahicjmaaProg.lean LOADS. Nothing in Lean hashes anything: it is a label: what it is worth is what the hold of that sum in a sandbox is worth. -/
noncomputable def Try.pinned : Pinned := { name := "ytoklcjdahicjmaa", sum := "93a181333e069fb0a3d9ec4b7452a03109764758fc2b8e1b712934bffb41adde", checked := Try.checked }
namespace Rows
def none {H : Type} : Left H := { results := [], args := [] }

/-- 'sastrugilaw07.RescueSends': WHATEVER THE INPUT: true; the input reads as it did. -/
def rescueSendsSpec : ChangeSpec := { name := "rescueSends", fn := fun _ => fun
  | [d1, d2, d3, d4] => { results := [.lit (.bool true)], args := [d1, d2, d3, d4] }
  | _ => none }
def rescueSendsRow : OpenClaim := { program := "ytoklcjdahicjmaa", sum := "93a181333e069fb0a3d9ec4b7452a03109764758fc2b8e1b712934bffb41adde", func := "sastrugi/sastrugilaw07.RescueSends", spec := "rescueSends", unfollowed := true, recurses := true, apart := false }
def RescueSendsSaid : Prop := rescueSendsRow.holds Try.pinned (OpenSpec.ofChange rescueSendsSpec)

/-- ITS FALSE NEIGHBOUR: 'it returns false'. Refute it at one input. -/
def rescueSendsWrong : ChangeSpec := { name := "rescueSends", fn := fun _ => fun
  | [d1, d2, d3, d4] => { results := [.lit (.bool false)], args := [d1, d2, d3, d4] }
  | _ => none }
def RescueSendsWrongFalsely : Prop := rescueSendsRow.holds Try.pinned (OpenSpec.ofChange rescueSendsWrong)

/-- 'sastrugilaw07.RescueEnds': WHATEVER THE INPUT: true; the input reads as it did. -/
def rescueEndsSpec : ChangeSpec := { name := "rescueEnds", fn := fun _ => fun
  | [d] => { results := [.lit (.bool true)], args := [d] }
  | _ => none }
def rescueEndsRow : OpenClaim := { program := "ytoklcjdahicjmaa", sum := "93a181333e069fb0a3d9ec4b7452a03109764758fc2b8e1b712934bffb41adde", func := "sastrugi/sastrugilaw07.RescueEnds", spec := "rescueEnds", unfollowed := true, recurses := true, apart := false }
def RescueEndsSaid : Prop := rescueEndsRow.holds Try.pinned (OpenSpec.ofChange rescueEndsSpec)

/-- ITS FALSE NEIGHBOUR: 'it returns false'. Refute it at one input. -/
def rescueEndsWrong : ChangeSpec := { name := "rescueEnds", fn := fun _ => fun
  | [d] => { results := [.lit (.bool false)], args := [d] }
  | _ => none }
def RescueEndsWrongFalsely : Prop := rescueEndsRow.holds Try.pinned (OpenSpec.ofChange rescueEndsWrong)

/-- 'sastrugilaw07.RescueChecks': WHATEVER THE INPUT: true; the input reads as it did. -/
def rescueChecksSpec : ChangeSpec := { name := "rescueChecks", fn := fun _ => fun
  | [d1, d2, d3, d4, d5] => { results := [.lit (.bool true)], args := [d1, d2, d3, d4, d5] }
  | _ => none }
def rescueChecksRow : OpenClaim := { program := "ytoklcjdahicjmaa", sum := "93a181333e069fb0a3d9ec4b7452a03109764758fc2b8e1b712934bffb41adde", func := "sastrugi/sastrugilaw07.RescueChecks", spec := "rescueChecks", unfollowed := true, recurses := true, apart := false }
def RescueChecksSaid : Prop := rescueChecksRow.holds Try.pinned (OpenSpec.ofChange rescueChecksSpec)

/-- ITS FALSE NEIGHBOUR: 'it returns false'. Refute it at one input. -/
def rescueChecksWrong : ChangeSpec := { name := "rescueChecks", fn := fun _ => fun
  | [d1, d2, d3, d4, d5] => { results := [.lit (.bool false)], args := [d1, d2, d3, d4, d5] }
  | _ => none }
def RescueChecksWrongFalsely : Prop := rescueChecksRow.holds Try.pinned (OpenSpec.ofChange rescueChecksWrong)

/-- 'sastrugilaw07.RescueCalls': WHATEVER THE INPUT: true; the input reads as it did. -/
def rescueCallsSpec : ChangeSpec := { name := "rescueCalls", fn := fun _ => fun
  | [d] => { results := [.lit (.bool true)], args := [d] }
  | _ => none }
def rescueCallsRow : OpenClaim := { program := "ytoklcjdahicjmaa", sum := "93a181333e069fb0a3d9ec4b7452a03109764758fc2b8e1b712934bffb41adde", func := "sastrugi/sastrugilaw07.RescueCalls", spec := "rescueCalls", unfollowed := true, recurses := true, apart := false }
def RescueCallsSaid : Prop := rescueCallsRow.holds Try.pinned (OpenSpec.ofChange rescueCallsSpec)

/-- ITS FALSE NEIGHBOUR: 'it returns false'. Refute it at one input. -/
def rescueCallsWrong : ChangeSpec := { name := "rescueCalls", fn := fun _ => fun
  | [d] => { results := [.lit (.bool false)], args := [d] }
  | _ => none }
def RescueCallsWrongFalsely : Prop := rescueCallsRow.holds Try.pinned (OpenSpec.ofChange rescueCallsWrong)

/-- 'sastrugilaw07.RescueCovers': WHATEVER THE INPUT: true; the input reads as it did. -/
def rescueCoversSpec : ChangeSpec := { name := "rescueCovers", fn := fun _ => fun
  | [d1, d2, d3] => { results := [.lit (.bool true)], args := [d1, d2, d3] }
  | _ => none }
def rescueCoversRow : OpenClaim := { program := "ytoklcjdahicjmaa", sum := "93a181333e069fb0a3d9ec4b7452a03109764758fc2b8e1b712934bffb41adde", func := "sastrugi/sastrugilaw07.RescueCovers", spec := "rescueCovers", unfollowed := true, recurses := true, apart := false }
def RescueCoversSaid : Prop := rescueCoversRow.holds Try.pinned (OpenSpec.ofChange rescueCoversSpec)

/-- ITS FALSE NEIGHBOUR: 'it returns false'. Refute it at one input. -/
def rescueCoversWrong : ChangeSpec := { name := "rescueCovers", fn := fun _ => fun
  | [d1, d2, d3] => { results := [.lit (.bool false)], args := [d1, d2, d3] }
  | _ => none }
def RescueCoversWrongFalsely : Prop := rescueCoversRow.holds Try.pinned (OpenSpec.ofChange rescueCoversWrong)

/-- 'sastrugilaw07.RescueTruth': WHATEVER THE INPUT: true; the input reads as it did. -/
def rescueTruthSpec : ChangeSpec := { name := "rescueTruth", fn := fun _ => fun
  | [d] => { results := [.lit (.bool true)], args := [d] }
  | _ => none }
def rescueTruthRow : OpenClaim := { program := "ytoklcjdahicjmaa", sum := "93a181333e069fb0a3d9ec4b7452a03109764758fc2b8e1b712934bffb41adde", func := "sastrugi/sastrugilaw07.RescueTruth", spec := "rescueTruth", unfollowed := true, recurses := true, apart := false }
def RescueTruthSaid : Prop := rescueTruthRow.holds Try.pinned (OpenSpec.ofChange rescueTruthSpec)

/-- ITS FALSE NEIGHBOUR: 'it returns false'. Refute it at one input. -/
def rescueTruthWrong : ChangeSpec := { name := "rescueTruth", fn := fun _ => fun
  | [d] => { results := [.lit (.bool false)], args := [d] }
  | _ => none }
def RescueTruthWrongFalsely : Prop := rescueTruthRow.holds Try.pinned (OpenSpec.ofChange rescueTruthWrong)

/-- 'sastrugilaw07.RescueNarrows': WHATEVER THE INPUT: true; the input reads as it did. -/
def rescueNarrowsSpec : ChangeSpec := { name := "rescueNarrows", fn := fun _ => fun
  | [d] => { results := [.lit (.bool true)], args := [d] }
  | _ => none }
def rescueNarrowsRow : OpenClaim := { program := "ytoklcjdahicjmaa", sum := "93a181333e069fb0a3d9ec4b7452a03109764758fc2b8e1b712934bffb41adde", func := "sastrugi/sastrugilaw07.RescueNarrows", spec := "rescueNarrows", unfollowed := true, recurses := true, apart := false }
def RescueNarrowsSaid : Prop := rescueNarrowsRow.holds Try.pinned (OpenSpec.ofChange rescueNarrowsSpec)

/-- ITS FALSE NEIGHBOUR: 'it returns false'. Refute it at one input. -/
def rescueNarrowsWrong : ChangeSpec := { name := "rescueNarrows", fn := fun _ => fun
  | [d] => { results := [.lit (.bool false)], args := [d] }
  | _ => none }
def RescueNarrowsWrongFalsely : Prop := rescueNarrowsRow.holds Try.pinned (OpenSpec.ofChange rescueNarrowsWrong)

/-- 'sastrugilaw07.RescueMore': WHATEVER THE INPUT: true; the input reads as it did. -/
def rescueMoreSpec : ChangeSpec := { name := "rescueMore", fn := fun _ => fun
  | [d] => { results := [.lit (.bool true)], args := [d] }
  | _ => none }
def rescueMoreRow : OpenClaim := { program := "ytoklcjdahicjmaa", sum := "93a181333e069fb0a3d9ec4b7452a03109764758fc2b8e1b712934bffb41adde", func := "sastrugi/sastrugilaw07.RescueMore", spec := "rescueMore", unfollowed := true, recurses := true, apart := false }
def RescueMoreSaid : Prop := rescueMoreRow.holds Try.pinned (OpenSpec.ofChange rescueMoreSpec)

/-- ITS FALSE NEIGHBOUR: 'it returns false'. Refute it at one input. -/
def rescueMoreWrong : ChangeSpec := { name := "rescueMore", fn := fun _ => fun
  | [d] => { results := [.lit (.bool false)], args := [d] }
  | _ => none }
def RescueMoreWrongFalsely : Prop := rescueMoreRow.holds Try.pinned (OpenSpec.ofChange rescueMoreWrong)

/-- 'sastrugilaw07.RescueGaps': WHATEVER THE INPUT: true; the input reads as it did. -/
def rescueGapsSpec : ChangeSpec := { name := "rescueGaps", fn := fun _ => fun
  | [d1, d2, d3] => { results := [.lit (.bool true)], args := [d1, d2, d3] }
  | _ => none }
def rescueGapsRow : OpenClaim := { program := "ytoklcjdahicjmaa", sum := "93a181333e069fb0a3d9ec4b7452a03109764758fc2b8e1b712934bffb41adde", func := "sastrugi/sastrugilaw07.RescueGaps", spec := "rescueGaps", unfollowed := true, recurses := true, apart := false }
def RescueGapsSaid : Prop := rescueGapsRow.holds Try.pinned (OpenSpec.ofChange rescueGapsSpec)

/-- ITS FALSE NEIGHBOUR: 'it returns false'. Refute it at one input. -/
def rescueGapsWrong : ChangeSpec := { name := "rescueGaps", fn := fun _ => fun
  | [d1, d2, d3] => { results := [.lit (.bool false)], args := [d1, d2, d3] }
  | _ => none }
def RescueGapsWrongFalsely : Prop := rescueGapsRow.holds Try.pinned (OpenSpec.ofChange rescueGapsWrong)

/-- 'sastrugilaw07.RescueDay': WHATEVER THE INPUT: true; the input reads as it did. -/
def rescueDaySpec : ChangeSpec := { name := "rescueDay", fn := fun _ => fun
  | [d] => { results := [.lit (.bool true)], args := [d] }
  | _ => none }
def rescueDayRow : OpenClaim := { program := "ytoklcjdahicjmaa", sum := "93a181333e069fb0a3d9ec4b7452a03109764758fc2b8e1b712934bffb41adde", func := "sastrugi/sastrugilaw07.RescueDay", spec := "rescueDay", unfollowed := true, recurses := true, apart := false }
def RescueDaySaid : Prop := rescueDayRow.holds Try.pinned (OpenSpec.ofChange rescueDaySpec)

/-- ITS FALSE NEIGHBOUR: 'it returns false'. Refute it at one input. -/
def rescueDayWrong : ChangeSpec := { name := "rescueDay", fn := fun _ => fun
  | [d] => { results := [.lit (.bool false)], args := [d] }
  | _ => none }
def RescueDayWrongFalsely : Prop := rescueDayRow.holds Try.pinned (OpenSpec.ofChange rescueDayWrong)

/-- 'sastrugilaw07.RescueSites': WHATEVER THE INPUT: true; the input reads as it did. -/
def rescueSitesSpec : ChangeSpec := { name := "rescueSites", fn := fun _ => fun
  | [d1, d2, d3, d4, d5] => { results := [.lit (.bool true)], args := [d1, d2, d3, d4, d5] }
  | _ => none }
def rescueSitesRow : OpenClaim := { program := "ytoklcjdahicjmaa", sum := "93a181333e069fb0a3d9ec4b7452a03109764758fc2b8e1b712934bffb41adde", func := "sastrugi/sastrugilaw07.RescueSites", spec := "rescueSites", unfollowed := true, recurses := true, apart := false }
def RescueSitesSaid : Prop := rescueSitesRow.holds Try.pinned (OpenSpec.ofChange rescueSitesSpec)

/-- ITS FALSE NEIGHBOUR: 'it returns false'. Refute it at one input. -/
def rescueSitesWrong : ChangeSpec := { name := "rescueSites", fn := fun _ => fun
  | [d1, d2, d3, d4, d5] => { results := [.lit (.bool false)], args := [d1, d2, d3, d4, d5] }
  | _ => none }
def RescueSitesWrongFalsely : Prop := rescueSitesRow.holds Try.pinned (OpenSpec.ofChange rescueSitesWrong)

/-- 'sastrugilaw07.RescuePlaces': WHATEVER THE INPUT: true; the input reads as it did. -/
def rescuePlacesSpec : ChangeSpec := { name := "rescuePlaces", fn := fun _ => fun
  | [d] => { results := [.lit (.bool true)], args := [d] }
  | _ => none }
def rescuePlacesRow : OpenClaim := { program := "ytoklcjdahicjmaa", sum := "93a181333e069fb0a3d9ec4b7452a03109764758fc2b8e1b712934bffb41adde", func := "sastrugi/sastrugilaw07.RescuePlaces", spec := "rescuePlaces", unfollowed := true, recurses := true, apart := false }
def RescuePlacesSaid : Prop := rescuePlacesRow.holds Try.pinned (OpenSpec.ofChange rescuePlacesSpec)

/-- ITS FALSE NEIGHBOUR: 'it returns false'. Refute it at one input. -/
def rescuePlacesWrong : ChangeSpec := { name := "rescuePlaces", fn := fun _ => fun
  | [d] => { results := [.lit (.bool false)], args := [d] }
  | _ => none }
def RescuePlacesWrongFalsely : Prop := rescuePlacesRow.holds Try.pinned (OpenSpec.ofChange rescuePlacesWrong)

/-- 'sastrugilaw07.RescueKnown': WHATEVER THE INPUT: true; the input reads as it did. -/
def rescueKnownSpec : ChangeSpec := { name := "rescueKnown", fn := fun _ => fun
  | [] => { results := [.lit (.bool true)], args := [] }
  | _ => none }
def rescueKnownRow : OpenClaim := { program := "ytoklcjdahicjmaa", sum := "93a181333e069fb0a3d9ec4b7452a03109764758fc2b8e1b712934bffb41adde", func := "sastrugi/sastrugilaw07.RescueKnown", spec := "rescueKnown", unfollowed := true, recurses := true, apart := false }
def RescueKnownSaid : Prop := rescueKnownRow.holds Try.pinned (OpenSpec.ofChange rescueKnownSpec)

/-- ITS FALSE NEIGHBOUR: 'it returns false'. Refute it at one input. -/
def rescueKnownWrong : ChangeSpec := { name := "rescueKnown", fn := fun _ => fun
  | [] => { results := [.lit (.bool false)], args := [] }
  | _ => none }
def RescueKnownWrongFalsely : Prop := rescueKnownRow.holds Try.pinned (OpenSpec.ofChange rescueKnownWrong)

/- THE SECOND FORM. 'bulk': how many values and letters a reading holds, each counted each time it is reached (what is shared counts as often as it is met; a slice's spare places count too). A statement '..UptoSaid' is the law's where the arguments, and the package variables that the reading takes, are together of bulk at most 1048576: NARROWER than '..Said'. Prove '..Said' where nothing that the law and all that it calls make is longer than what came in: it says more and counts as full. Else prove '..UptoSaid'. A law counts once. -/
mutual
def uptoBulk {H : Type} : DataW H → Nat
  | .lit (.string bytes) => bytes.length + 1
  | .lit _ => 1
  | .nil => 1
  | .ptr d => uptoBulk d + 1
  | .slice elems spare => uptoBulkAll elems + uptoBulkAll spare + 1
  | .agg parts => uptoBulkAll parts + 1
  | .iface _ d => uptoBulk d + 1
  | .map entries => uptoBulkEntries entries + 1
  | .held _ => 1
def uptoBulkAll {H : Type} : List (DataW H) → Nat
  | [] => 0
  | d :: r => uptoBulk d + uptoBulkAll r
def uptoBulkEntries {H : Type} : List (Lit × DataW H) → Nat
  | [] => 0
  | x :: r => uptoBulkEntry x + uptoBulkEntries r
def uptoBulkEntry {H : Type} : Lit × DataW H → Nat
  | (.string bytes, d) => bytes.length + uptoBulk d + 1
  | (_, d) => uptoBulk d + 1
 end
def uptoSmall : (H : Type) → List (DataW H) → Bool := fun _ ds => decide (uptoBulkAll ds ≤ 1048576)
def OpenSpec.upto (s : _root_.Go.ChangeSpec) : _root_.Go.OpenSpec := { _root_.Go.OpenSpec.ofChange s with cond := some uptoSmall }

/-- 'sastrugilaw07.RescueSends', WHERE WHAT IT READS IS OF BULK AT MOST 1048576: true; the input reads as it did. -/
def rescueSendsUptoRow : OpenClaim := { program := "ytoklcjdahicjmaa", sum := "93a181333e069fb0a3d9ec4b7452a03109764758fc2b8e1b712934bffb41adde", func := "sastrugi/sastrugilaw07.RescueSends", spec := "rescueSends", unfollowed := true, recurses := true, apart := false, narrowed := true }
def RescueSendsUptoSaid : Prop := rescueSendsUptoRow.holds Try.pinned (OpenSpec.upto rescueSendsSpec)

/-- 'sastrugilaw07.RescueEnds', WHERE WHAT IT READS IS OF BULK AT MOST 1048576: true; the input reads as it did. -/
def rescueEndsUptoRow : OpenClaim := { program := "ytoklcjdahicjmaa", sum := "93a181333e069fb0a3d9ec4b7452a03109764758fc2b8e1b712934bffb41adde", func := "sastrugi/sastrugilaw07.RescueEnds", spec := "rescueEnds", unfollowed := true, recurses := true, apart := false, narrowed := true }
def RescueEndsUptoSaid : Prop := rescueEndsUptoRow.holds Try.pinned (OpenSpec.upto rescueEndsSpec)

/-- 'sastrugilaw07.RescueChecks', WHERE WHAT IT READS IS OF BULK AT MOST 1048576: true; the input reads as it did. -/
def rescueChecksUptoRow : OpenClaim := { program := "ytoklcjdahicjmaa", sum := "93a181333e069fb0a3d9ec4b7452a03109764758fc2b8e1b712934bffb41adde", func := "sastrugi/sastrugilaw07.RescueChecks", spec := "rescueChecks", unfollowed := true, recurses := true, apart := false, narrowed := true }
def RescueChecksUptoSaid : Prop := rescueChecksUptoRow.holds Try.pinned (OpenSpec.upto rescueChecksSpec)

/-- 'sastrugilaw07.RescueCalls', WHERE WHAT IT READS IS OF BULK AT MOST 1048576: true; the input reads as it did. -/
def rescueCallsUptoRow : OpenClaim := { program := "ytoklcjdahicjmaa", sum := "93a181333e069fb0a3d9ec4b7452a03109764758fc2b8e1b712934bffb41adde", func := "sastrugi/sastrugilaw07.RescueCalls", spec := "rescueCalls", unfollowed := true, recurses := true, apart := false, narrowed := true }
def RescueCallsUptoSaid : Prop := rescueCallsUptoRow.holds Try.pinned (OpenSpec.upto rescueCallsSpec)

/-- 'sastrugilaw07.RescueCovers', WHERE WHAT IT READS IS OF BULK AT MOST 1048576: true; the input reads as it did. -/
def rescueCoversUptoRow : OpenClaim := { program := "ytoklcjdahicjmaa", sum := "93a181333e069fb0a3d9ec4b7452a03109764758fc2b8e1b712934bffb41adde", func := "sastrugi/sastrugilaw07.RescueCovers", spec := "rescueCovers", unfollowed := true, recurses := true, apart := false, narrowed := true }
def RescueCoversUptoSaid : Prop := rescueCoversUptoRow.holds Try.pinned (OpenSpec.upto rescueCoversSpec)

/-- 'sastrugilaw07.RescueTruth', WHERE WHAT IT READS IS OF BULK AT MOST 1048576: true; the input reads as it did. -/
def rescueTruthUptoRow : OpenClaim := { program := "ytoklcjdahicjmaa", sum := "93a181333e069fb0a3d9ec4b7452a03109764758fc2b8e1b712934bffb41adde", func := "sastrugi/sastrugilaw07.RescueTruth", spec := "rescueTruth", unfollowed := true, recurses := true, apart := false, narrowed := true }
def RescueTruthUptoSaid : Prop := rescueTruthUptoRow.holds Try.pinned (OpenSpec.upto rescueTruthSpec)

/-- 'sastrugilaw07.RescueNarrows', WHERE WHAT IT READS IS OF BULK AT MOST 1048576: true; the input reads as it did. -/
def rescueNarrowsUptoRow : OpenClaim := { program := "ytoklcjdahicjmaa", sum := "93a181333e069fb0a3d9ec4b7452a03109764758fc2b8e1b712934bffb41adde", func := "sastrugi/sastrugilaw07.RescueNarrows", spec := "rescueNarrows", unfollowed := true, recurses := true, apart := false, narrowed := true }
def RescueNarrowsUptoSaid : Prop := rescueNarrowsUptoRow.holds Try.pinned (OpenSpec.upto rescueNarrowsSpec)

/-- 'sastrugilaw07.RescueMore', WHERE WHAT IT READS IS OF BULK AT MOST 1048576: true; the input reads as it did. -/
def rescueMoreUptoRow : OpenClaim := { program := "ytoklcjdahicjmaa", sum := "93a181333e069fb0a3d9ec4b7452a03109764758fc2b8e1b712934bffb41adde", func := "sastrugi/sastrugilaw07.RescueMore", spec := "rescueMore", unfollowed := true, recurses := true, apart := false, narrowed := true }
def RescueMoreUptoSaid : Prop := rescueMoreUptoRow.holds Try.pinned (OpenSpec.upto rescueMoreSpec)

/-- 'sastrugilaw07.RescueGaps', WHERE WHAT IT READS IS OF BULK AT MOST 1048576: true; the input reads as it did. -/
def rescueGapsUptoRow : OpenClaim := { program := "ytoklcjdahicjmaa", sum := "93a181333e069fb0a3d9ec4b7452a03109764758fc2b8e1b712934bffb41adde", func := "sastrugi/sastrugilaw07.RescueGaps", spec := "rescueGaps", unfollowed := true, recurses := true, apart := false, narrowed := true }
def RescueGapsUptoSaid : Prop := rescueGapsUptoRow.holds Try.pinned (OpenSpec.upto rescueGapsSpec)

/-- 'sastrugilaw07.RescueDay', WHERE WHAT IT READS IS OF BULK AT MOST 1048576: true; the input reads as it did. -/
def rescueDayUptoRow : OpenClaim := { program := "ytoklcjdahicjmaa", sum := "93a181333e069fb0a3d9ec4b7452a03109764758fc2b8e1b712934bffb41adde", func := "sastrugi/sastrugilaw07.RescueDay", spec := "rescueDay", unfollowed := true, recurses := true, apart := false, narrowed := true }
def RescueDayUptoSaid : Prop := rescueDayUptoRow.holds Try.pinned (OpenSpec.upto rescueDaySpec)

/-- 'sastrugilaw07.RescueSites', WHERE WHAT IT READS IS OF BULK AT MOST 1048576: true; the input reads as it did. -/
def rescueSitesUptoRow : OpenClaim := { program := "ytoklcjdahicjmaa", sum := "93a181333e069fb0a3d9ec4b7452a03109764758fc2b8e1b712934bffb41adde", func := "sastrugi/sastrugilaw07.RescueSites", spec := "rescueSites", unfollowed := true, recurses := true, apart := false, narrowed := true }
def RescueSitesUptoSaid : Prop := rescueSitesUptoRow.holds Try.pinned (OpenSpec.upto rescueSitesSpec)

/-- 'sastrugilaw07.RescuePlaces', WHERE WHAT IT READS IS OF BULK AT MOST 1048576: true; the input reads as it did. -/
def rescuePlacesUptoRow : OpenClaim := { program := "ytoklcjdahicjmaa", sum := "93a181333e069fb0a3d9ec4b7452a03109764758fc2b8e1b712934bffb41adde", func := "sastrugi/sastrugilaw07.RescuePlaces", spec := "rescuePlaces", unfollowed := true, recurses := true, apart := false, narrowed := true }
def RescuePlacesUptoSaid : Prop := rescuePlacesUptoRow.holds Try.pinned (OpenSpec.upto rescuePlacesSpec)

/-- 'sastrugilaw07.RescueKnown', WHERE WHAT IT READS IS OF BULK AT MOST 1048576: true; the input reads as it did. -/
def rescueKnownUptoRow : OpenClaim := { program := "ytoklcjdahicjmaa", sum := "93a181333e069fb0a3d9ec4b7452a03109764758fc2b8e1b712934bffb41adde", func := "sastrugi/sastrugilaw07.RescueKnown", spec := "rescueKnown", unfollowed := true, recurses := true, apart := false, narrowed := true }
def RescueKnownUptoSaid : Prop := rescueKnownUptoRow.holds Try.pinned (OpenSpec.upto rescueKnownSpec)

end Rows
end Go.Proofs.Ytoklcjdahicjmaa
