/-
  NARROWER THAN 'FOR EVERY INPUT', by the rows' own cells (each row's printed sentence says how): CrewLegals: laid · CrewTruth: laid · CrewWorst: laid · CrewNarrows: laid · CrewMore: laid · CrewTurns: laid · CrewLeft: laid · CrewScales: laid · CrewWeighs: laid · CrewHauls: laid · CrewAssigned: laid.
  DERIVED. THE GIVEN ROWS OF THIS SEAT. 11 by the template 'for every input the law returns true; each argument reads behind the call as it read before'; 0 by the template 'total and deterministic' (their statements: YthmgcjmoiilggaaDoorTotals.lean).
  GIVEN WITH THE SEED: the statements are not yours to turn. If you find one false, say at which input.
  Laid BY PROGRAM, IN A SANDBOX (cutbox-rows.mjs): the forced cells as the released guide's own fill.sh prints them over the translation 8b257c0786f18eb2… (all of the seat's roots in one cut). By AI agents, Wed Nov 11 2026. No macro, syntax, notation, axiom, sorry.
-/
import Derived.Test.YthmgcjmoiilggaaDoorChecked
import GoSem.PinnedTables
import GoSem.Claim
import GoSem.ClaimJoined
import GoSem.ClaimMapViews
import Derived.JoinedTies
import Derived.KernelRfl
namespace Go.Proofs.YthmgcjmoiilggaaDoor
/- THE CELL 'sum', in the pinned program and in every row, IS THE sha256 OF THE DUMP (.gsa) THAT YthmgcjmoiilggaaDoorProg.lean LOADS. Nothing in Lean hashes anything: it is a label: what it is worth is what the hold of that sum in a sandbox is worth. -/
noncomputable def Tryd.pinned : Pinned := { name := "ythmgcjmoiilggaadoor", sum := "8b257c0786f18eb28de77af2c07e1c5de8955437045c7b9bd210a1d06a8333e8", checked := Tryd.checked }
namespace Rows
def none {H : Type} : Left H := { results := [], args := [] }

/- WHAT THE LISTED PACKAGE-LEVEL VARIABLES READ AS WHEN THE CALL BEGINS. Each datum BY PROGRAM (the guide's laid-datum.mjs) off the statement by which the dump's own 'gosem.cut.vars' lays the variable. In a bare row this is a premise. The card (YthmgcjmoiilggaaDoorCards.lean) ties it to the program's text. -/
def laid_unicode_utf8_acceptRanges {H : Type} : DataW H := .agg [.agg [.lit (.int .u8 128), .lit (.int .u8 191)], .agg [.lit (.int .u8 160), .lit (.int .u8 191)], .agg [.lit (.int .u8 128), .lit (.int .u8 159)], .agg [.lit (.int .u8 144), .lit (.int .u8 191)], .agg [.lit (.int .u8 128), .lit (.int .u8 143)], .agg [.lit (.int .u8 0), .lit (.int .u8 0)], .agg [.lit (.int .u8 0), .lit (.int .u8 0)], .agg [.lit (.int .u8 0), .lit (.int .u8 0)], .agg [.lit (.int .u8 0), .lit (.int .u8 0)], .agg [.lit (.int .u8 0), .lit (.int .u8 0)], .agg [.lit (.int .u8 0), .lit (.int .u8 0)], .agg [.lit (.int .u8 0), .lit (.int .u8 0)], .agg [.lit (.int .u8 0), .lit (.int .u8 0)], .agg [.lit (.int .u8 0), .lit (.int .u8 0)], .agg [.lit (.int .u8 0), .lit (.int .u8 0)], .agg [.lit (.int .u8 0), .lit (.int .u8 0)]]
/-- One of Go's own tables, pinned by name: the form's constant. -/
def laid_unicode_utf8_first : DataW Unit := Go.Pinned.utf8First

/-- 'sastrugilaw09.CrewLegals': WHATEVER THE INPUT: true; the input reads as it did. -/
def crewLegalsSpec : ChangeSpec := { name := "crewLegals", fn := fun _ => fun
  | [d1, d2, d3, d4] => { results := [.lit (.bool true)], args := [d1, d2, d3, d4] }
  | _ => none }
def crewLegalsRow : OpenClaim := { program := "ythmgcjmoiilggaadoor", sum := "8b257c0786f18eb28de77af2c07e1c5de8955437045c7b9bd210a1d06a8333e8", func := "sastrugi/sastrugilaw09.CrewLegals", spec := "crewLegals", inPlace := ["internal/bytealg.IndexByteString", "internal/bytealg.IndexString"], unfollowed := true, recurses := true, named := ["unicode/utf8.first", "unicode/utf8.acceptRanges", "internal/bytealg.MaxLen"], apart := false, laid := [("unicode/utf8.acceptRanges", laid_unicode_utf8_acceptRanges), ("unicode/utf8.first", laid_unicode_utf8_first)] }
def CrewLegalsSaid : Prop := crewLegalsRow.holds Tryd.pinned (OpenSpec.ofChange crewLegalsSpec)

/-- ITS FALSE NEIGHBOUR: 'it returns false'. Refute it at one input. -/
def crewLegalsWrong : ChangeSpec := { name := "crewLegals", fn := fun _ => fun
  | [d1, d2, d3, d4] => { results := [.lit (.bool false)], args := [d1, d2, d3, d4] }
  | _ => none }
def CrewLegalsWrongFalsely : Prop := crewLegalsRow.holds Tryd.pinned (OpenSpec.ofChange crewLegalsWrong)

/-- 'sastrugilaw09.CrewTruth': WHATEVER THE INPUT: true; the input reads as it did. -/
def crewTruthSpec : ChangeSpec := { name := "crewTruth", fn := fun _ => fun
  | [d] => { results := [.lit (.bool true)], args := [d] }
  | _ => none }
def crewTruthRow : OpenClaim := { program := "ythmgcjmoiilggaadoor", sum := "8b257c0786f18eb28de77af2c07e1c5de8955437045c7b9bd210a1d06a8333e8", func := "sastrugi/sastrugilaw09.CrewTruth", spec := "crewTruth", inPlace := ["internal/bytealg.IndexByteString", "internal/bytealg.IndexString"], unfollowed := true, recurses := true, named := ["unicode/utf8.first", "unicode/utf8.acceptRanges", "internal/bytealg.MaxLen"], apart := false, laid := [("unicode/utf8.acceptRanges", laid_unicode_utf8_acceptRanges), ("unicode/utf8.first", laid_unicode_utf8_first)] }
def CrewTruthSaid : Prop := crewTruthRow.holds Tryd.pinned (OpenSpec.ofChange crewTruthSpec)

/-- ITS FALSE NEIGHBOUR: 'it returns false'. Refute it at one input. -/
def crewTruthWrong : ChangeSpec := { name := "crewTruth", fn := fun _ => fun
  | [d] => { results := [.lit (.bool false)], args := [d] }
  | _ => none }
def CrewTruthWrongFalsely : Prop := crewTruthRow.holds Tryd.pinned (OpenSpec.ofChange crewTruthWrong)

/-- 'sastrugilaw09.CrewWorst': WHATEVER THE INPUT: true; the input reads as it did. -/
def crewWorstSpec : ChangeSpec := { name := "crewWorst", fn := fun _ => fun
  | [d] => { results := [.lit (.bool true)], args := [d] }
  | _ => none }
def crewWorstRow : OpenClaim := { program := "ythmgcjmoiilggaadoor", sum := "8b257c0786f18eb28de77af2c07e1c5de8955437045c7b9bd210a1d06a8333e8", func := "sastrugi/sastrugilaw09.CrewWorst", spec := "crewWorst", inPlace := ["internal/bytealg.IndexByteString", "internal/bytealg.IndexString"], unfollowed := true, recurses := true, named := ["unicode/utf8.first", "unicode/utf8.acceptRanges", "internal/bytealg.MaxLen"], apart := false, laid := [("unicode/utf8.acceptRanges", laid_unicode_utf8_acceptRanges), ("unicode/utf8.first", laid_unicode_utf8_first)] }
def CrewWorstSaid : Prop := crewWorstRow.holds Tryd.pinned (OpenSpec.ofChange crewWorstSpec)

/-- ITS FALSE NEIGHBOUR: 'it returns false'. Refute it at one input. -/
def crewWorstWrong : ChangeSpec := { name := "crewWorst", fn := fun _ => fun
  | [d] => { results := [.lit (.bool false)], args := [d] }
  | _ => none }
def CrewWorstWrongFalsely : Prop := crewWorstRow.holds Tryd.pinned (OpenSpec.ofChange crewWorstWrong)

/-- 'sastrugilaw09.CrewNarrows': WHATEVER THE INPUT: true; the input reads as it did. -/
def crewNarrowsSpec : ChangeSpec := { name := "crewNarrows", fn := fun _ => fun
  | [d] => { results := [.lit (.bool true)], args := [d] }
  | _ => none }
def crewNarrowsRow : OpenClaim := { program := "ythmgcjmoiilggaadoor", sum := "8b257c0786f18eb28de77af2c07e1c5de8955437045c7b9bd210a1d06a8333e8", func := "sastrugi/sastrugilaw09.CrewNarrows", spec := "crewNarrows", inPlace := ["internal/bytealg.IndexByteString", "internal/bytealg.IndexString"], unfollowed := true, recurses := true, named := ["unicode/utf8.first", "unicode/utf8.acceptRanges", "internal/bytealg.MaxLen"], apart := false, laid := [("unicode/utf8.acceptRanges", laid_unicode_utf8_acceptRanges), ("unicode/utf8.first", laid_unicode_utf8_first)] }
def CrewNarrowsSaid : Prop := crewNarrowsRow.holds Tryd.pinned (OpenSpec.ofChange crewNarrowsSpec)

/-- ITS FALSE NEIGHBOUR: 'it returns false'. Refute it at one input. -/
def crewNarrowsWrong : ChangeSpec := { name := "crewNarrows", fn := fun _ => fun
  | [d] => { results := [.lit (.bool false)], args := [d] }
  | _ => none }
def CrewNarrowsWrongFalsely : Prop := crewNarrowsRow.holds Tryd.pinned (OpenSpec.ofChange crewNarrowsWrong)

/-- 'sastrugilaw09.CrewMore': WHATEVER THE INPUT: true; the input reads as it did. -/
def crewMoreSpec : ChangeSpec := { name := "crewMore", fn := fun _ => fun
  | [d] => { results := [.lit (.bool true)], args := [d] }
  | _ => none }
def crewMoreRow : OpenClaim := { program := "ythmgcjmoiilggaadoor", sum := "8b257c0786f18eb28de77af2c07e1c5de8955437045c7b9bd210a1d06a8333e8", func := "sastrugi/sastrugilaw09.CrewMore", spec := "crewMore", inPlace := ["internal/bytealg.IndexByteString", "internal/bytealg.IndexString"], unfollowed := true, recurses := true, named := ["unicode/utf8.first", "unicode/utf8.acceptRanges", "internal/bytealg.MaxLen"], apart := false, laid := [("unicode/utf8.acceptRanges", laid_unicode_utf8_acceptRanges), ("unicode/utf8.first", laid_unicode_utf8_first)] }
def CrewMoreSaid : Prop := crewMoreRow.holds Tryd.pinned (OpenSpec.ofChange crewMoreSpec)

/-- ITS FALSE NEIGHBOUR: 'it returns false'. Refute it at one input. -/
def crewMoreWrong : ChangeSpec := { name := "crewMore", fn := fun _ => fun
  | [d] => { results := [.lit (.bool false)], args := [d] }
  | _ => none }
def CrewMoreWrongFalsely : Prop := crewMoreRow.holds Tryd.pinned (OpenSpec.ofChange crewMoreWrong)

/-- 'sastrugilaw09.CrewTurns': WHATEVER THE INPUT: true; the input reads as it did. -/
def crewTurnsSpec : ChangeSpec := { name := "crewTurns", fn := fun _ => fun
  | [d1, d2, d3, d4, d5] => { results := [.lit (.bool true)], args := [d1, d2, d3, d4, d5] }
  | _ => none }
def crewTurnsRow : OpenClaim := { program := "ythmgcjmoiilggaadoor", sum := "8b257c0786f18eb28de77af2c07e1c5de8955437045c7b9bd210a1d06a8333e8", func := "sastrugi/sastrugilaw09.CrewTurns", spec := "crewTurns", inPlace := ["internal/bytealg.IndexByteString", "internal/bytealg.IndexString"], unfollowed := true, recurses := true, named := ["unicode/utf8.first", "unicode/utf8.acceptRanges", "internal/bytealg.MaxLen"], apart := false, laid := [("unicode/utf8.acceptRanges", laid_unicode_utf8_acceptRanges), ("unicode/utf8.first", laid_unicode_utf8_first)] }
def CrewTurnsSaid : Prop := crewTurnsRow.holds Tryd.pinned (OpenSpec.ofChange crewTurnsSpec)

/-- ITS FALSE NEIGHBOUR: 'it returns false'. Refute it at one input. -/
def crewTurnsWrong : ChangeSpec := { name := "crewTurns", fn := fun _ => fun
  | [d1, d2, d3, d4, d5] => { results := [.lit (.bool false)], args := [d1, d2, d3, d4, d5] }
  | _ => none }
def CrewTurnsWrongFalsely : Prop := crewTurnsRow.holds Tryd.pinned (OpenSpec.ofChange crewTurnsWrong)

/-- 'sastrugilaw09.CrewLeft': WHATEVER THE INPUT: true; the input reads as it did. -/
def crewLeftSpec : ChangeSpec := { name := "crewLeft", fn := fun _ => fun
  | [d] => { results := [.lit (.bool true)], args := [d] }
  | _ => none }
def crewLeftRow : OpenClaim := { program := "ythmgcjmoiilggaadoor", sum := "8b257c0786f18eb28de77af2c07e1c5de8955437045c7b9bd210a1d06a8333e8", func := "sastrugi/sastrugilaw09.CrewLeft", spec := "crewLeft", inPlace := ["internal/bytealg.IndexByteString", "internal/bytealg.IndexString"], unfollowed := true, recurses := true, named := ["unicode/utf8.first", "unicode/utf8.acceptRanges", "internal/bytealg.MaxLen"], apart := false, laid := [("unicode/utf8.acceptRanges", laid_unicode_utf8_acceptRanges), ("unicode/utf8.first", laid_unicode_utf8_first)] }
def CrewLeftSaid : Prop := crewLeftRow.holds Tryd.pinned (OpenSpec.ofChange crewLeftSpec)

/-- ITS FALSE NEIGHBOUR: 'it returns false'. Refute it at one input. -/
def crewLeftWrong : ChangeSpec := { name := "crewLeft", fn := fun _ => fun
  | [d] => { results := [.lit (.bool false)], args := [d] }
  | _ => none }
def CrewLeftWrongFalsely : Prop := crewLeftRow.holds Tryd.pinned (OpenSpec.ofChange crewLeftWrong)

/-- 'sastrugilaw09.CrewScales': WHATEVER THE INPUT: true; the input reads as it did. -/
def crewScalesSpec : ChangeSpec := { name := "crewScales", fn := fun _ => fun
  | [d1, d2, d3, d4, d5] => { results := [.lit (.bool true)], args := [d1, d2, d3, d4, d5] }
  | _ => none }
def crewScalesRow : OpenClaim := { program := "ythmgcjmoiilggaadoor", sum := "8b257c0786f18eb28de77af2c07e1c5de8955437045c7b9bd210a1d06a8333e8", func := "sastrugi/sastrugilaw09.CrewScales", spec := "crewScales", inPlace := ["internal/bytealg.IndexByteString", "internal/bytealg.IndexString"], unfollowed := true, recurses := true, named := ["unicode/utf8.first", "unicode/utf8.acceptRanges", "internal/bytealg.MaxLen"], apart := false, laid := [("unicode/utf8.acceptRanges", laid_unicode_utf8_acceptRanges), ("unicode/utf8.first", laid_unicode_utf8_first)] }
def CrewScalesSaid : Prop := crewScalesRow.holds Tryd.pinned (OpenSpec.ofChange crewScalesSpec)

/-- ITS FALSE NEIGHBOUR: 'it returns false'. Refute it at one input. -/
def crewScalesWrong : ChangeSpec := { name := "crewScales", fn := fun _ => fun
  | [d1, d2, d3, d4, d5] => { results := [.lit (.bool false)], args := [d1, d2, d3, d4, d5] }
  | _ => none }
def CrewScalesWrongFalsely : Prop := crewScalesRow.holds Tryd.pinned (OpenSpec.ofChange crewScalesWrong)

/-- 'sastrugilaw09.CrewWeighs': WHATEVER THE INPUT: true; the input reads as it did. -/
def crewWeighsSpec : ChangeSpec := { name := "crewWeighs", fn := fun _ => fun
  | [d] => { results := [.lit (.bool true)], args := [d] }
  | _ => none }
def crewWeighsRow : OpenClaim := { program := "ythmgcjmoiilggaadoor", sum := "8b257c0786f18eb28de77af2c07e1c5de8955437045c7b9bd210a1d06a8333e8", func := "sastrugi/sastrugilaw09.CrewWeighs", spec := "crewWeighs", inPlace := ["internal/bytealg.IndexByteString", "internal/bytealg.IndexString"], unfollowed := true, recurses := true, named := ["unicode/utf8.first", "unicode/utf8.acceptRanges", "internal/bytealg.MaxLen"], apart := false, laid := [("unicode/utf8.acceptRanges", laid_unicode_utf8_acceptRanges), ("unicode/utf8.first", laid_unicode_utf8_first)] }
def CrewWeighsSaid : Prop := crewWeighsRow.holds Tryd.pinned (OpenSpec.ofChange crewWeighsSpec)

/-- ITS FALSE NEIGHBOUR: 'it returns false'. Refute it at one input. -/
def crewWeighsWrong : ChangeSpec := { name := "crewWeighs", fn := fun _ => fun
  | [d] => { results := [.lit (.bool false)], args := [d] }
  | _ => none }
def CrewWeighsWrongFalsely : Prop := crewWeighsRow.holds Tryd.pinned (OpenSpec.ofChange crewWeighsWrong)

/-- 'sastrugilaw09.CrewHauls': WHATEVER THE INPUT: true; the input reads as it did. -/
def crewHaulsSpec : ChangeSpec := { name := "crewHauls", fn := fun _ => fun
  | [d1, d2, d3, d4] => { results := [.lit (.bool true)], args := [d1, d2, d3, d4] }
  | _ => none }
def crewHaulsRow : OpenClaim := { program := "ythmgcjmoiilggaadoor", sum := "8b257c0786f18eb28de77af2c07e1c5de8955437045c7b9bd210a1d06a8333e8", func := "sastrugi/sastrugilaw09.CrewHauls", spec := "crewHauls", inPlace := ["internal/bytealg.IndexByteString", "internal/bytealg.IndexString"], unfollowed := true, recurses := true, named := ["unicode/utf8.first", "unicode/utf8.acceptRanges", "internal/bytealg.MaxLen"], apart := false, laid := [("unicode/utf8.acceptRanges", laid_unicode_utf8_acceptRanges), ("unicode/utf8.first", laid_unicode_utf8_first)] }
def CrewHaulsSaid : Prop := crewHaulsRow.holds Tryd.pinned (OpenSpec.ofChange crewHaulsSpec)

/-- ITS FALSE NEIGHBOUR: 'it returns false'. Refute it at one input. -/
def crewHaulsWrong : ChangeSpec := { name := "crewHauls", fn := fun _ => fun
  | [d1, d2, d3, d4] => { results := [.lit (.bool false)], args := [d1, d2, d3, d4] }
  | _ => none }
def CrewHaulsWrongFalsely : Prop := crewHaulsRow.holds Tryd.pinned (OpenSpec.ofChange crewHaulsWrong)

/-- 'sastrugilaw09.CrewAssigned': WHATEVER THE INPUT: true; the input reads as it did. -/
def crewAssignedSpec : ChangeSpec := { name := "crewAssigned", fn := fun _ => fun
  | [d] => { results := [.lit (.bool true)], args := [d] }
  | _ => none }
def crewAssignedRow : OpenClaim := { program := "ythmgcjmoiilggaadoor", sum := "8b257c0786f18eb28de77af2c07e1c5de8955437045c7b9bd210a1d06a8333e8", func := "sastrugi/sastrugilaw09.CrewAssigned", spec := "crewAssigned", inPlace := ["internal/bytealg.IndexByteString", "internal/bytealg.IndexString"], unfollowed := true, recurses := true, named := ["unicode/utf8.first", "unicode/utf8.acceptRanges", "internal/bytealg.MaxLen"], apart := false, laid := [("unicode/utf8.acceptRanges", laid_unicode_utf8_acceptRanges), ("unicode/utf8.first", laid_unicode_utf8_first)] }
def CrewAssignedSaid : Prop := crewAssignedRow.holds Tryd.pinned (OpenSpec.ofChange crewAssignedSpec)

/-- ITS FALSE NEIGHBOUR: 'it returns false'. Refute it at one input. -/
def crewAssignedWrong : ChangeSpec := { name := "crewAssigned", fn := fun _ => fun
  | [d] => { results := [.lit (.bool false)], args := [d] }
  | _ => none }
def CrewAssignedWrongFalsely : Prop := crewAssignedRow.holds Tryd.pinned (OpenSpec.ofChange crewAssignedWrong)

/- THE SECOND FORM. 'bulk': how many values and letters a reading holds, each counted each time it is reached (what is shared counts as often as it is met; a slice's spare places count too). A statement '..UptoSaid' is the law's where the arguments, and the package variables that the reading takes, are together of bulk at most 1048576: NARROWER than '..Said'. Prove '..Said' where nothing that the law and all that it calls make is longer than what came in: it says more and counts as full. Else prove '..UptoSaid'. A law counts once. -/
mutual
def uptoBulk {H : Type} : DataW H → Nat
  | .lit (.string bytes) => bytes.length + 1
  | .lit _ => 1
  | .nil => 1
  | .ptr d => uptoBulk d + 1
  | .slice elems spare => uptoBulkAll elems + uptoBulkAll spare + 1
  | .agg parts => uptoBulkAll parts + 1
  | .iface _ d => uptoBulk d + 1
  | .map entries => uptoBulkEntries entries + 1
  | .held _ => 1
def uptoBulkAll {H : Type} : List (DataW H) → Nat
  | [] => 0
  | d :: r => uptoBulk d + uptoBulkAll r
def uptoBulkEntries {H : Type} : List (Lit × DataW H) → Nat
  | [] => 0
  | x :: r => uptoBulkEntry x + uptoBulkEntries r
def uptoBulkEntry {H : Type} : Lit × DataW H → Nat
  | (.string bytes, d) => bytes.length + uptoBulk d + 1
  | (_, d) => uptoBulk d + 1
 end
def uptoSmall : (H : Type) → List (DataW H) → Bool := fun _ ds => decide (uptoBulkAll ds ≤ 1048576)
def OpenSpec.upto (s : _root_.Go.ChangeSpec) : _root_.Go.OpenSpec := { _root_.Go.OpenSpec.ofChange s with cond := some uptoSmall }

/-- 'sastrugilaw09.CrewLegals', WHERE WHAT IT READS IS OF BULK AT MOST 1048576: true; the input reads as it did. -/
def crewLegalsUptoRow : OpenClaim := { program := "ythmgcjmoiilggaadoor", sum := "8b257c0786f18eb28de77af2c07e1c5de8955437045c7b9bd210a1d06a8333e8", func := "sastrugi/sastrugilaw09.CrewLegals", spec := "crewLegals", inPlace := ["internal/bytealg.IndexByteString", "internal/bytealg.IndexString"], unfollowed := true, recurses := true, named := ["unicode/utf8.first", "unicode/utf8.acceptRanges", "internal/bytealg.MaxLen"], apart := false, laid := [("unicode/utf8.acceptRanges", laid_unicode_utf8_acceptRanges), ("unicode/utf8.first", laid_unicode_utf8_first)], narrowed := true }
def CrewLegalsUptoSaid : Prop := crewLegalsUptoRow.holds Tryd.pinned (OpenSpec.upto crewLegalsSpec)

/-- 'sastrugilaw09.CrewTruth', WHERE WHAT IT READS IS OF BULK AT MOST 1048576: true; the input reads as it did. -/
def crewTruthUptoRow : OpenClaim := { program := "ythmgcjmoiilggaadoor", sum := "8b257c0786f18eb28de77af2c07e1c5de8955437045c7b9bd210a1d06a8333e8", func := "sastrugi/sastrugilaw09.CrewTruth", spec := "crewTruth", inPlace := ["internal/bytealg.IndexByteString", "internal/bytealg.IndexString"], unfollowed := true, recurses := true, named := ["unicode/utf8.first", "unicode/utf8.acceptRanges", "internal/bytealg.MaxLen"], apart := false, laid := [("unicode/utf8.acceptRanges", laid_unicode_utf8_acceptRanges), ("unicode/utf8.first", laid_unicode_utf8_first)], narrowed := true }
def CrewTruthUptoSaid : Prop := crewTruthUptoRow.holds Tryd.pinned (OpenSpec.upto crewTruthSpec)

/-- 'sastrugilaw09.CrewWorst', WHERE WHAT IT READS IS OF BULK AT MOST 1048576: true; the input reads as it did. -/
def crewWorstUptoRow : OpenClaim := { program := "ythmgcjmoiilggaadoor", sum := "8b257c0786f18eb28de77af2c07e1c5de8955437045c7b9bd210a1d06a8333e8", func := "sastrugi/sastrugilaw09.CrewWorst", spec := "crewWorst", inPlace := ["internal/bytealg.IndexByteString", "internal/bytealg.IndexString"], unfollowed := true, recurses := true, named := ["unicode/utf8.first", "unicode/utf8.acceptRanges", "internal/bytealg.MaxLen"], apart := false, laid := [("unicode/utf8.acceptRanges", laid_unicode_utf8_acceptRanges), ("unicode/utf8.first", laid_unicode_utf8_first)], narrowed := true }
def CrewWorstUptoSaid : Prop := crewWorstUptoRow.holds Tryd.pinned (OpenSpec.upto crewWorstSpec)

/-- 'sastrugilaw09.CrewNarrows', WHERE WHAT IT READS IS OF BULK AT MOST 1048576: true; the input reads as it did. -/
def crewNarrowsUptoRow : OpenClaim := { program := "ythmgcjmoiilggaadoor", sum := "8b257c0786f18eb28de77af2c07e1c5de8955437045c7b9bd210a1d06a8333e8", func := "sastrugi/sastrugilaw09.CrewNarrows", spec := "crewNarrows", inPlace := ["internal/bytealg.IndexByteString", "internal/bytealg.IndexString"], unfollowed := true, recurses := true, named := ["unicode/utf8.first", "unicode/utf8.acceptRanges", "internal/bytealg.MaxLen"], apart := false, laid := [("unicode/utf8.acceptRanges", laid_unicode_utf8_acceptRanges), ("unicode/utf8.first", laid_unicode_utf8_first)], narrowed := true }
def CrewNarrowsUptoSaid : Prop := crewNarrowsUptoRow.holds Tryd.pinned (OpenSpec.upto crewNarrowsSpec)

/-- 'sastrugilaw09.CrewMore', WHERE WHAT IT READS IS OF BULK AT MOST 1048576: true; the input reads as it did. -/
def crewMoreUptoRow : OpenClaim := { program := "ythmgcjmoiilggaadoor", sum := "8b257c0786f18eb28de77af2c07e1c5de8955437045c7b9bd210a1d06a8333e8", func := "sastrugi/sastrugilaw09.CrewMore", spec := "crewMore", inPlace := ["internal/bytealg.IndexByteString", "internal/bytealg.IndexString"], unfollowed := true, recurses := true, named := ["unicode/utf8.first", "unicode/utf8.acceptRanges", "internal/bytealg.MaxLen"], apart := false, laid := [("unicode/utf8.acceptRanges", laid_unicode_utf8_acceptRanges), ("unicode/utf8.first", laid_unicode_utf8_first)], narrowed := true }
def CrewMoreUptoSaid : Prop := crewMoreUptoRow.holds Tryd.pinned (OpenSpec.upto crewMoreSpec)

/-- 'sastrugilaw09.CrewTurns', WHERE WHAT IT READS IS OF BULK AT MOST 1048576: true; the input reads as it did. -/
def crewTurnsUptoRow : OpenClaim := { program := "ythmgcjmoiilggaadoor", sum := "8b257c0786f18eb28de77af2c07e1c5de8955437045c7b9bd210a1d06a8333e8", func := "sastrugi/sastrugilaw09.CrewTurns", spec := "crewTurns", inPlace := ["internal/bytealg.IndexByteString", "internal/bytealg.IndexString"], unfollowed := true, recurses := true, named := ["unicode/utf8.first", "unicode/utf8.acceptRanges", "internal/bytealg.MaxLen"], apart := false, laid := [("unicode/utf8.acceptRanges", laid_unicode_utf8_acceptRanges), ("unicode/utf8.first", laid_unicode_utf8_first)], narrowed := true }
def CrewTurnsUptoSaid : Prop := crewTurnsUptoRow.holds Tryd.pinned (OpenSpec.upto crewTurnsSpec)

/-- 'sastrugilaw09.CrewLeft', WHERE WHAT IT READS IS OF BULK AT MOST 1048576: true; the input reads as it did. -/
def crewLeftUptoRow : OpenClaim := { program := "ythmgcjmoiilggaadoor", sum := "8b257c0786f18eb28de77af2c07e1c5de8955437045c7b9bd210a1d06a8333e8", func := "sastrugi/sastrugilaw09.CrewLeft", spec := "crewLeft", inPlace := ["internal/bytealg.IndexByteString", "internal/bytealg.IndexString"], unfollowed := true, recurses := true, named := ["unicode/utf8.first", "unicode/utf8.acceptRanges", "internal/bytealg.MaxLen"], apart := false, laid := [("unicode/utf8.acceptRanges", laid_unicode_utf8_acceptRanges), ("unicode/utf8.first", laid_unicode_utf8_first)], narrowed := true }
def CrewLeftUptoSaid : Prop := crewLeftUptoRow.holds Tryd.pinned (OpenSpec.upto crewLeftSpec)

/-- 'sastrugilaw09.CrewScales', WHERE WHAT IT READS IS OF BULK AT MOST 1048576: true; the input reads as it did. -/
def crewScalesUptoRow : OpenClaim := { program := "ythmgcjmoiilggaadoor", sum := "8b257c0786f18eb28de77af2c07e1c5de8955437045c7b9bd210a1d06a8333e8", func := "sastrugi/sastrugilaw09.CrewScales", spec := "crewScales", inPlace := ["internal/bytealg.IndexByteString", "internal/bytealg.IndexString"], unfollowed := true, recurses := true, named := ["unicode/utf8.first", "unicode/utf8.acceptRanges", "internal/bytealg.MaxLen"], apart := false, laid := [("unicode/utf8.acceptRanges", laid_unicode_utf8_acceptRanges), ("unicode/utf8.first", laid_unicode_utf8_first)], narrowed := true }
def CrewScalesUptoSaid : Prop := crewScalesUptoRow.holds Tryd.pinned (OpenSpec.upto crewScalesSpec)

/-- 'sastrugilaw09.CrewWeighs', WHERE WHAT IT READS IS OF BULK AT MOST 1048576: true; the input reads as it did. -/
def crewWeighsUptoRow : OpenClaim := { program := "ythmgcjmoiilggaadoor", sum := "8b257c0786f18eb28de77af2c07e1c5de8955437045c7b9bd210a1d06a8333e8", func := "sastrugi/sastrugilaw09.CrewWeighs", spec := "crewWeighs", inPlace := ["internal/bytealg.IndexByteString", "internal/bytealg.IndexString"], unfollowed := true, recurses := true, named := ["unicode/utf8.first", "unicode/utf8.acceptRanges", "internal/bytealg.MaxLen"], apart := false, laid := [("unicode/utf8.acceptRanges", laid_unicode_utf8_acceptRanges), ("unicode/utf8.first", laid_unicode_utf8_first)], narrowed := true }
def CrewWeighsUptoSaid : Prop := crewWeighsUptoRow.holds Tryd.pinned (OpenSpec.upto crewWeighsSpec)

/-- 'sastrugilaw09.CrewHauls', WHERE WHAT IT READS IS OF BULK AT MOST 1048576: true; the input reads as it did. -/
def crewHaulsUptoRow : OpenClaim := { program := "ythmgcjmoiilggaadoor", sum := "8b257c0786f18eb28de77af2c07e1c5de8955437045c7b9bd210a1d06a8333e8", func := "sastrugi/sastrugilaw09.CrewHauls", spec := "crewHauls", inPlace := ["internal/bytealg.IndexByteString", "internal/bytealg.IndexString"], unfollowed := true, recurses := true, named := ["unicode/utf8.first", "unicode/utf8.acceptRanges", "internal/bytealg.MaxLen"], apart := false, laid := [("unicode/utf8.acceptRanges", laid_unicode_utf8_acceptRanges), ("unicode/utf8.first", laid_unicode_utf8_first)], narrowed := true }
def CrewHaulsUptoSaid : Prop := crewHaulsUptoRow.holds Tryd.pinned (OpenSpec.upto crewHaulsSpec)

/-- 'sastrugilaw09.CrewAssigned', WHERE WHAT IT READS IS OF BULK AT MOST 1048576: true; the input reads as it did. -/
def crewAssignedUptoRow : OpenClaim := { program := "ythmgcjmoiilggaadoor", sum := "8b257c0786f18eb28de77af2c07e1c5de8955437045c7b9bd210a1d06a8333e8", func := "sastrugi/sastrugilaw09.CrewAssigned", spec := "crewAssigned", inPlace := ["internal/bytealg.IndexByteString", "internal/bytealg.IndexString"], unfollowed := true, recurses := true, named := ["unicode/utf8.first", "unicode/utf8.acceptRanges", "internal/bytealg.MaxLen"], apart := false, laid := [("unicode/utf8.acceptRanges", laid_unicode_utf8_acceptRanges), ("unicode/utf8.first", laid_unicode_utf8_first)], narrowed := true }
def CrewAssignedUptoSaid : Prop := crewAssignedUptoRow.holds Tryd.pinned (OpenSpec.upto crewAssignedSpec)

end Rows
end Go.Proofs.YthmgcjmoiilggaaDoor
