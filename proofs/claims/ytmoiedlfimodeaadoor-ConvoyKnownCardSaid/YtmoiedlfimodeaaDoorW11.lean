/- Walks by computing: what each function of the program that the laws reach gives for what it gets, as plain Lean, and that it is so; without a condition but those that stand in each theorem. -/
import Derived.Test.YtmoiedlfimodeaaDoorCards
import Derived.Test.YtmoiedlfimodeaaDoorTie
import Derived.WalkKit
import Derived.ProofKit
import Derived.OpenShut
import Derived.Deep.Slices
import Derived.Deep.DeepHandedRow
import Derived.Lib.LaidTab
import Derived.Test.YtmoiedlfimodeaaDoorW1
import Derived.Test.YtmoiedlfimodeaaDoorW2
import Derived.Test.YtmoiedlfimodeaaDoorW3
import Derived.Test.YtmoiedlfimodeaaDoorW4
import Derived.Test.YtmoiedlfimodeaaDoorW5
import Derived.Test.YtmoiedlfimodeaaDoorW6
import Derived.Test.YtmoiedlfimodeaaDoorW7
import Derived.Test.YtmoiedlfimodeaaDoorW8
import Derived.Test.YtmoiedlfimodeaaDoorW9
import Derived.Test.YtmoiedlfimodeaaDoorW10
set_option linter.all false
namespace Go.Proofs.Kn04
open Go Go.Ab
open Go.Proofs.YtmoiedlfimodeaaDoor (iseat)
set_option linter.all false
set_option maxRecDepth 100000
noncomputable section
def E14 : FEnv iseat := ⟨⟨8, [], [], [], [], [], [], [], [], [], [], [], [], true⟩, []⟩
def r14 (a : argD [.int .i64, .int .i64]) := fnRun (ts := [.Span]) itN E14 (bodyOf Tryd.f14) Tryd.f14.results.toList (encA [.int .i64, .int .i64] a)
def sp14 : FnSpec iseat.toSeat := mkSpec iseat.toSeat 14 [.int .i64, .int .i64] [.Span] true r14 (fun a x hx h h' => fn_contract (Z := iseat) (ats := [.int .i64, .int .i64]) (ts := [.Span]) (E := E14) (fn := Tryd.f14) (c := bodyOf Tryd.f14) Tryd.func14 (by kernel_rfl) (by kernel_rfl) (by kernel_rfl) (by kernel_rfl) rfl hx h h') (fun _ x => rfl)
def E9 : FEnv iseat := ⟨⟨22, [sp13, sp28], [], [], [], [], [], [], [], [], [], [], [], true⟩, []⟩
def r9 (a : argD [.Convoy]) := fnRun (ts := [.Meeting, .int .i64]) itN E9 (bodyOf Tryd.f9) Tryd.f9.results.toList (encA [.Convoy] a)
def sp9 : FnSpec iseat.toSeat := mkSpec iseat.toSeat 9 [.Convoy] [.Meeting, .int .i64] true r9 (fun a x hx h h' => fn_contract (Z := iseat) (ats := [.Convoy]) (ts := [.Meeting, .int .i64]) (E := E9) (fn := Tryd.f9) (c := bodyOf Tryd.f9) Tryd.func9 (by kernel_rfl) (by kernel_rfl) (by kernel_rfl) (by kernel_rfl) rfl hx h h') (fun _ x => rfl)
def E10 : FEnv iseat := ⟨⟨13, [sp13, sp29], [], [], [], [], [], [], [], [], [], [], [], true⟩, []⟩
def r10 (a : argD [.Convoy]) := fnRun (ts := [.Span, .int .i64]) itN E10 (bodyOf Tryd.f10) Tryd.f10.results.toList (encA [.Convoy] a)
def sp10 : FnSpec iseat.toSeat := mkSpec iseat.toSeat 10 [.Convoy] [.Span, .int .i64] true r10 (fun a x hx h h' => fn_contract (Z := iseat) (ats := [.Convoy]) (ts := [.Span, .int .i64]) (E := E10) (fn := Tryd.f10) (c := bodyOf Tryd.f10) Tryd.func10 (by kernel_rfl) (by kernel_rfl) (by kernel_rfl) (by kernel_rfl) rfl hx h h') (fun _ x => rfl)
def E12 : FEnv iseat := ⟨⟨7, [sp14], [], [], [], [], [], [], [], [], [], [], [], true⟩, []⟩
def r12 (a : argD []) := fnRunOM .Convoy [none, none, none, some (44, .Truck)] itN E12 (bodyOf Tryd.f12) Tryd.f12.results.toList (encA [] a)
def sp12 : FnSpecOM iseat.toSeat := mkSpecOM iseat.toSeat 12 [] .Convoy [none, none, none, some (44, .Truck)] r12 (fun a x hx os d hd h => fn_contractOM (Z := iseat) (ats := []) (E := E12) (fn := Tryd.f12) (c := bodyOf Tryd.f12) Tryd.func12 (by kernel_rfl) (by kernel_rfl) (by kernel_rfl) (by kernel_rfl) rfl hx hd h)
def E16 : FEnv iseat := ⟨⟨10, [], [], [], [], [], [], [], [], [sp12], [], [], [], true⟩, []⟩
def r16 (a : argD []) := fnRun (ts := [.Convoy]) itN E16 (bodyOf Tryd.f16) Tryd.f16.results.toList (encA [] a)
def sp16 : FnSpec iseat.toSeat := mkSpec iseat.toSeat 16 [] [.Convoy] false r16 (fun a x hx h h' => fn_contract (Z := iseat) (ats := []) (ts := [.Convoy]) (E := E16) (fn := Tryd.f16) (c := bodyOf Tryd.f16) Tryd.func16 (by kernel_rfl) (by kernel_rfl) (by kernel_rfl) (by kernel_rfl) rfl hx h h') (fun h => nomatch h)
def E30 : FEnv iseat := ⟨⟨5, [sp16], [], [], [], [], [], [], [], [], [], [], [], true⟩, []⟩
def r30 (a : argD []) := fnRun (ts := [.Convoy]) itN E30 (bodyOf Tryd.f30) Tryd.f30.results.toList (encA [] a)
def sp30 : FnSpec iseat.toSeat := mkSpec iseat.toSeat 30 [] [.Convoy] false r30 (fun a x hx h h' => fn_contract (Z := iseat) (ats := []) (ts := [.Convoy]) (E := E30) (fn := Tryd.f30) (c := bodyOf Tryd.f30) Tryd.func30 (by kernel_rfl) (by kernel_rfl) (by kernel_rfl) (by kernel_rfl) rfl hx h h') (fun h => nomatch h)
def E11 : FEnv iseat := ⟨⟨42, [sp30, sp9, sp16, sp10, sp14], [], [], [], [], [], [], [], [], [], [], [], true⟩, []⟩
def r11 (a : argD []) := fnRun (ts := [.bool]) itN E11 (bodyOf Tryd.f11) Tryd.f11.results.toList (encA [] a)
def sp11 : FnSpec iseat.toSeat := mkSpec iseat.toSeat 11 [] [.bool] true r11 (fun a x hx h h' => fn_contract (Z := iseat) (ats := []) (ts := [.bool]) (E := E11) (fn := Tryd.f11) (c := bodyOf Tryd.f11) Tryd.func11 (by kernel_rfl) (by kernel_rfl) (by kernel_rfl) (by kernel_rfl) rfl hx h h') (fun _ x => rfl)
def E15 : FEnv iseat := ⟨⟨50, [sp13, sp31, sp34, sp33, sp35, sp37, sp36], [], [], [], [], [], [], [], [], [], [], [], true⟩, []⟩
def r15 (a : argD [.Convoy, .int .i64, .bool, .int .i64]) := fnRun (ts := [.Span, .int .i64, .int .i64]) itN E15 (bodyOf Tryd.f15) Tryd.f15.results.toList (encA [.Convoy, .int .i64, .bool, .int .i64] a)
def sp15 : FnSpec iseat.toSeat := mkSpec iseat.toSeat 15 [.Convoy, .int .i64, .bool, .int .i64] [.Span, .int .i64, .int .i64] true r15 (fun a x hx h h' => fn_contract (Z := iseat) (ats := [.Convoy, .int .i64, .bool, .int .i64]) (ts := [.Span, .int .i64, .int .i64]) (E := E15) (fn := Tryd.f15) (c := bodyOf Tryd.f15) Tryd.func15 (by kernel_rfl) (by kernel_rfl) (by kernel_rfl) (by kernel_rfl) rfl hx h h') (fun _ x => rfl)
def E61 : FEnv iseat := ⟨⟨28, [sp13, sp31], [], [], [], [], [], [], [], [], [], [], [], true⟩, []⟩
def r61 (a : argD [.Convoy, .Span]) := fnRun (ts := [.int .i64]) itN E61 (bodyOf Tryd.f61) Tryd.f61.results.toList (encA [.Convoy, .Span] a)
def sp61 : FnSpec iseat.toSeat := mkSpec iseat.toSeat 61 [.Convoy, .Span] [.int .i64] true r61 (fun a x hx h h' => fn_contract (Z := iseat) (ats := [.Convoy, .Span]) (ts := [.int .i64]) (E := E61) (fn := Tryd.f61) (c := bodyOf Tryd.f61) Tryd.func61 (by kernel_rfl) (by kernel_rfl) (by kernel_rfl) (by kernel_rfl) rfl hx h h') (fun _ x => rfl)
def E38 : FEnv iseat := ⟨⟨34, [sp61, sp29], [], [], [], [], [], [], [], [], [], [], [], true⟩, []⟩
def r38 (a : argD [.Convoy, .Span]) := fnRun (ts := [.int .i64, .int .i64]) itN E38 (bodyOf Tryd.f38) Tryd.f38.results.toList (encA [.Convoy, .Span] a)
def sp38 : FnSpec iseat.toSeat := mkSpec iseat.toSeat 38 [.Convoy, .Span] [.int .i64, .int .i64] true r38 (fun a x hx h h' => fn_contract (Z := iseat) (ats := [.Convoy, .Span]) (ts := [.int .i64, .int .i64]) (E := E38) (fn := Tryd.f38) (c := bodyOf Tryd.f38) Tryd.func38 (by kernel_rfl) (by kernel_rfl) (by kernel_rfl) (by kernel_rfl) rfl hx h h') (fun _ x => rfl)
def E39 : FEnv iseat := ⟨⟨100, [sp61, sp34, sp33, sp54, sp35], [], [], [], [], [], [], [], [], [], [43, 86, 91, 96], [], true⟩, []⟩
def r39 (a : argD [.Convoy, .Span]) := fnRun (ts := [.sl (.int .i64), .int .i64]) itN E39 (bodyOf Tryd.f39) Tryd.f39.results.toList (encA [.Convoy, .Span] a)
def sp39 : FnSpec iseat.toSeat := mkSpec iseat.toSeat 39 [.Convoy, .Span] [.sl (.int .i64), .int .i64] false r39 (fun a x hx h h' => fn_contract (Z := iseat) (ats := [.Convoy, .Span]) (ts := [.sl (.int .i64), .int .i64]) (E := E39) (fn := Tryd.f39) (c := bodyOf Tryd.f39) Tryd.func39 (by kernel_rfl) (by kernel_rfl) (by kernel_rfl) (by kernel_rfl) rfl hx h h') (fun h => nomatch h)
def E40 : FEnv iseat := ⟨⟨26, [], [], [], [], [], [], [], [], [], [], [], [], true⟩, []⟩
def r40 (a : argD [.sl (.int .i64), .sl (.int .i64)]) := fnRun (ts := [.bool]) itN E40 (bodyOf Tryd.f40) Tryd.f40.results.toList (encA [.sl (.int .i64), .sl (.int .i64)] a)
def sp40 : FnSpec iseat.toSeat := mkSpec iseat.toSeat 40 [.sl (.int .i64), .sl (.int .i64)] [.bool] true r40 (fun a x hx h h' => fn_contract (Z := iseat) (ats := [.sl (.int .i64), .sl (.int .i64)]) (ts := [.bool]) (E := E40) (fn := Tryd.f40) (c := bodyOf Tryd.f40) Tryd.func40 (by kernel_rfl) (by kernel_rfl) (by kernel_rfl) (by kernel_rfl) rfl hx h h') (fun _ x => rfl)
def E63 : FEnv iseat := ⟨⟨12, [sp64], [], [], [], [], [], [], [], [], [], [], [], true⟩, []⟩
def r63 (a : argD [.Lanes, .ptr .Nearness, .ptr .Track]) := fnRun (ts := [.bool]) itN E63 (bodyOf Tryd.f63) Tryd.f63.results.toList (encA [.Lanes, .ptr .Nearness, .ptr .Track] a)
def sp63 : FnSpec iseat.toSeat := mkSpec iseat.toSeat 63 [.Lanes, .ptr .Nearness, .ptr .Track] [.bool] true r63 (fun a x hx h h' => fn_contract (Z := iseat) (ats := [.Lanes, .ptr .Nearness, .ptr .Track]) (ts := [.bool]) (E := E63) (fn := Tryd.f63) (c := bodyOf Tryd.f63) Tryd.func63 (by kernel_rfl) (by kernel_rfl) (by kernel_rfl) (by kernel_rfl) rfl hx h h') (fun _ x => rfl)
def E77 : FEnv iseat := ⟨⟨19, [sp63], [], [], [], [], [], [], [], [], [], [], [], true⟩, []⟩
def r77 (a : argD [.sl .Lanes, .clo2 63 .Nearness .Track]) := fnRun (ts := [.int .i64]) itN E77 (bodyOf Tryd.f77) Tryd.f77.results.toList (encA [.sl .Lanes, .clo2 63 .Nearness .Track] a)
def sp77 : FnSpec iseat.toSeat := mkSpec iseat.toSeat 77 [.sl .Lanes, .clo2 63 .Nearness .Track] [.int .i64] true r77 (fun a x hx h h' => fn_contract (Z := iseat) (ats := [.sl .Lanes, .clo2 63 .Nearness .Track]) (ts := [.int .i64]) (E := E77) (fn := Tryd.f77) (c := bodyOf Tryd.f77) Tryd.func77 (by kernel_rfl) (by kernel_rfl) (by kernel_rfl) (by kernel_rfl) rfl hx h h') (fun _ x => rfl)
def E62 : FEnv iseat := ⟨⟨9, [sp77, sp63], [], [], [], [], [], [], [], [], [], [], [], true⟩, []⟩
def r62 (a : argD [.sl .Lanes, .clo2 63 .Nearness .Track]) := fnRun (ts := [.bool]) itN E62 (bodyOf Tryd.f62) Tryd.f62.results.toList (encA [.sl .Lanes, .clo2 63 .Nearness .Track] a)
def sp62 : FnSpec iseat.toSeat := mkSpec iseat.toSeat 62 [.sl .Lanes, .clo2 63 .Nearness .Track] [.bool] true r62 (fun a x hx h h' => fn_contract (Z := iseat) (ats := [.sl .Lanes, .clo2 63 .Nearness .Track]) (ts := [.bool]) (E := E62) (fn := Tryd.f62) (c := bodyOf Tryd.f62) Tryd.func62 (by kernel_rfl) (by kernel_rfl) (by kernel_rfl) (by kernel_rfl) rfl hx h h') (fun _ x => rfl)
def E41 : FEnv iseat := ⟨⟨90, [sp13, sp32, sp31, sp28, sp52, sp33, sp63, sp62], [], [], [], [], [], [], [], [], [], [], [], true⟩, []⟩
def r41 (a : argD [.Convoy, .int .i64, .Span, .Span]) := fnRun (ts := [.int .i64, .int .i64]) itN E41 (bodyOf Tryd.f41) Tryd.f41.results.toList (encA [.Convoy, .int .i64, .Span, .Span] a)
def sp41 : FnSpec iseat.toSeat := mkSpec iseat.toSeat 41 [.Convoy, .int .i64, .Span, .Span] [.int .i64, .int .i64] true r41 (fun a x hx h h' => fn_contract (Z := iseat) (ats := [.Convoy, .int .i64, .Span, .Span]) (ts := [.int .i64, .int .i64]) (E := E41) (fn := Tryd.f41) (c := bodyOf Tryd.f41) Tryd.func41 (by kernel_rfl) (by kernel_rfl) (by kernel_rfl) (by kernel_rfl) rfl hx h h') (fun _ x => rfl)
def E66 : FEnv iseat := ⟨⟨6, [sp31], [], [], [], [], [], [], [], [], [], [], [], true⟩, []⟩
def r66 (a : argD [.int .i64]) := fnRun (ts := [.bool]) itN E66 (bodyOf Tryd.f66) Tryd.f66.results.toList (encA [.int .i64] a)
def sp66 : FnSpec iseat.toSeat := mkSpec iseat.toSeat 66 [.int .i64] [.bool] true r66 (fun a x hx h h' => fn_contract (Z := iseat) (ats := [.int .i64]) (ts := [.bool]) (E := E66) (fn := Tryd.f66) (c := bodyOf Tryd.f66) Tryd.func66 (by kernel_rfl) (by kernel_rfl) (by kernel_rfl) (by kernel_rfl) rfl hx h h') (fun _ x => rfl)
def E79 : FEnv iseat := ⟨⟨8, [], [], [], [], [], [], [], [], [], [], [], [], true⟩, []⟩
def r79 (a : argD [.sl .Truck]) := fnRunO (.sl .Truck) 0 44 .Truck itN E79 (bodyOf Tryd.f79) Tryd.f79.results.toList (encA [.sl .Truck] a)
def sp79 : FnSpecO iseat.toSeat := mkSpecO iseat.toSeat 79 [.sl .Truck] (.sl .Truck) 0 44 .Truck r79 (fun a x hx l d hd h => fn_contractO (Z := iseat) (ats := [.sl .Truck]) (E := E79) (fn := Tryd.f79) (c := bodyOf Tryd.f79) Tryd.func79 (by kernel_rfl) (by kernel_rfl) (by kernel_rfl) (by kernel_rfl) rfl hx hd h)
def E67 : FEnv iseat := ⟨⟨31, [], [], [], [sp79], [], [], [], [], [], [], [], [], true⟩, []⟩
def r67 (a : argD [.Convoy, .sl (.int .i64), .sl (.int .i64)]) := fnRun (ts := [.Convoy]) itN E67 (bodyOf Tryd.f67) Tryd.f67.results.toList (encA [.Convoy, .sl (.int .i64), .sl (.int .i64)] a)
def sp67 : FnSpec iseat.toSeat := mkSpec iseat.toSeat 67 [.Convoy, .sl (.int .i64), .sl (.int .i64)] [.Convoy] false r67 (fun a x hx h h' => fn_contract (Z := iseat) (ats := [.Convoy, .sl (.int .i64), .sl (.int .i64)]) (ts := [.Convoy]) (E := E67) (fn := Tryd.f67) (c := bodyOf Tryd.f67) Tryd.func67 (by kernel_rfl) (by kernel_rfl) (by kernel_rfl) (by kernel_rfl) rfl hx h h') (fun h => nomatch h)
def E17 : FEnv iseat := ⟨⟨100, [sp10, sp30, sp14, sp16, sp38, sp39, sp40], [], [], [], [], [], [], [], [sp12], [], [92, 97], [], true⟩, []⟩
def r17 (a : argD []) := fnRun (ts := [.bool]) itN E17 (bodyOf Tryd.f17) Tryd.f17.results.toList (encA [] a)
def sp17 : FnSpec iseat.toSeat := mkSpec iseat.toSeat 17 [] [.bool] true r17 (fun a x hx h h' => fn_contract (Z := iseat) (ats := []) (ts := [.bool]) (E := E17) (fn := Tryd.f17) (c := bodyOf Tryd.f17) Tryd.func17 (by kernel_rfl) (by kernel_rfl) (by kernel_rfl) (by kernel_rfl) rfl hx h h') (fun _ x => rfl)
def E78 : FEnv iseat := ⟨⟨19, [sp66], [], [], [], [], [], [], [], [], [], [], [], true⟩, []⟩
def r78 (a : argD [.sl (.int .i64), .clo0 66]) := fnRun (ts := [.int .i64]) itN E78 (bodyOf Tryd.f78) Tryd.f78.results.toList (encA [.sl (.int .i64), .clo0 66] a)
def sp78 : FnSpec iseat.toSeat := mkSpec iseat.toSeat 78 [.sl (.int .i64), .clo0 66] [.int .i64] true r78 (fun a x hx h h' => fn_contract (Z := iseat) (ats := [.sl (.int .i64), .clo0 66]) (ts := [.int .i64]) (E := E78) (fn := Tryd.f78) (c := bodyOf Tryd.f78) Tryd.func78 (by kernel_rfl) (by kernel_rfl) (by kernel_rfl) (by kernel_rfl) rfl hx h h') (fun _ x => rfl)
def E65 : FEnv iseat := ⟨⟨9, [sp78, sp66], [], [], [], [], [], [], [], [], [], [], [], true⟩, []⟩
def r65 (a : argD [.sl (.int .i64), .clo0 66]) := fnRun (ts := [.bool]) itN E65 (bodyOf Tryd.f65) Tryd.f65.results.toList (encA [.sl (.int .i64), .clo0 66] a)
def sp65 : FnSpec iseat.toSeat := mkSpec iseat.toSeat 65 [.sl (.int .i64), .clo0 66] [.bool] true r65 (fun a x hx h h' => fn_contract (Z := iseat) (ats := [.sl (.int .i64), .clo0 66]) (ts := [.bool]) (E := E65) (fn := Tryd.f65) (c := bodyOf Tryd.f65) Tryd.func65 (by kernel_rfl) (by kernel_rfl) (by kernel_rfl) (by kernel_rfl) rfl hx h h') (fun _ x => rfl)
def E68 : FEnv iseat := ⟨⟨8, [], [], [], [], [], [], [], [], [], [], [], [], true⟩, []⟩
def r68 (a : argD [.sl (.int .i64)]) := fnRunO (.sl (.int .i64)) 0 3 (.int .i64) itN E68 (bodyOf Tryd.f68) Tryd.f68.results.toList (encA [.sl (.int .i64)] a)
def sp68 : FnSpecO iseat.toSeat := mkSpecO iseat.toSeat 68 [.sl (.int .i64)] (.sl (.int .i64)) 0 3 (.int .i64) r68 (fun a x hx l d hd h => fn_contractO (Z := iseat) (ats := [.sl (.int .i64)]) (E := E68) (fn := Tryd.f68) (c := bodyOf Tryd.f68) Tryd.func68 (by kernel_rfl) (by kernel_rfl) (by kernel_rfl) (by kernel_rfl) rfl hx hd h)
def E42 : FEnv iseat := ⟨⟨192, [sp13, sp65, sp66, sp67, sp52, sp54, sp64, sp29], [], [], [sp68], [], [], [], [], [], [], [4, 81, 86, 156, 182, 3000156], [], true⟩, []⟩
def r42 (a : argD [.Convoy, .sl (.int .i64)]) := fnRun (ts := [.sl (.int .i64), .Span, .int .i64]) itN E42 (bodyOf Tryd.f42) Tryd.f42.results.toList (encA [.Convoy, .sl (.int .i64)] a)
def sp42 : FnSpec iseat.toSeat := mkSpec iseat.toSeat 42 [.Convoy, .sl (.int .i64)] [.sl (.int .i64), .Span, .int .i64] false r42 (fun a x hx h h' => fn_contract (Z := iseat) (ats := [.Convoy, .sl (.int .i64)]) (ts := [.sl (.int .i64), .Span, .int .i64]) (E := E42) (fn := Tryd.f42) (c := bodyOf Tryd.f42) Tryd.func42 (by kernel_rfl) (by kernel_rfl) (by kernel_rfl) (by kernel_rfl) rfl hx h h') (fun h => nomatch h)
def E44 : FEnv iseat := ⟨⟨19, [], [], [], [], [], [], [Tx.sp69], [], [], [], [], [0], false⟩, []⟩
def r44 (x : bkD (bZ 93 5 (.int .u8))) (a : akD [.p 0, .d .str]) := fnRunZ 93 5 (.int .u8) (ts := [.int .i64, .err]) itN E44 (bodyOf Tryd.f44) Tryd.f44.results.toList x (encAK [.p 0, .d .str] a)
def sp44 : FnSpecM iseat.toSeat := mkSpecZ iseat.toSeat 44 93 5 (.int .u8) [.p 0, .d .str] [.int .i64, .err] [] [0] r44 (fun x a y z hx => fn_contractZ (Z := iseat) (U := 93) (B := 5) (t := (.int .u8)) (aks := [.p 0, .d .str]) (ts := [.int .i64, .err]) (E := E44) (fn := Tryd.f44) (c := bodyOf Tryd.f44) Tryd.func44 (by kernel_rfl) (by kernel_rfl) (by kernel_rfl) (by kernel_rfl) rfl rfl hx)
def E46 : FEnv iseat := ⟨⟨17, [], [], [], [], [], [], [Tx.sp69], [], [], [], [13], [0], false⟩, []⟩
def r46 (x : bkD (bZ 93 5 (.int .u8))) (a : akD [.p 0, .d (.int .u8)]) := fnRunZ 93 5 (.int .u8) (ts := [.err]) itN E46 (bodyOf Tryd.f46) Tryd.f46.results.toList x (encAK [.p 0, .d (.int .u8)] a)
def sp46 : FnSpecM iseat.toSeat := mkSpecZ iseat.toSeat 46 93 5 (.int .u8) [.p 0, .d (.int .u8)] [.err] [] [0] r46 (fun x a y z hx => fn_contractZ (Z := iseat) (U := 93) (B := 5) (t := (.int .u8)) (aks := [.p 0, .d (.int .u8)]) (ts := [.err]) (E := E46) (fn := Tryd.f46) (c := bodyOf Tryd.f46) Tryd.func46 (by kernel_rfl) (by kernel_rfl) (by kernel_rfl) (by kernel_rfl) rfl rfl hx)
def E43 : FEnv iseat := ⟨⟨21, [Tx.sp45], [], [], [], [], [], [sp44, sp46], [], [], [], [], [0], false⟩, []⟩
def r43 (x : bkD (bZ 93 5 (.int .u8))) (a : akD [.d .str, .d (.sl (.int .i64)), .p 0]) := fnRunZ 93 5 (.int .u8) (ts := []) itN E43 (bodyOf Tryd.f43) Tryd.f43.results.toList x (encAK [.d .str, .d (.sl (.int .i64)), .p 0] a)
def sp43 : FnSpecM iseat.toSeat := mkSpecZ iseat.toSeat 43 93 5 (.int .u8) [.d .str, .d (.sl (.int .i64)), .p 0] [] [] [0] r43 (fun x a y z hx => fn_contractZ (Z := iseat) (U := 93) (B := 5) (t := (.int .u8)) (aks := [.d .str, .d (.sl (.int .i64)), .p 0]) (ts := []) (E := E43) (fn := Tryd.f43) (c := bodyOf Tryd.f43) Tryd.func43 (by kernel_rfl) (by kernel_rfl) (by kernel_rfl) (by kernel_rfl) rfl rfl hx)
def E47 : FEnv iseat := ⟨⟨8, [], [], [], [], [], [], [], [], [], [], [], (rng 0 [.z 93 0 1, .a 5 (.int .u8)]), false⟩, []⟩
def r47 (x : bkD [.z 93 0 1, .a 5 (.int .u8)]) (a : akD [.p 0]) := fnRunM [.z 93 0 1, .a 5 (.int .u8)] (ts := [.int .i64]) itN E47 (bodyOf Tryd.f47) Tryd.f47.results.toList x (encAK [.p 0] a)
def sp47 : FnSpecM iseat.toSeat := mkSpecM iseat.toSeat 47 [.z 93 0 1, .a 5 (.int .u8)] [.p 0] [.int .i64] [] [0] r47 (fun x a y z hx => fn_contractM (Z := iseat) (bks := [.z 93 0 1, .a 5 (.int .u8)]) (aks := [.p 0]) (ts := [.int .i64]) (E := E47) (fn := Tryd.f47) (c := bodyOf Tryd.f47) Tryd.func47 (by kernel_rfl) (by kernel_rfl) (by kernel_rfl) (by kernel_rfl) rfl rfl (by kernel_rfl) (by kernel_rfl) hx)
def E19 : FEnv iseat := ⟨⟨68, [sp13], [], [], [], [], [], [sp43, sp47, Tx.sp48], [], [], [], [24, 47, 61], [], true⟩, []⟩
def r19 (a : argD [.Convoy]) := fnRun (ts := [.str, .int .i64]) itN E19 (bodyOf Tryd.f19) Tryd.f19.results.toList (encA [.Convoy] a)
def sp19 : FnSpec iseat.toSeat := mkSpec iseat.toSeat 19 [.Convoy] [.str, .int .i64] true r19 (fun a x hx h h' => fn_contract (Z := iseat) (ats := [.Convoy]) (ts := [.str, .int .i64]) (E := E19) (fn := Tryd.f19) (c := bodyOf Tryd.f19) Tryd.func19 (by kernel_rfl) (by kernel_rfl) (by kernel_rfl) (by kernel_rfl) rfl hx h h') (fun _ x => rfl)
def E18 : FEnv iseat := ⟨⟨74, [sp14, sp41, sp42, sp30, sp19, sp40], [], [], [], [], [], [], [], [sp12], [], [32, 58], [], true⟩, []⟩
def r18 (a : argD []) := fnRun (ts := [.bool]) itN E18 (bodyOf Tryd.f18) Tryd.f18.results.toList (encA [] a)
def sp18 : FnSpec iseat.toSeat := mkSpec iseat.toSeat 18 [] [.bool] true r18 (fun a x hx h h' => fn_contract (Z := iseat) (ats := []) (ts := [.bool]) (E := E18) (fn := Tryd.f18) (c := bodyOf Tryd.f18) Tryd.func18 (by kernel_rfl) (by kernel_rfl) (by kernel_rfl) (by kernel_rfl) rfl hx h h') (fun _ x => rfl)
def E4 : FEnv iseat := ⟨⟨146, [sp11, sp13, sp14, sp16, sp15, sp9, sp17, sp18], [], [], [], [], [], [], [], [sp12], [], [], [], true⟩, []⟩
def r4 (a : argD []) := fnRun (ts := [.bool]) itN E4 (bodyOf Tryd.f4) Tryd.f4.results.toList (encA [] a)
end
end Go.Proofs.Kn04
namespace Go.Proofs.Kn04
open Go Go.Ab
set_option maxRecDepth 100000
theorem t4 : r4 () = some true := by kernel_rfl
end Go.Proofs.Kn04
namespace Go.Proofs.YtmoiedlfimodeaaDoor
open Go Go.Ab Go.ChangeShapes Go.WideShapes Go.ChangeAt Go.RowKit
set_option maxRecDepth 100000
def allK (w : World) : Nat → Nat → Option Value := fun b o => w.cell? ⟨b, o, none⟩
theorem allK_fits (w : World) : Fits (allK w) w := fun _ _ _ h => h
theorem lv_tail {W : World} {x : String × DataW Unit} {r : List (String × DataW Unit)} {ps : List MemPlace} (h : DataW.LaidVars Tryd.prog W (x :: r) ps) : ∃ q, DataW.LaidVars Tryd.prog W r q := by
  obtain ⟨g, t, cs, fuel, p, q, _, _, _, _, h2, _⟩ := h
  exact ⟨q, h2⟩
theorem gl_ok {W : World} {name : String} {g : Nat} {cs : Array Value} {l : List D} {u : List Value} (hg : Tryd.prog.globalNamed name = some g) (hvar : W.var? Tryd.prog name = some cs) (hu : cs.toList = u) (hl : allCell l = true) (hr : RepL (allK W) γ0 sv0 l u) :
    allCell l = true ∧ ∃ u, RepL (allK W) γ0 sv0 l u ∧ ∀ j v, u[j]? = some v → allK W g j = some v :=
  ⟨hl, u, hr, fun j v hj => by
    have : W.cell? ⟨g, j, none⟩ = cs[j]? := World.var?_cell hg hvar j
    show W.cell? ⟨g, j, none⟩ = some v
    rw [this, ← hj, ← hu]; simp⟩
theorem rowSz_of {W : World} {name : String} {g : Nat} {cs : Array Value} (hg : Tryd.prog.globalNamed name = some g) (hvar : W.var? Tryd.prog name = some cs) : RowSz W g cs.size := by
  simp only [World.var?, hg, Option.bind_some] at hvar
  split at hvar
  · rename_i c t f h
    simp only [Option.some.injEq] at hvar
    subst hvar
    exact ⟨c, t, f, h, rfl⟩
  · cases hvar
theorem repL_int {κ : Nat → Nat → Option Value} {γ : Nat → Nat} {sv : Nat → Value} (k : IntKind) : ∀ zs : List Int, RepL κ γ sv (zs.map (D.int k)) (zs.map (Value.int k))
  | [] => .nil
  | z :: zs => .cons _ _ _ _ (.int k z) (repL_int k zs)
theorem cells3 : Tryd.prog.cellsOf 3 = 1 := by kernel_rfl
theorem cells9 : Tryd.prog.cellsOf 9 = 1 := by kernel_rfl
theorem cells60 : Tryd.prog.cellsOf 60 = 1 := by kernel_rfl
theorem cells101 : Tryd.prog.cellsOf 101 = 3 := by kernel_rfl
theorem cells136 : Tryd.prog.cellsOf 136 = 2 := by kernel_rfl
theorem cells137 : Tryd.prog.cellsOf 137 = 8 := by kernel_rfl
theorem cells162 : Tryd.prog.cellsOf 162 = 20 := by kernel_rfl
def pow10s : List Int := [1, 10, 100, 1000, 10000, 100000, 1000000, 10000000, 100000000, 1000000000, 10000000000, 100000000000, 1000000000000, 10000000000000, 100000000000000, 1000000000000000, 10000000000000000, 100000000000000000, 1000000000000000000, 10000000000000000000]
section
variable {W : World} {ps : List MemPlace} {r : List (String × DataW Unit)}
theorem pow_at (h : DataW.LaidVars Tryd.prog W (("internal/strconv.uint64pow10", Rows.laid_internal_strconv_uint64pow10) :: r) ps) : ∃ cs, W.var? Tryd.prog "internal/strconv.uint64pow10" = some cs ∧ cs.toList = pow10s.map (Value.int .u64) := by
  obtain ⟨g, t, cs, fuel, p, q, hg, ht, hvar, hd, _, _⟩ := h
  have hg0 : Tryd.prog.globalNamed "internal/strconv.uint64pow10" = some 2 := by kernel_rfl
  have ht0 : (Tryd.prog.globals[2]?).map (·.type) = some 162 := by kernel_rfl
  obtain rfl := Option.some.inj (hg0.symm.trans hg)
  obtain rfl := Option.some.inj (ht0.symm.trans ht)
  exact ⟨cs, hvar, Lib.cells_of_tab (zs := pow10s) Tryd.underlying162 Tryd.underlying60 cells60 cells162 hd⟩
theorem cases_at (h : DataW.LaidVars Tryd.prog W (("sastrugi/convoy.cases", Rows.laid_sastrugi_convoy_cases) :: r) ps) : ∃ cs, W.var? Tryd.prog "sastrugi/convoy.cases" = some cs ∧ cs.toList = [0, 0, 1, 0, 0, 1, 1, 1].map (Value.int .i64) := by
  obtain ⟨g, t, cs, fuel, p, q, hg, ht, hvar, hd, _, _⟩ := h
  have hg0 : Tryd.prog.globalNamed "sastrugi/convoy.cases" = some 1 := by kernel_rfl
  have ht0 : (Tryd.prog.globals[1]?).map (·.type) = some 137 := by kernel_rfl
  obtain rfl := Option.some.inj (hg0.symm.trans hg)
  obtain rfl := Option.some.inj (ht0.symm.trans ht)
  obtain ⟨xs, m, rfl, hx, hlen, hxl, he⟩ := DataW.trod_array Tryd.underlying137 hd
  have hx1 := congrArg Prod.fst hx
  simp only [Rows.laid_sastrugi_convoy_cases, DataW.agg.injEq] at hx1
  rw [cells137] at hlen
  rw [cells136] at he
  have row : ∀ i a b, i < 4 → (xs.map (·.1))[i]? = some (.agg [.lit (.int .i64 a), .lit (.int .i64 b)]) → (cs.toList.drop (i * 2)).take 2 = [Value.int .i64 a, Value.int .i64 b] := fun i a b hi hi2 => by
    rw [List.getElem?_map] at hi2
    obtain ⟨y, hy, hy2⟩ := Option.map_eq_some_iff.1 hi2
    have h1 := he i hi
    rw [hy] at h1
    obtain ⟨d, p'⟩ := y
    simp only at hy2
    subst hy2
    exact Lib.cells_of_tab (zs := [a, b]) Tryd.underlying136 Tryd.underlying3 cells3 cells136 h1
  rw [← hx1] at row
  have r0 := row 0 0 0 (by decide) rfl
  have r1 := row 1 1 0 (by decide) rfl
  have r2 := row 2 0 1 (by decide) rfl
  have r3 := row 3 1 1 (by decide) rfl
  refine ⟨cs, hvar, ?_⟩
  generalize cs.toList = l at hlen r0 r1 r2 r3
  rcases l with _ | ⟨c0, _ | ⟨c1, _ | ⟨c2, _ | ⟨c3, _ | ⟨c4, _ | ⟨c5, _ | ⟨c6, _ | ⟨c7, _ | ⟨c8, l⟩⟩⟩⟩⟩⟩⟩⟩⟩ <;> simp at hlen
  simp at r0 r1 r2 r3
  obtain ⟨rfl, rfl⟩ := r0
  obtain ⟨rfl, rfl⟩ := r1
  obtain ⟨rfl, rfl⟩ := r2
  obtain ⟨rfl, rfl⟩ := r3
  rfl
theorem ways_at (h : DataW.LaidVars Tryd.prog W (("sastrugi/convoy.ways", Rows.laid_sastrugi_convoy_ways) :: r) ps) : ∃ cs, W.var? Tryd.prog "sastrugi/convoy.ways" = some cs ∧ cs.toList = [.string ⟨#[]⟩, .string ⟨#[117, 112]⟩, .string ⟨#[100, 111, 119, 110]⟩] := by
  obtain ⟨g, t, cs, fuel, p, q, hg, ht, hvar, hd, _, _⟩ := h
  have hg0 : Tryd.prog.globalNamed "sastrugi/convoy.ways" = some 0 := by kernel_rfl
  have ht0 : (Tryd.prog.globals[0]?).map (·.type) = some 101 := by kernel_rfl
  obtain rfl := Option.some.inj (hg0.symm.trans hg)
  obtain rfl := Option.some.inj (ht0.symm.trans ht)
  obtain ⟨xs, m, rfl, hx, hlen, hxl, he⟩ := DataW.trod_array Tryd.underlying101 hd
  have hx1 := congrArg Prod.fst hx
  simp only [Rows.laid_sastrugi_convoy_ways, DataW.agg.injEq] at hx1
  rw [cells101] at hlen
  rw [cells9] at he
  have row : ∀ i (b : List UInt8), i < 3 → (xs.map (·.1))[i]? = some (.lit (.string b)) → (cs.toList.drop (i * 1)).take 1 = [Value.string ⟨b.toArray⟩] := fun i b hi hi2 => by
    rw [List.getElem?_map] at hi2
    obtain ⟨y, hy, hy2⟩ := Option.map_eq_some_iff.1 hi2
    have h1 := he i hi
    rw [hy] at h1
    obtain ⟨d, p'⟩ := y
    simp only at hy2
    subst hy2
    obtain ⟨s, e1, e2, _⟩ := DataW.trod_string Tryd.underlying9 h1
    rw [e1]
    have e3 := congrArg Prod.fst e2
    simp only [DataW.lit.injEq, Lit.string.injEq] at e3
    subst e3
    simp
  rw [← hx1] at row
  have r0 := row 0 [] (by decide) rfl
  have r1 := row 1 [117, 112] (by decide) rfl
  have r2 := row 2 [100, 111, 119, 110] (by decide) rfl
  refine ⟨cs, hvar, ?_⟩
  generalize cs.toList = l at hlen r0 r1 r2
  rcases l with _ | ⟨c0, _ | ⟨c1, _ | ⟨c2, _ | ⟨c3, l⟩⟩⟩⟩ <;> simp at hlen
  simp at r0 r1 r2
  subst r0 r1 r2
  rfl
end
theorem glob_of {W : World} (h : laidMetH Tryd.prog [("math/bits.deBruijn32tab", Rows.laid_math_bits_deBruijn32tab), ("math/bits.deBruijn64tab", Rows.laid_math_bits_deBruijn64tab), ("internal/strconv.uint64pow10", Rows.laid_internal_strconv_uint64pow10), ("sastrugi/convoy.cases", Rows.laid_sastrugi_convoy_cases), ("sastrugi/convoy.ways", Rows.laid_sastrugi_convoy_ways)] W) : GlobOk iseat.toSeat (allK W) W := by
  have h' : laidMet Tryd.prog [("math/bits.deBruijn32tab", Rows.laid_math_bits_deBruijn32tab), ("math/bits.deBruijn64tab", Rows.laid_math_bits_deBruijn64tab), ("internal/strconv.uint64pow10", Rows.laid_internal_strconv_uint64pow10), ("sastrugi/convoy.cases", Rows.laid_sastrugi_convoy_cases), ("sastrugi/convoy.ways", Rows.laid_sastrugi_convoy_ways)] W := h
  obtain ⟨ps, h0, _⟩ := h'
  obtain ⟨_, h1⟩ := lv_tail h0
  obtain ⟨_, h2⟩ := lv_tail h1
  obtain ⟨_, h3⟩ := lv_tail h2
  obtain ⟨_, h4⟩ := lv_tail h3
  obtain ⟨c2, v2, u2⟩ := pow_at h2
  obtain ⟨c1, v1, u1⟩ := cases_at h3
  obtain ⟨c0, v0, u0⟩ := ways_at h4
  constructor
  · intro g l hl
    have hl' : globs g = some l := hl
    unfold globs at hl'
    split at hl'
    · simp only [Option.some.injEq] at hl'
      subst hl'
      exact gl_ok (name := "sastrugi/convoy.ways") (by kernel_rfl) v0 u0 rfl (.cons _ _ _ _ (.str _) (.cons _ _ _ _ (.str _) (.cons _ _ _ _ (.str _) .nil)))
    · simp only [Option.some.injEq] at hl'
      subst hl'
      exact gl_ok (name := "sastrugi/convoy.cases") (by kernel_rfl) v1 u1 rfl (repL_int .i64 [0, 0, 1, 0, 0, 1, 1, 1])
    · simp only [Option.some.injEq] at hl'
      subst hl'
      exact gl_ok (name := "internal/strconv.uint64pow10") (by kernel_rfl) v2 u2 rfl (repL_int .u64 pow10s)
    · cases hl'
  · intro g n hn
    have hn' : gszs g = some n := hn
    unfold gszs at hn'
    split at hn'
    · simp only [Option.some.injEq] at hn'
      subst hn'
      have h5 := rowSz_of (name := "internal/strconv.uint64pow10") (g := 2) (by kernel_rfl) v2
      have h6 : c2.size = 20 := by
        have := congrArg List.length u2
        simpa [pow10s] using this
      rw [h6] at h5
      exact h5
    · cases hn'
theorem laidOut : laidOutB Tryd.prog = true := by kernel_rfl
theorem own : ownKnob Tryd.prog.godebug = none := by kernel_rfl
theorem trodAll_stays {H : Type} {enc : TypeId × Value → H} {W W' : World} {sp' : Nat → Bool} (hb : Below W.heap.size W W') : ∀ {ts : List TypeId} {vs : List Value} {ds : List (DataW H)} {ps : List MemPlace},
    (∀ t ∈ ts, Tryd.prog.readableRec t = true ∧ t < Tryd.prog.types.size) → DataW.TrodAll enc Tryd.prog W 0 (fun _ => true) true ts vs ds ps → (∀ p ∈ ps, p.block < W.heap.size) → (∀ p ∈ ps, sp' p.block = true) →
    DataW.TrodAll enc Tryd.prog W' 0 sp' true ts vs ds ps
  | [], [], [], _, _, h, _, _ => h
  | _ :: _, _ :: _, _ :: _, _, hT, ⟨p, q, h1, h2, e⟩, hlt, hs => ⟨p, q,
      WideElems.Trod_stays laidOut (hT _ (List.mem_cons_self ..)).1 (hT _ (List.mem_cons_self ..)).2 h1 (fun x hx => hb.same (hlt x (by rw [e]; exact List.mem_append_left _ hx))) (fun x hx => hs x (by rw [e]; exact List.mem_append_left _ hx)),
      trodAll_stays hb (fun t ht => hT t (List.mem_cons_of_mem _ ht)) h2 (fun x hx => hlt x (by rw [e]; exact List.mem_append_right _ hx)) (fun x hx => hs x (by rw [e]; exact List.mem_append_right _ hx)), e⟩
theorem post_yes {H : Type} {enc : TypeId × Value → H} {f : Func} {s : ChangeSpec} {W W' : World} {args : Array Value} {ds gs : List (DataW H)} {before : List MemPlace}
    (hW : DataW.Whole enc Tryd.prog f.params.toList s.vars false W args.toList ds gs before) (hv : s.vars = []) (hb : Below W.heap.size W W')
    (hT : ∀ t ∈ f.params.toList, Tryd.prog.readableRec t = true ∧ t < Tryd.prog.types.size) (hrt : f.resultTypes = #[4])
    (hr : (s.fn H (ds ++ gs)).results = [.lit (.bool true)]) (ha : (s.fn H (ds ++ gs)).args = ds) (hvs : (s.fn H (ds ++ gs)).vars = []) :
    s.post enc Tryd.prog f false true false false W args (.bool true) W' := by
  have hlt := hW.lt
  have hW2 := hW
  obtain ⟨p, q, hA, hV, rfl, _, _⟩ := hW
  rw [hv] at hV
  obtain ⟨rfl, rfl⟩ := trodVars_none hV
  refine ⟨ds, [], p ++ [], [], p, [], hW2, ?_, ?_, ?_, hb.frame _, fun h => by cases h⟩
  · rw [hr, hrt]
    exact trodAll_mk1 (shut_bool Tryd.underlying4 _)
  · rw [ha]
    exact trodAll_stays hb hT hA (fun x hx => hlt x (by simpa using hx)) (fun x hx => by simpa using hlt x (by simpa using hx))
  · rw [hvs, hv]; rfl
def layV (l : List Value) : Obj → Obj
  | .cells _ t frozen => .cells l.toArray t frozen
  | o => o
def deB32 : List Int := [0, 1, 28, 2, 29, 14, 24, 3, 30, 22, 20, 15, 25, 17, 4, 8, 31, 27, 13, 23, 21, 19, 16, 7, 26, 12, 18, 6, 11, 5, 10, 9]
def deB64 : List Int := [0, 1, 56, 2, 57, 49, 28, 3, 61, 58, 42, 50, 38, 29, 17, 4, 62, 47, 59, 36, 45, 43, 51, 22, 53, 39, 33, 30, 24, 18, 12, 5, 63, 55, 48, 27, 60, 41, 37, 16, 46, 35, 44, 21, 52, 32, 23, 11, 54, 26, 40, 15, 34, 20, 31, 10, 25, 14, 19, 9, 13, 8, 7, 6]
noncomputable def laidWorld (os : Os) : World :=
  { World.holding Tryd.prog os ⟨#[], #[], []⟩ with heap := (((((World.holding Tryd.prog os ⟨#[], #[], []⟩).heap.modify 0 (layV [.string ⟨#[]⟩, .string ⟨#[117, 112]⟩, .string ⟨#[100, 111, 119, 110]⟩])).modify 1 (layV ([0, 0, 1, 0, 0, 1, 1, 1].map (Value.int .i64)))).modify 2 (layV (pow10s.map (Value.int .u64)))).modify 8 (layV (deB32.map (Value.int .u8)))).modify 9 (layV (deB64.map (Value.int .u8))) }
end Go.Proofs.YtmoiedlfimodeaaDoor
