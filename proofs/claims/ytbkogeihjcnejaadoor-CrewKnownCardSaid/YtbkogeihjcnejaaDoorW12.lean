/- Walks by computing: what each function of the program that the laws reach gives for what it gets, as plain Lean, and that it is so; without a condition but those that stand in each theorem. -/
import Derived.Test.YtbkogeihjcnejaaDoorCards
import Derived.Test.YtbkogeihjcnejaaDoorTie
import Derived.WalkKit
import Derived.ProofKit
import Derived.OpenShut
import Derived.Deep.Slices
import Derived.Deep.DeepHandedRow
import Derived.Lib.LaidTab
import Derived.Test.YtbkogeihjcnejaaDoorW1
import Derived.Test.YtbkogeihjcnejaaDoorW2
import Derived.Test.YtbkogeihjcnejaaDoorW3
import Derived.Test.YtbkogeihjcnejaaDoorW4
import Derived.Test.YtbkogeihjcnejaaDoorW5
import Derived.Test.YtbkogeihjcnejaaDoorW6
import Derived.Test.YtbkogeihjcnejaaDoorW7
import Derived.Test.YtbkogeihjcnejaaDoorW8
import Derived.Test.YtbkogeihjcnejaaDoorW9
import Derived.Test.YtbkogeihjcnejaaDoorW10
import Derived.Test.YtbkogeihjcnejaaDoorW11
set_option linter.all false
namespace Go.Proofs.CrewK
open Go Go.Ab
open Go.Proofs.YtbkogeihjcnejaaDoor (iseat)
set_option linter.all false
set_option maxRecDepth 100000
noncomputable section
def E27 : FEnv iseat := ⟨⟨46, [Crew.sp22, Crew.sp20, Crew.sp33f], [], [], [], [], [], [], [], [], [], [], [], true⟩, []⟩
def r27 (a : argD [.Rules, .Driver, .int .i64, .int .i64]) := fnRun (ts := [.int .i64, .int .i64]) itN E27 (bodyOf Tryd.f27) Tryd.f27.results.toList (encA [.Rules, .Driver, .int .i64, .int .i64] a)
end
end Go.Proofs.CrewK
namespace Go.Proofs.CrewK
open Go Go.Ab Go.Proofs.Crew
open Go.Proofs.YtbkogeihjcnejaaDoor (iseat)
set_option linter.all false
set_option maxRecDepth 100000
noncomputable section
def is45 (a : argD [.Rules, .Driver, .int .i64, .int .i64]) : Bool := decide (a.1 = u0) && (decide (a.2.1 = exD) && (decide (a.2.2.1 = 4) && decide (a.2.2.2.1 = 5)))
def nextF (a : argD [.Rules, .Driver, .int .i64, .int .i64]) : Option (Int × Int) := bif is45 a then some (0, 7) else r27 a
theorem h45 : fnRun (ts := [.int .i64, .int .i64]) itN Crew.E27 (bodyOf Tryd.f27) Tryd.f27.results.toList (encA [.Rules, .Driver, .int .i64, .int .i64] (u0, exD, 4, 5, ())) = some (0, 7) := by
  rw [Crew.e27, ← pNext_eq]
  exact next_45
theorem is45_ok {a : argD [.Rules, .Driver, .int .i64, .int .i64]} (hc : is45 a = true) : a = (u0, exD, 4, 5, ()) := by
  obtain ⟨u, d, n, l, q⟩ := a
  cases q
  simp only [is45, Bool.and_eq_true, decide_eq_true_eq] at hc
  obtain ⟨rfl, rfl, rfl, rfl⟩ := hc
  rfl
def sp27f : FnSpec iseat.toSeat := mkSpec iseat.toSeat 27 [.Rules, .Driver, .int .i64, .int .i64] [.int .i64, .int .i64] true nextF (fun a x hx h h' => by
  unfold nextF at hx
  cases hc : is45 a with
  | false =>
    rw [hc, cond_false] at hx
    exact fn_contract (Z := iseat) (ats := [.Rules, .Driver, .int .i64, .int .i64]) (ts := [.int .i64, .int .i64]) (E := E27) (fn := Tryd.f27) (c := bodyOf Tryd.f27) Tryd.func27 (by kernel_rfl) (by kernel_rfl) (by kernel_rfl) (by kernel_rfl) rfl hx h h'
  | true =>
    rw [hc, cond_true, Option.some.injEq] at hx
    subst hx
    rw [is45_ok hc]
    exact fn_contract (Z := iseat) (ats := [.Rules, .Driver, .int .i64, .int .i64]) (ts := [.int .i64, .int .i64]) (E := Crew.E27) (fn := Tryd.f27) (c := bodyOf Tryd.f27) Tryd.func27 (by kernel_rfl) (by kernel_rfl) (by kernel_rfl) (by kernel_rfl) rfl h45 h h') (fun _ x => rfl)
end
end Go.Proofs.CrewK
namespace Go.Proofs.CrewK
open Go Go.Ab
open Go.Proofs.YtbkogeihjcnejaaDoor (iseat)
set_option linter.all false
set_option maxRecDepth 100000
noncomputable section
def E5 : FEnv iseat := ⟨⟨8, [], [], [], [], [], [], [], [], [], [], [], [], true⟩, []⟩
def r5 (a : argD [.int .i64, .int .i64]) := fnRun (ts := [.Span]) itN E5 (bodyOf Tryd.f5) Tryd.f5.results.toList (encA [.int .i64, .int .i64] a)
def sp5 : FnSpec iseat.toSeat := mkSpec iseat.toSeat 5 [.int .i64, .int .i64] [.Span] true r5 (fun a x hx h h' => fn_contract (Z := iseat) (ats := [.int .i64, .int .i64]) (ts := [.Span]) (E := E5) (fn := Tryd.f5) (c := bodyOf Tryd.f5) Tryd.func5 (by kernel_rfl) (by kernel_rfl) (by kernel_rfl) (by kernel_rfl) rfl hx h h') (fun _ x => rfl)
def E11 : FEnv iseat := ⟨⟨2, [], [], [], [], [], [], [], [], [], [], [], [], true⟩, []⟩
def r11 (a : argD []) := fnRun (ts := [.Rules]) itN E11 (bodyOf Tryd.f11) Tryd.f11.results.toList (encA [] a)
def sp11 : FnSpec iseat.toSeat := mkSpec iseat.toSeat 11 [] [.Rules] true r11 (fun a x hx h h' => fn_contract (Z := iseat) (ats := []) (ts := [.Rules]) (E := E11) (fn := Tryd.f11) (c := bodyOf Tryd.f11) Tryd.func11 (by kernel_rfl) (by kernel_rfl) (by kernel_rfl) (by kernel_rfl) rfl hx h h') (fun _ x => rfl)
def E16 : FEnv iseat := ⟨⟨6, [sp5], [], [], [], [], [], [], [], [], [], [], [], true⟩, []⟩
def r16 (a : argD [.int .i64]) := fnRun (ts := [.Span]) itN E16 (bodyOf Tryd.f16) Tryd.f16.results.toList (encA [.int .i64] a)
def sp16 : FnSpec iseat.toSeat := mkSpec iseat.toSeat 16 [.int .i64] [.Span] true r16 (fun a x hx h h' => fn_contract (Z := iseat) (ats := [.int .i64]) (ts := [.Span]) (E := E16) (fn := Tryd.f16) (c := bodyOf Tryd.f16) Tryd.func16 (by kernel_rfl) (by kernel_rfl) (by kernel_rfl) (by kernel_rfl) rfl hx h h') (fun _ x => rfl)
def E4 : FEnv iseat := ⟨⟨9, [sp16, sp5], [], [], [], [], [], [], [], [], [], [], [], true⟩, []⟩
def r4 (a : argD []) := fnRunOM .Driver [none, none, some (30, .Turn)] itN E4 (bodyOf Tryd.f4) Tryd.f4.results.toList (encA [] a)
def sp4 : FnSpecOM iseat.toSeat := mkSpecOM iseat.toSeat 4 [] .Driver [none, none, some (30, .Turn)] r4 (fun a x hx os d hd h => fn_contractOM (Z := iseat) (ats := []) (E := E4) (fn := Tryd.f4) (c := bodyOf Tryd.f4) Tryd.func4 (by kernel_rfl) (by kernel_rfl) (by kernel_rfl) (by kernel_rfl) rfl hx hd h)
def E10 : FEnv iseat := ⟨⟨30, [Crew.sp22, Crew.sp24, Crew.sp23f, Crew.sp25f], [], [], [], [], [], [], [], [], [], [], [], true⟩, []⟩
def r10 (a : argD [.Rules, .Driver]) := fnRun (ts := [.int .i64, .int .i64, .int .i64, .int .i64]) itN E10 (bodyOf Tryd.f10) Tryd.f10.results.toList (encA [.Rules, .Driver] a)
def sp10 : FnSpec iseat.toSeat := mkSpec iseat.toSeat 10 [.Rules, .Driver] [.int .i64, .int .i64, .int .i64, .int .i64] true r10 (fun a x hx h h' => fn_contract (Z := iseat) (ats := [.Rules, .Driver]) (ts := [.int .i64, .int .i64, .int .i64, .int .i64]) (E := E10) (fn := Tryd.f10) (c := bodyOf Tryd.f10) Tryd.func10 (by kernel_rfl) (by kernel_rfl) (by kernel_rfl) (by kernel_rfl) rfl hx h h') (fun _ x => rfl)
def E9 : FEnv iseat := ⟨⟨30, [sp16], [], [], [], [], [], [], [], [], [], [26], [], true⟩, []⟩
def r9 (a : argD [.sl (.int .i64)]) := fnRun (ts := [.Driver]) itN E9 (bodyOf Tryd.f9) Tryd.f9.results.toList (encA [.sl (.int .i64)] a)
def sp9 : FnSpec iseat.toSeat := mkSpec iseat.toSeat 9 [.sl (.int .i64)] [.Driver] false r9 (fun a x hx h h' => fn_contract (Z := iseat) (ats := [.sl (.int .i64)]) (ts := [.Driver]) (E := E9) (fn := Tryd.f9) (c := bodyOf Tryd.f9) Tryd.func9 (by kernel_rfl) (by kernel_rfl) (by kernel_rfl) (by kernel_rfl) rfl hx h h') (fun h => nomatch h)
def E26 : FEnv iseat := ⟨⟨45, [Crew.sp22, Crew.sp20, Crew.sp44, Crew.sp45, Crew.sp25f], [], [], [], [], [], [], [], [], [], [], [], true⟩, []⟩
def r26 (a : argD [.Rules, .Driver, .int .i64, .int .i64]) := fnRun (ts := [.int .i64, .int .i64]) itN E26 (bodyOf Tryd.f26) Tryd.f26.results.toList (encA [.Rules, .Driver, .int .i64, .int .i64] a)
def sp26 : FnSpec iseat.toSeat := mkSpec iseat.toSeat 26 [.Rules, .Driver, .int .i64, .int .i64] [.int .i64, .int .i64] true r26 (fun a x hx h h' => fn_contract (Z := iseat) (ats := [.Rules, .Driver, .int .i64, .int .i64]) (ts := [.int .i64, .int .i64]) (E := E26) (fn := Tryd.f26) (c := bodyOf Tryd.f26) Tryd.func26 (by kernel_rfl) (by kernel_rfl) (by kernel_rfl) (by kernel_rfl) rfl hx h h') (fun _ x => rfl)
def E32 : FEnv iseat := ⟨⟨10, [Crew.sp33f], [], [], [], [], [], [], [], [], [], [], [], true⟩, []⟩
def r32 (a : argD [.int .i64, .ptr .Shift, .ptr (.int .i64)]) := fnRun (ts := [.bool]) itN E32 (bodyOf Tryd.f32) Tryd.f32.results.toList (encA [.int .i64, .ptr .Shift, .ptr (.int .i64)] a)
def sp32 : FnSpec iseat.toSeat := mkSpec iseat.toSeat 32 [.int .i64, .ptr .Shift, .ptr (.int .i64)] [.bool] true r32 (fun a x hx h h' => fn_contract (Z := iseat) (ats := [.int .i64, .ptr .Shift, .ptr (.int .i64)]) (ts := [.bool]) (E := E32) (fn := Tryd.f32) (c := bodyOf Tryd.f32) Tryd.func32 (by kernel_rfl) (by kernel_rfl) (by kernel_rfl) (by kernel_rfl) rfl hx h h') (fun _ x => rfl)
def E31 : FEnv iseat := ⟨⟨26, [sp32], [], [], [], [], [], [], [], [], [], [], [], true⟩, []⟩
def r31 (a : argD [.int .i64, .clo2 32 .Shift (.int .i64)]) := fnRun (ts := [.int .i64]) itN E31 (bodyOf Tryd.f31) Tryd.f31.results.toList (encA [.int .i64, .clo2 32 .Shift (.int .i64)] a)
def sp31 : FnSpec iseat.toSeat := mkSpec iseat.toSeat 31 [.int .i64, .clo2 32 .Shift (.int .i64)] [.int .i64] true r31 (fun a x hx h h' => fn_contract (Z := iseat) (ats := [.int .i64, .clo2 32 .Shift (.int .i64)]) (ts := [.int .i64]) (E := E31) (fn := Tryd.f31) (c := bodyOf Tryd.f31) Tryd.func31 (by kernel_rfl) (by kernel_rfl) (by kernel_rfl) (by kernel_rfl) rfl hx h h') (fun _ x => rfl)
def E17 : FEnv iseat := ⟨⟨30, [sp26, sp32, sp31], [], [], [], [], [], [], [], [], [], [], [], true⟩, []⟩
def r17 (a : argD [.Rules, .Driver, .int .i64]) := fnRun (ts := [.int .i64, .int .i64]) itN E17 (bodyOf Tryd.f17) Tryd.f17.results.toList (encA [.Rules, .Driver, .int .i64] a)
def sp17 : FnSpec iseat.toSeat := mkSpec iseat.toSeat 17 [.Rules, .Driver, .int .i64] [.int .i64, .int .i64] true r17 (fun a x hx h h' => fn_contract (Z := iseat) (ats := [.Rules, .Driver, .int .i64]) (ts := [.int .i64, .int .i64]) (E := E17) (fn := Tryd.f17) (c := bodyOf Tryd.f17) Tryd.func17 (by kernel_rfl) (by kernel_rfl) (by kernel_rfl) (by kernel_rfl) rfl hx h h') (fun _ x => rfl)
def E34 : FEnv iseat := ⟨⟨13, [Crew.sp20], [], [], [], [], [], [], [], [], [], [], [], true⟩, []⟩
def r34 (a : argD [.Scale]) := fnRun (ts := [.int .i64]) itN E34 (bodyOf Tryd.f34) Tryd.f34.results.toList (encA [.Scale] a)
def sp34 : FnSpec iseat.toSeat := mkSpec iseat.toSeat 34 [.Scale] [.int .i64] true r34 (fun a x hx h h' => fn_contract (Z := iseat) (ats := [.Scale]) (ts := [.int .i64]) (E := E34) (fn := Tryd.f34) (c := bodyOf Tryd.f34) Tryd.func34 (by kernel_rfl) (by kernel_rfl) (by kernel_rfl) (by kernel_rfl) rfl hx h h') (fun _ x => rfl)
def E18 : FEnv iseat := ⟨⟨44, [sp34, Crew.sp20], [], [], [], [], [], [], [], [], [], [], [], true⟩, []⟩
def r18 (a : argD [.Scale, .int .i64]) := fnRun (ts := [.Span, .int .i64]) itN E18 (bodyOf Tryd.f18) Tryd.f18.results.toList (encA [.Scale, .int .i64] a)
def sp18 : FnSpec iseat.toSeat := mkSpec iseat.toSeat 18 [.Scale, .int .i64] [.Span, .int .i64] true r18 (fun a x hx h h' => fn_contract (Z := iseat) (ats := [.Scale, .int .i64]) (ts := [.Span, .int .i64]) (E := E18) (fn := Tryd.f18) (c := bodyOf Tryd.f18) Tryd.func18 (by kernel_rfl) (by kernel_rfl) (by kernel_rfl) (by kernel_rfl) rfl hx h h') (fun _ x => rfl)
def E6 : FEnv iseat := ⟨⟨60, [sp11, sp10, sp9, sp17, sp18, sp5], [], [], [], [], [], [], [], [sp4], [], [19], [], true⟩, []⟩
def r6 (a : argD []) := fnRun (ts := [.bool]) itN E6 (bodyOf Tryd.f6) Tryd.f6.results.toList (encA [] a)
def sp6 : FnSpec iseat.toSeat := mkSpec iseat.toSeat 6 [] [.bool] true r6 (fun a x hx h h' => fn_contract (Z := iseat) (ats := []) (ts := [.bool]) (E := E6) (fn := Tryd.f6) (c := bodyOf Tryd.f6) Tryd.func6 (by kernel_rfl) (by kernel_rfl) (by kernel_rfl) (by kernel_rfl) rfl hx h h') (fun _ x => rfl)
def E12 : FEnv iseat := ⟨⟨26, [], [], [], [], [], [], [], [], [], [], [], [], true⟩, []⟩
def r12 (a : argD [.sl (.int .i64), .sl (.int .i64)]) := fnRun (ts := [.bool]) itN E12 (bodyOf Tryd.f12) Tryd.f12.results.toList (encA [.sl (.int .i64), .sl (.int .i64)] a)
def sp12 : FnSpec iseat.toSeat := mkSpec iseat.toSeat 12 [.sl (.int .i64), .sl (.int .i64)] [.bool] true r12 (fun a x hx h h' => fn_contract (Z := iseat) (ats := [.sl (.int .i64), .sl (.int .i64)]) (ts := [.bool]) (E := E12) (fn := Tryd.f12) (c := bodyOf Tryd.f12) Tryd.func12 (by kernel_rfl) (by kernel_rfl) (by kernel_rfl) (by kernel_rfl) rfl hx h h') (fun _ x => rfl)
def E13 : FEnv iseat := ⟨⟨126, [sp11, sp9, sp26, sp17, sp27f], [], [], [], [], [], [], [], [], [], [30, 59, 66, 73, 80, 87], [], true⟩, []⟩
def r13 (a : argD []) := fnRun (ts := [.bool]) itN E13 (bodyOf Tryd.f13) Tryd.f13.results.toList (encA [] a)
def sp13 : FnSpec iseat.toSeat := mkSpec iseat.toSeat 13 [] [.bool] true r13 (fun a x hx h h' => fn_contract (Z := iseat) (ats := []) (ts := [.bool]) (E := E13) (fn := Tryd.f13) (c := bodyOf Tryd.f13) Tryd.func13 (by kernel_rfl) (by kernel_rfl) (by kernel_rfl) (by kernel_rfl) rfl hx h h') (fun _ x => rfl)
def E28 : FEnv iseat := ⟨⟨103, [sp34, Crew.sp20, sp18], [], [], [], [], [], [], [], [], [], [], [], true⟩, []⟩
def r28 (a : argD [.Scale, .sl (.int .i64), .Allow]) := fnRun (ts := [.int .i64, .Span, .int .i64]) itN E28 (bodyOf Tryd.f28) Tryd.f28.results.toList (encA [.Scale, .sl (.int .i64), .Allow] a)
def sp28 : FnSpec iseat.toSeat := mkSpec iseat.toSeat 28 [.Scale, .sl (.int .i64), .Allow] [.int .i64, .Span, .int .i64] true r28 (fun a x hx h h' => fn_contract (Z := iseat) (ats := [.Scale, .sl (.int .i64), .Allow]) (ts := [.int .i64, .Span, .int .i64]) (E := E28) (fn := Tryd.f28) (c := bodyOf Tryd.f28) Tryd.func28 (by kernel_rfl) (by kernel_rfl) (by kernel_rfl) (by kernel_rfl) rfl hx h h') (fun _ x => rfl)
def E46 : FEnv iseat := ⟨⟨21, [Crew.sp7], [], [], [], [], [], [], [], [], [], [], [], true⟩, []⟩
def r46 (a : argD [.sl .Driver]) := fnRun (ts := [.int .i64]) itN E46 (bodyOf Tryd.f46) Tryd.f46.results.toList (encA [.sl .Driver] a)
def sp46 : FnSpec iseat.toSeat := mkSpec iseat.toSeat 46 [.sl .Driver] [.int .i64] true r46 (fun a x hx h h' => fn_contract (Z := iseat) (ats := [.sl .Driver]) (ts := [.int .i64]) (E := E46) (fn := Tryd.f46) (c := bodyOf Tryd.f46) Tryd.func46 (by kernel_rfl) (by kernel_rfl) (by kernel_rfl) (by kernel_rfl) rfl hx h h') (fun _ x => rfl)
def E47 : FEnv iseat := ⟨⟨39, [Crew.sp20], [], [], [], [], [], [], [], [], [], [], [], true⟩, []⟩
def r47 (a : argD [.sl .Haul]) := fnRun (ts := [.int .i64]) itN E47 (bodyOf Tryd.f47) Tryd.f47.results.toList (encA [.sl .Haul] a)
def sp47 : FnSpec iseat.toSeat := mkSpec iseat.toSeat 47 [.sl .Haul] [.int .i64] true r47 (fun a x hx h h' => fn_contract (Z := iseat) (ats := [.sl .Haul]) (ts := [.int .i64]) (E := E47) (fn := Tryd.f47) (c := bodyOf Tryd.f47) Tryd.func47 (by kernel_rfl) (by kernel_rfl) (by kernel_rfl) (by kernel_rfl) rfl hx h h') (fun _ x => rfl)
def E48 (me : FnSpecM iseat.toSeat) : FEnv iseat := ⟨⟨96, [Crew.sp33f, Crew.sp45], [], [], [Crew.sp49f], [], [], [me], [], [], [], [79, 92], (rng 0 [.c (.sl .Haul), .w (.int .i64), .w (.sl (.int .i64)), .r 5, .k 48 [(0, 0), (1, 0), (2, 0), (3, 0), (4, 0)], .a 58 .Shift]), false⟩, []⟩
def r48 (me : FnSpecM iseat.toSeat) (x : bkD [.c (.sl .Haul), .w (.int .i64), .w (.sl (.int .i64)), .r 5, .k 48 [(0, 0), (1, 0), (2, 0), (3, 0), (4, 0)], .a 58 .Shift]) (a : akD [.d (.sl (.int .i64)), .d (.int .i64), .p 0, .p 1, .p 2, .p 3, .p 4]) := fnRunM [.c (.sl .Haul), .w (.int .i64), .w (.sl (.int .i64)), .r 5, .k 48 [(0, 0), (1, 0), (2, 0), (3, 0), (4, 0)], .a 58 .Shift] (ts := []) itN (E48 me) (bodyOf Tryd.f48) Tryd.f48.results.toList x (encAK [.d (.sl (.int .i64)), .d (.int .i64), .p 0, .p 1, .p 2, .p 3, .p 4] a)
def spr48 : Nat → FnSpecM iseat.toSeat
  | 0 => mkSpecM iseat.toSeat 48 [.c (.sl .Haul), .w (.int .i64), .w (.sl (.int .i64)), .r 5, .k 48 [(0, 0), (1, 0), (2, 0), (3, 0), (4, 0)], .a 58 .Shift] [.d (.sl (.int .i64)), .d (.int .i64), .p 0, .p 1, .p 2, .p 3, .p 4] [] [] [3] (fun _ _ => none) (fun _ _ _ _ h => nomatch h)
  | n + 1 => mkSpecM iseat.toSeat 48 [.c (.sl .Haul), .w (.int .i64), .w (.sl (.int .i64)), .r 5, .k 48 [(0, 0), (1, 0), (2, 0), (3, 0), (4, 0)], .a 58 .Shift] [.d (.sl (.int .i64)), .d (.int .i64), .p 0, .p 1, .p 2, .p 3, .p 4] [] [] [3] (r48 (spr48 n)) (fun x a y z hx => fn_contractM (Z := iseat) (bks := [.c (.sl .Haul), .w (.int .i64), .w (.sl (.int .i64)), .r 5, .k 48 [(0, 0), (1, 0), (2, 0), (3, 0), (4, 0)], .a 58 .Shift]) (aks := [.d (.sl (.int .i64)), .d (.int .i64), .p 0, .p 1, .p 2, .p 3, .p 4]) (ts := []) (E := E48 (spr48 n)) (fn := Tryd.f48) (c := bodyOf Tryd.f48) Tryd.func48 (by kernel_rfl) (by kernel_rfl) (by kernel_rfl) (by kernel_rfl) rfl rfl (by kernel_rfl) (by kernel_rfl) hx)
def sp48 : FnSpecM iseat.toSeat := spr48 5
def E29 : FEnv iseat := ⟨⟨53, [Crew.sp8, sp46, sp47], [], [], [], [], [], [sp48], [], [], [], [], [], true⟩, []⟩
def r29 (a : argD [.Rules, .sl .Driver, .sl .Haul]) := fnRun (ts := [.sl (.int .i64), .int .i64, .int .i64]) itN E29 (bodyOf Tryd.f29) Tryd.f29.results.toList (encA [.Rules, .sl .Driver, .sl .Haul] a)
def sp29 : FnSpec iseat.toSeat := mkSpec iseat.toSeat 29 [.Rules, .sl .Driver, .sl .Haul] [.sl (.int .i64), .int .i64, .int .i64] false r29 (fun a x hx h h' => fn_contract (Z := iseat) (ats := [.Rules, .sl .Driver, .sl .Haul]) (ts := [.sl (.int .i64), .int .i64, .int .i64]) (E := E29) (fn := Tryd.f29) (c := bodyOf Tryd.f29) Tryd.func29 (by kernel_rfl) (by kernel_rfl) (by kernel_rfl) (by kernel_rfl) rfl hx h h') (fun h => nomatch h)
def E14 : FEnv iseat := ⟨⟨85, [sp18, sp16, sp28, sp5, sp11, sp9, sp29, sp12], [], [], [], [], [], [], [], [], [], [36, 62, 65, 69, 82], [], true⟩, []⟩
def r14 (a : argD []) := fnRun (ts := [.bool]) itN E14 (bodyOf Tryd.f14) Tryd.f14.results.toList (encA [] a)
def sp14 : FnSpec iseat.toSeat := mkSpec iseat.toSeat 14 [] [.bool] true r14 (fun a x hx h h' => fn_contract (Z := iseat) (ats := []) (ts := [.bool]) (E := E14) (fn := Tryd.f14) (c := bodyOf Tryd.f14) Tryd.func14 (by kernel_rfl) (by kernel_rfl) (by kernel_rfl) (by kernel_rfl) rfl hx h h') (fun _ x => rfl)
def E50 : FEnv iseat := ⟨⟨19, [], [], [], [], [], [], [Crew.sp58], [], [], [], [], [0], false⟩, []⟩
def r50 (x : bkD (bZ 100 5 (.int .u8))) (a : akD [.p 0, .d .str]) := fnRunZ 100 5 (.int .u8) (ts := [.int .i64, .err]) itN E50 (bodyOf Tryd.f50) Tryd.f50.results.toList x (encAK [.p 0, .d .str] a)
def sp50 : FnSpecM iseat.toSeat := mkSpecZ iseat.toSeat 50 100 5 (.int .u8) [.p 0, .d .str] [.int .i64, .err] [] [0] r50 (fun x a y z hx => fn_contractZ (Z := iseat) (U := 100) (B := 5) (t := (.int .u8)) (aks := [.p 0, .d .str]) (ts := [.int .i64, .err]) (E := E50) (fn := Tryd.f50) (c := bodyOf Tryd.f50) Tryd.func50 (by kernel_rfl) (by kernel_rfl) (by kernel_rfl) (by kernel_rfl) rfl rfl hx)
def E30 : FEnv iseat := ⟨⟨74, [sp46, Crew.sp51], [], [], [], [], [], [sp50, Crew.sp52], [], [], [], [], [], true⟩, []⟩
def r30 (a : argD [.sl .Driver]) := fnRun (ts := [.str, .int .i64]) itN E30 (bodyOf Tryd.f30) Tryd.f30.results.toList (encA [.sl .Driver] a)
def sp30 : FnSpec iseat.toSeat := mkSpec iseat.toSeat 30 [.sl .Driver] [.str, .int .i64] true r30 (fun a x hx h h' => fn_contract (Z := iseat) (ats := [.sl .Driver]) (ts := [.str, .int .i64]) (E := E30) (fn := Tryd.f30) (c := bodyOf Tryd.f30) Tryd.func30 (by kernel_rfl) (by kernel_rfl) (by kernel_rfl) (by kernel_rfl) rfl hx h h') (fun _ x => rfl)
def E15 : FEnv iseat := ⟨⟨16, [sp9, sp30], [], [], [], [], [], [], [], [], [], [4, 6], [], true⟩, []⟩
def r15 (a : argD []) := fnRun (ts := [.bool]) itN E15 (bodyOf Tryd.f15) Tryd.f15.results.toList (encA [] a)
def sp15 : FnSpec iseat.toSeat := mkSpec iseat.toSeat 15 [] [.bool] true r15 (fun a x hx h h' => fn_contract (Z := iseat) (ats := []) (ts := [.bool]) (E := E15) (fn := Tryd.f15) (c := bodyOf Tryd.f15) Tryd.func15 (by kernel_rfl) (by kernel_rfl) (by kernel_rfl) (by kernel_rfl) rfl hx h h') (fun _ x => rfl)
def E3 : FEnv iseat := ⟨⟨107, [sp5, sp6, Crew.sp7, Crew.sp8, sp9, sp11, sp10, sp12, sp13, sp14, sp15], [], [], [], [], [], [], [], [sp4], [], [22, 55, 57, 59, 61, 92], [], true⟩, []⟩
def r3 (a : argD []) := fnRun (ts := [.bool]) itN E3 (bodyOf Tryd.f3) Tryd.f3.results.toList (encA [] a)
end
end Go.Proofs.CrewK
namespace Go.Proofs.CrewK
open Go Go.Ab
set_option maxRecDepth 100000
theorem t3 : r3 () = some true := by kernel_rfl
end Go.Proofs.CrewK
namespace Go.Proofs.YtbkogeihjcnejaaDoor
open Go Go.Ab Go.ChangeShapes Go.WideShapes Go.ChangeAt Go.RowKit
set_option maxRecDepth 100000
def allK (w : World) : Nat → Nat → Option Value := fun b o => w.cell? ⟨b, o, none⟩
theorem allK_fits (w : World) : Fits (allK w) w := fun _ _ _ h => h
theorem lv_tail {W : World} {x : String × DataW Unit} {r : List (String × DataW Unit)} {ps : List MemPlace} (h : DataW.LaidVars Tryd.prog W (x :: r) ps) : ∃ q, DataW.LaidVars Tryd.prog W r q := by
  obtain ⟨g, t, cs, fuel, p, q, _, _, _, _, h2, _⟩ := h
  exact ⟨q, h2⟩
theorem gl_ok {W : World} {name : String} {g : Nat} {cs : Array Value} {l : List D} {u : List Value} (hg : Tryd.prog.globalNamed name = some g) (hvar : W.var? Tryd.prog name = some cs) (hu : cs.toList = u) (hl : allCell l = true) (hr : RepL (allK W) γ0 sv0 l u) :
    allCell l = true ∧ ∃ u, RepL (allK W) γ0 sv0 l u ∧ ∀ j v, u[j]? = some v → allK W g j = some v :=
  ⟨hl, u, hr, fun j v hj => by
    have : W.cell? ⟨g, j, none⟩ = cs[j]? := World.var?_cell hg hvar j
    show W.cell? ⟨g, j, none⟩ = some v
    rw [this, ← hj, ← hu]; simp⟩
theorem rowSz_of {W : World} {name : String} {g : Nat} {cs : Array Value} (hg : Tryd.prog.globalNamed name = some g) (hvar : W.var? Tryd.prog name = some cs) : RowSz W g cs.size := by
  simp only [World.var?, hg, Option.bind_some] at hvar
  split at hvar
  · rename_i c t f h
    simp only [Option.some.injEq] at hvar
    subst hvar
    exact ⟨c, t, f, h, rfl⟩
  · cases hvar
theorem repL_int {κ : Nat → Nat → Option Value} {γ : Nat → Nat} {sv : Nat → Value} (k : IntKind) : ∀ zs : List Int, RepL κ γ sv (zs.map (D.int k)) (zs.map (Value.int k))
  | [] => .nil
  | z :: zs => .cons _ _ _ _ (.int k z) (repL_int k zs)
theorem cells127 : Tryd.prog.cellsOf 127 = 1 := by kernel_rfl
theorem cells133 : Tryd.prog.cellsOf 133 = 20 := by kernel_rfl
def pow10s : List Int := [1, 10, 100, 1000, 10000, 100000, 1000000, 10000000, 100000000, 1000000000, 10000000000, 100000000000, 1000000000000, 10000000000000, 100000000000000, 1000000000000000, 10000000000000000, 100000000000000000, 1000000000000000000, 10000000000000000000]
section
variable {W : World} {ps : List MemPlace} {r : List (String × DataW Unit)}
theorem pow_at (h : DataW.LaidVars Tryd.prog W (("internal/strconv.uint64pow10", Rows.laid_internal_strconv_uint64pow10) :: r) ps) : ∃ cs, W.var? Tryd.prog "internal/strconv.uint64pow10" = some cs ∧ cs.toList = pow10s.map (Value.int .u64) := by
  obtain ⟨g, t, cs, fuel, p, q, hg, ht, hvar, hd, _, _⟩ := h
  have hg0 : Tryd.prog.globalNamed "internal/strconv.uint64pow10" = some 3 := by kernel_rfl
  have ht0 : (Tryd.prog.globals[3]?).map (·.type) = some 133 := by kernel_rfl
  obtain rfl := Option.some.inj (hg0.symm.trans hg)
  obtain rfl := Option.some.inj (ht0.symm.trans ht)
  exact ⟨cs, hvar, Lib.cells_of_tab (zs := pow10s) Tryd.underlying133 Tryd.underlying127 cells127 cells133 hd⟩
end
theorem glob_of {W : World} (h : laidMetH Tryd.prog [("math/bits.deBruijn32tab", Rows.laid_math_bits_deBruijn32tab), ("math/bits.deBruijn64tab", Rows.laid_math_bits_deBruijn64tab), ("internal/strconv.uint64pow10", Rows.laid_internal_strconv_uint64pow10), ("unicode/utf8.acceptRanges", Rows.laid_unicode_utf8_acceptRanges), ("unicode/utf8.first", Rows.laid_unicode_utf8_first)] W) : GlobOk iseat.toSeat (allK W) W := by
  have h' : laidMet Tryd.prog [("math/bits.deBruijn32tab", Rows.laid_math_bits_deBruijn32tab), ("math/bits.deBruijn64tab", Rows.laid_math_bits_deBruijn64tab), ("internal/strconv.uint64pow10", Rows.laid_internal_strconv_uint64pow10), ("unicode/utf8.acceptRanges", Rows.laid_unicode_utf8_acceptRanges), ("unicode/utf8.first", Rows.laid_unicode_utf8_first)] W := h
  obtain ⟨ps, h0, _⟩ := h'
  obtain ⟨_, h1⟩ := lv_tail h0
  obtain ⟨_, h2⟩ := lv_tail h1
  obtain ⟨c2, v2, u2⟩ := pow_at h2
  constructor
  · intro g l hl
    have hl' : globs g = some l := hl
    unfold globs at hl'
    split at hl'
    · simp only [Option.some.injEq] at hl'
      subst hl'
      exact gl_ok (name := "internal/strconv.uint64pow10") (by kernel_rfl) v2 u2 rfl (repL_int .u64 pow10s)
    · cases hl'
  · intro g n hn
    have hn' : gszs g = some n := hn
    unfold gszs at hn'
    split at hn'
    · simp only [Option.some.injEq] at hn'
      subst hn'
      have h5 := rowSz_of (name := "internal/strconv.uint64pow10") (g := 3) (by kernel_rfl) v2
      have h6 : c2.size = 20 := by
        have := congrArg List.length u2
        simpa [pow10s] using this
      rw [h6] at h5
      exact h5
    · cases hn'
theorem laidOut : laidOutB Tryd.prog = true := by kernel_rfl
theorem own : ownKnob Tryd.prog.godebug = none := by kernel_rfl
theorem trodAll_stays {H : Type} {enc : TypeId × Value → H} {W W' : World} {sp' : Nat → Bool} (hb : Below W.heap.size W W') : ∀ {ts : List TypeId} {vs : List Value} {ds : List (DataW H)} {ps : List MemPlace},
    (∀ t ∈ ts, Tryd.prog.readableRec t = true ∧ t < Tryd.prog.types.size) → DataW.TrodAll enc Tryd.prog W 0 (fun _ => true) true ts vs ds ps → (∀ p ∈ ps, p.block < W.heap.size) → (∀ p ∈ ps, sp' p.block = true) →
    DataW.TrodAll enc Tryd.prog W' 0 sp' true ts vs ds ps
  | [], [], [], _, _, h, _, _ => h
  | _ :: _, _ :: _, _ :: _, _, hT, ⟨p, q, h1, h2, e⟩, hlt, hs => ⟨p, q,
      WideElems.Trod_stays laidOut (hT _ (List.mem_cons_self ..)).1 (hT _ (List.mem_cons_self ..)).2 h1 (fun x hx => hb.same (hlt x (by rw [e]; exact List.mem_append_left _ hx))) (fun x hx => hs x (by rw [e]; exact List.mem_append_left _ hx)),
      trodAll_stays hb (fun t ht => hT t (List.mem_cons_of_mem _ ht)) h2 (fun x hx => hlt x (by rw [e]; exact List.mem_append_right _ hx)) (fun x hx => hs x (by rw [e]; exact List.mem_append_right _ hx)), e⟩
theorem post_yes {H : Type} {enc : TypeId × Value → H} {f : Func} {s : ChangeSpec} {W W' : World} {args : Array Value} {ds gs : List (DataW H)} {before : List MemPlace}
    (hW : DataW.Whole enc Tryd.prog f.params.toList s.vars false W args.toList ds gs before) (hv : s.vars = []) (hb : Below W.heap.size W W')
    (hT : ∀ t ∈ f.params.toList, Tryd.prog.readableRec t = true ∧ t < Tryd.prog.types.size) (hrt : f.resultTypes = #[4])
    (hr : (s.fn H (ds ++ gs)).results = [.lit (.bool true)]) (ha : (s.fn H (ds ++ gs)).args = ds) (hvs : (s.fn H (ds ++ gs)).vars = []) :
    s.post enc Tryd.prog f false true false false W args (.bool true) W' := by
  have hlt := hW.lt
  have hW2 := hW
  obtain ⟨p, q, hA, hV, rfl, _, _⟩ := hW
  rw [hv] at hV
  obtain ⟨rfl, rfl⟩ := trodVars_none hV
  refine ⟨ds, [], p ++ [], [], p, [], hW2, ?_, ?_, ?_, hb.frame _, fun h => by cases h⟩
  · rw [hr, hrt]
    exact trodAll_mk1 (shut_bool Tryd.underlying4 _)
  · rw [ha]
    exact trodAll_stays hb hT hA (fun x hx => hlt x (by simpa using hx)) (fun x hx => by simpa using hlt x (by simpa using hx))
  · rw [hvs, hv]; rfl
def layV (l : List Value) : Obj → Obj
  | .cells _ t frozen => .cells l.toArray t frozen
  | o => o
def deB32 : List Int := [0, 1, 28, 2, 29, 14, 24, 3, 30, 22, 20, 15, 25, 17, 4, 8, 31, 27, 13, 23, 21, 19, 16, 7, 26, 12, 18, 6, 11, 5, 10, 9]
def deB64 : List Int := [0, 1, 56, 2, 57, 49, 28, 3, 61, 58, 42, 50, 38, 29, 17, 4, 62, 47, 59, 36, 45, 43, 51, 22, 53, 39, 33, 30, 24, 18, 12, 5, 63, 55, 48, 27, 60, 41, 37, 16, 46, 35, 44, 21, 52, 32, 23, 11, 54, 26, 40, 15, 34, 20, 31, 10, 25, 14, 19, 9, 13, 8, 7, 6]
noncomputable def laidWorld (os : Os) : World :=
  { World.holding Tryd.prog os ⟨#[], #[], []⟩ with heap := (((((World.holding Tryd.prog os ⟨#[], #[], []⟩).heap.modify 1 (layV (([128, 191, 160, 191, 128, 159, 144, 191, 128, 143, 0, 0, 0, 0, 0, 0, 0, 0, 0, 0, 0, 0, 0, 0, 0, 0, 0, 0, 0, 0, 0, 0] : List Int).map (Value.int .u8)))).modify 0 (layV (Go.Pinned.utf8FirstZ.map fun (n : Nat) => Value.int .u8 (n : Int)))).modify 3 (layV (pow10s.map (Value.int .u64)))).modify 4 (layV (deB32.map (Value.int .u8)))).modify 5 (layV (deB64.map (Value.int .u8))) }
end Go.Proofs.YtbkogeihjcnejaaDoor
