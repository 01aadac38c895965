/- Walks by computing: what each function of the program that the laws reach gives for what it gets, as plain Lean, and that it is so; without a condition but those that stand in each theorem. -/
import Derived.Test.YtafnhieaeejlcaaDoorW1
import Derived.Test.YtafnhieaeejlcaaDoorW2
import Derived.Test.YtafnhieaeejlcaaDoorW3
import Derived.Test.YtafnhieaeejlcaaDoorW4
import Derived.Test.YtafnhieaeejlcaaDoorW5
import Derived.Test.YtafnhieaeejlcaaDoorW6
import Derived.Test.YtafnhieaeejlcaaDoorW7
import Derived.Test.YtafnhieaeejlcaaDoorW8
import Derived.Test.YtafnhieaeejlcaaDoorW9
import Derived.Test.YtafnhieaeejlcaaDoorW10
import Derived.Test.YtafnhieaeejlcaaDoorW11
set_option linter.all false
namespace Go.Proofs.Plain04
open Go Go.Ab
open Go.Proofs.YtafnhieaeejlcaaDoor (iseat)
set_option linter.all false
set_option maxRecDepth 100000
noncomputable section
def next' (it : It (Seed × Int)) (s : Seed) : Option (Seed × Int) :=
 some ((⟨(IntKind.u64.wrap (s.word + 11400714819323198485))⟩ : Seed), (xorI .u64 (IntKind.u64.wrap ((xorI .u64 (IntKind.u64.wrap ((xorI .u64 (IntKind.u64.wrap (s.word + 11400714819323198485)) (shrI .u64 (IntKind.u64.wrap (s.word + 11400714819323198485)) 30)) * 13787848793156543929)) (shrI .u64 (IntKind.u64.wrap ((xorI .u64 (IntKind.u64.wrap (s.word + 11400714819323198485)) (shrI .u64 (IntKind.u64.wrap (s.word + 11400714819323198485)) 30)) * 13787848793156543929)) 27)) * 10723151780598845931)) (shrI .u64 (IntKind.u64.wrap ((xorI .u64 (IntKind.u64.wrap ((xorI .u64 (IntKind.u64.wrap (s.word + 11400714819323198485)) (shrI .u64 (IntKind.u64.wrap (s.word + 11400714819323198485)) 30)) * 13787848793156543929)) (shrI .u64 (IntKind.u64.wrap ((xorI .u64 (IntKind.u64.wrap (s.word + 11400714819323198485)) (shrI .u64 (IntKind.u64.wrap (s.word + 11400714819323198485)) 30)) * 13787848793156543929)) 27)) * 10723151780598845931)) 31)))
def next : Seed → Option (Seed × Int) := opq (fun s => next' itN s)
theorem next_eq (s : Seed) : next s = next' itN s := by unfold next; rw [opq_eq]
def E68 : FEnv iseat := ⟨⟨30, [], [], [], [], [], [], [], [], [], [], [], [0], true⟩, []⟩
theorem e68 (it : It (Seed × Int)) (s : Seed) : fnRunR (bt := .Seed) (ts := [.int .u64]) it E68 (bodyOf Tryd.f68) Tryd.f68.results.toList (encC .Seed s) (encA [] (())) = next' it s := by kernel_rfl
def sp68 : FnSpecR iseat.toSeat := mkSpecR iseat.toSeat 68 .Seed [] [.int .u64] (fun b a => next b ) (fun b a y x hx h => fn_contractR (Z := iseat) (bt := .Seed) (ats := []) (ts := [.int .u64]) (E := E68) (fn := Tryd.f68) (c := bodyOf Tryd.f68) Tryd.func68 (by kernel_rfl) (by kernel_rfl) (by kernel_rfl) (by kernel_rfl) rfl ((e68 itN b ).trans ((next_eq b ).symm.trans hx)) h)
def Below' (it : It (Seed × Int)) (s : Seed) (n : Int) : Option (Seed × Int) :=
 bif (decide (n < 2)) then
 some (s, 0)
 else
 (next s).bind fun r =>
 chk ((IntKind.u64.wrap (n)) != 0) <|
 some (r.1, (w64 (((shrI .u64 r.2 1).tmod (IntKind.u64.wrap (n))))))
def Below : Seed → Int → Option (Seed × Int) := opq (fun s n => Below' itN s n)
theorem Below_eq (s : Seed) (n : Int) : Below s n = Below' itN s n := by unfold Below; rw [opq_eq]
def E32 : FEnv iseat := ⟨⟨14, [], [sp68], [], [], [], [], [], [], [], [], [], [0], true⟩, []⟩
theorem e32 (it : It (Seed × Int)) (s : Seed) (n : Int) : fnRunR (bt := .Seed) (ts := [.int .i64]) it E32 (bodyOf Tryd.f32) Tryd.f32.results.toList (encC .Seed s) (encA [.int .i64] (n, ())) = Below' it s n := by kernel_rfl
def sp32 : FnSpecR iseat.toSeat := mkSpecR iseat.toSeat 32 .Seed [.int .i64] [.int .i64] (fun b a => Below b a.1) (fun b a y x hx h => fn_contractR (Z := iseat) (bt := .Seed) (ats := [.int .i64]) (ts := [.int .i64]) (E := E32) (fn := Tryd.f32) (c := bodyOf Tryd.f32) Tryd.func32 (by kernel_rfl) (by kernel_rfl) (by kernel_rfl) (by kernel_rfl) rfl ((e32 itN b a.1).trans ((Below_eq b a.1).symm.trans hx)) h)
def From' (it : It (Seed × Int)) (s : Seed) (low : Int) (high : Int) : Option (Seed × Int) :=
 (Below s (w64 ((w64 (high - low)) + 1))).bind fun r =>
 some (r.1, (w64 (low + r.2)))
def From : Seed → Int → Int → Option (Seed × Int) := opq (fun s low high => From' itN s low high)
theorem From_eq (s : Seed) (low : Int) (high : Int) : From s low high = From' itN s low high := by unfold From; rw [opq_eq]
def E35 : FEnv iseat := ⟨⟨15, [], [sp32], [], [], [], [], [], [], [], [], [], [0], true⟩, []⟩
theorem e35 (it : It (Seed × Int)) (s : Seed) (low : Int) (high : Int) : fnRunR (bt := .Seed) (ts := [.int .i64]) it E35 (bodyOf Tryd.f35) Tryd.f35.results.toList (encC .Seed s) (encA [.int .i64, .int .i64] (low, high, ())) = From' it s low high := by kernel_rfl
def sp35 : FnSpecR iseat.toSeat := mkSpecR iseat.toSeat 35 .Seed [.int .i64, .int .i64] [.int .i64] (fun b a => From b a.1 a.2.1) (fun b a y x hx h => fn_contractR (Z := iseat) (bt := .Seed) (ats := [.int .i64, .int .i64]) (ts := [.int .i64]) (E := E35) (fn := Tryd.f35) (c := bodyOf Tryd.f35) Tryd.func35 (by kernel_rfl) (by kernel_rfl) (by kernel_rfl) (by kernel_rfl) rfl ((e35 itN b a.1 a.2.1).trans ((From_eq b a.1 a.2.1).symm.trans hx)) h)
def Of' (it : It (Seed × Int)) (s : Seed) (l : List Int) : Option (Seed × Int) :=
 bif ((l.length : Int) == 0) then
 some (s, 0)
 else
 (Below s (l.length : Int)).bind fun r =>
 chk (decide (0 ≤ r.2) && decide (r.2 < (l.length : Int))) <|
 some (r.1, (l.getD r.2.toNat 0))
def Of : Seed → (List Int) → Option (Seed × Int) := opq (fun s l => Of' itN s l)
theorem Of_eq (s : Seed) (l : List Int) : Of s l = Of' itN s l := by unfold Of; rw [opq_eq]
def E45 : FEnv iseat := ⟨⟨15, [], [sp32], [], [], [], [], [], [], [], [], [], [0], true⟩, []⟩
theorem e45 (it : It (Seed × Int)) (s : Seed) (l : List Int) : fnRunR (bt := .Seed) (ts := [.int .i64]) it E45 (bodyOf Tryd.f45) Tryd.f45.results.toList (encC .Seed s) (encA [.sl (.int .i64)] (l, ())) = Of' it s l := by kernel_rfl
def sp45 : FnSpecR iseat.toSeat := mkSpecR iseat.toSeat 45 .Seed [.sl (.int .i64)] [.int .i64] (fun b a => Of b a.1) (fun b a y x hx h => fn_contractR (Z := iseat) (bt := .Seed) (ats := [.sl (.int .i64)]) (ts := [.int .i64]) (E := E45) (fn := Tryd.f45) (c := bodyOf Tryd.f45) Tryd.func45 (by kernel_rfl) (by kernel_rfl) (by kernel_rfl) (by kernel_rfl) rfl ((e45 itN b a.1).trans ((Of_eq b a.1).symm.trans hx)) h)
def TruckOf_L6 (length : Int) (at_ : Int) (i : Int) (s_word : Int) (t_Way : Int) (t_Start : Int) (t_Pace_Lo : Int) (t_Pace_Hi : Int) (t_Holds : List Hold) (kn_ : Int → Int → Int → Int → Int → Int → Int → (List Hold) → Option (Seed × Truck)) : Option (Seed × Truck) :=
 bif (decide (i > 0)) then
 bif (decide (at_ < (w64 (length - 1)))) then
 (From (⟨s_word⟩ : Seed) (w64 (at_ + 1)) (w64 (length - 1))).bind fun r9 =>
 (Below r9.1 150).bind fun r10 =>
 bif (t_Way == 2) then
 chk (fitA (t_Holds.length + ([(⟨(w64 (length - r9.2)), r10.2⟩ : Hold)] : List Hold).length) 16) <|
 kn_ r9.2 (w64 (i - 1)) r10.1.word t_Way t_Start t_Pace_Lo t_Pace_Hi (t_Holds ++ ([(⟨(w64 (length - r9.2)), r10.2⟩ : Hold)] : List Hold))
 else
 chk (fitA (t_Holds.length + ([(⟨r9.2, r10.2⟩ : Hold)] : List Hold).length) 16) <|
 kn_ r9.2 (w64 (i - 1)) r10.1.word t_Way t_Start t_Pace_Lo t_Pace_Hi (t_Holds ++ ([(⟨r9.2, r10.2⟩ : Hold)] : List Hold))
 else
 some ((⟨s_word⟩ : Seed), (⟨t_Way, t_Start, ⟨t_Pace_Lo, t_Pace_Hi⟩, t_Holds⟩ : Truck))
 else
 some ((⟨s_word⟩ : Seed), (⟨t_Way, t_Start, ⟨t_Pace_Lo, t_Pace_Hi⟩, t_Holds⟩ : Truck))
def TruckOf' (it : It (Seed × Truck)) (s : Seed) (length : Int) (holds : Int) : Option (Seed × Truck) :=
 (From s 1 2).bind fun r =>
 (Below r.1 60).bind fun r2 =>
 (Below r2.1 200).bind fun r3 =>
 (Of r3.1 [0, r2.2, r3.2]).bind fun r4 =>
 (From r4.1 5 25).bind fun r5 =>
 (Below r5.1 8).bind fun r6 =>
 (Of r6.1 [0, r6.2]).bind fun r7 =>
 (Below r7.1 (w64 (holds + 1))).bind fun r8 =>
 it _ (fun (v_0 : (Unit × Unit × Unit × Int × Int × Unit) × ((Int × Unit) × (Int × Int × Int × Int × (List Hold) × Unit) × Unit)) kn => TruckOf_L6 length v_0.1.2.2.2.1 v_0.1.2.2.2.2.1 v_0.2.1.1 v_0.2.2.1.1 v_0.2.2.1.2.1 v_0.2.2.1.2.2.1 v_0.2.2.1.2.2.2.1 v_0.2.2.1.2.2.2.2.1 (fun y0 y1 y2 y3 y4 y5 y6 y7 => kn (((), (), (), y0, y1, ()), ((y2, ()), (y3, y4, y5, y6, y7, ()), ())))) (((), (), (), 0, r8.2, ()), ((r8.1.word, ()), (r.2, r4.2, r5.2, (w64 (r5.2 + r7.2)), [], ()), ()))
def TruckOf : Seed → Int → Int → Option (Seed × Truck) := opq (fun s length holds => TruckOf' itN s length holds)
theorem TruckOf_eq (s : Seed) (length : Int) (holds : Int) : TruckOf s length holds = TruckOf' itN s length holds := by unfold TruckOf; rw [opq_eq]
def E46 : FEnv iseat := ⟨⟨74, [], [sp35, sp32, sp45], [], [], [], [], [], [], [], [], [18, 31, 70], [0], true⟩, [(6, ⟨⟨[(0, .bx 0 0), (6, .bx 6 0), (7, .bx 7 0), (8, .v (.int .i64)), (9, .v (.int .i64))], [(0, [.v (.int .u64)]), (7, [.v (.int .i64), .v (.int .i64), .v (.int .i64), .v (.int .i64), .os 71 89 .Hold])]⟩, [1], [6], []⟩)]⟩
theorem e46 (it : It (Seed × Truck)) (s : Seed) (length : Int) (holds : Int) : fnRunR (bt := .Seed) (ts := [.Truck]) it E46 (bodyOf Tryd.f46) Tryd.f46.results.toList (encC .Seed s) (encA [.int .i64, .int .i64] (length, holds, ())) = TruckOf' it s length holds := by kernel_rfl
def sp46 : FnSpecR iseat.toSeat := mkSpecR iseat.toSeat 46 .Seed [.int .i64, .int .i64] [.Truck] (fun b a => TruckOf b a.1 a.2.1) (fun b a y x hx h => fn_contractR (Z := iseat) (bt := .Seed) (ats := [.int .i64, .int .i64]) (ts := [.Truck]) (E := E46) (fn := Tryd.f46) (c := bodyOf Tryd.f46) Tryd.func46 (by kernel_rfl) (by kernel_rfl) (by kernel_rfl) (by kernel_rfl) rfl ((e46 itN b a.1 a.2.1).trans ((TruckOf_eq b a.1 a.2.1).symm.trans hx)) h)
def wide_L3 (s : Seed) (i : Int) (c_Length : Int) (c_Gap : Int) (c_Fails : Int) (c_Trucks : List Truck) (kn_ : Int → Int → Int → Int → (List Truck) → Option (Seed × Convoy)) : Option (Seed × Convoy) :=
 bif (decide (i < (c_Trucks.length : Int))) then
 chk (decide (0 ≤ i) && decide (i < (c_Trucks.length : Int))) <|
 kn_ (w64 (i + 1)) c_Length (max c_Gap (w64 (2 * (c_Trucks.getD i.toNat dfltTruck).Pace.Hi))) c_Fails c_Trucks
 else
 (Below s 30).bind fun r =>
 (Of r.1 [0, r.2]).bind fun r2 =>
 some (r2.1, (⟨c_Length, (w64 (c_Gap + r2.2)), c_Fails, c_Trucks⟩ : Convoy))
def wide' (it : It (Seed × Convoy)) (s : Seed) (c : Convoy) : Option (Seed × Convoy) :=
 it _ (fun (v_0 : (Unit × Unit × Unit × Int × Unit) × ((Int × Int × Int × (List Truck) × Unit) × Unit)) kn => wide_L3 s v_0.1.2.2.2.1 v_0.2.1.1 v_0.2.1.2.1 v_0.2.1.2.2.1 v_0.2.1.2.2.2.1 (fun y0 y1 y2 y3 y4 => kn (((), (), (), y0, ()), ((y1, y2, y3, y4, ()), ())))) (((), (), (), 0, ()), ((c.Length, 1, c.Fails, c.Trucks, ()), ()))
def wide : Seed → Convoy → Option (Seed × Convoy) := opq (fun s c => wide' itN s c)
theorem wide_eq (s : Seed) (c : Convoy) : wide s c = wide' itN s c := by unfold wide; rw [opq_eq]
def E69 : FEnv iseat := ⟨⟨36, [], [sp32, sp45], [], [], [], [], [], [], [], [], [31], [0], true⟩, [(3, ⟨⟨[(0, .bx 0 0), (3, .bx 3 0), (4, .bx 4 0), (5, .v (.int .i64))], [(3, [.v (.int .i64), .v (.int .i64), .v (.int .i64), .v (.sl .Truck)])]⟩, [], [0, 4], []⟩)]⟩
theorem e69 (it : It (Seed × Convoy)) (s : Seed) (c : Convoy) : fnRunR (bt := .Seed) (ts := [.Convoy]) it E69 (bodyOf Tryd.f69) Tryd.f69.results.toList (encC .Seed s) (encA [.Convoy] (c, ())) = wide' it s c := by kernel_rfl
def sp69 : FnSpecR iseat.toSeat := mkSpecR iseat.toSeat 69 .Seed [.Convoy] [.Convoy] (fun b a => wide b a.1) (fun b a y x hx h => fn_contractR (Z := iseat) (bt := .Seed) (ats := [.Convoy]) (ts := [.Convoy]) (E := E69) (fn := Tryd.f69) (c := bodyOf Tryd.f69) Tryd.func69 (by kernel_rfl) (by kernel_rfl) (by kernel_rfl) (by kernel_rfl) rfl ((e69 itN b a.1).trans ((wide_eq b a.1).symm.trans hx)) h)
def ConvoyOf_L3 (i : Int) (s_word : Int) (c_Length : Int) (c_Gap : Int) (c_Fails : Int) (c_Trucks : List Truck) (kn_ : Int → Int → Int → Int → Int → (List Truck) → Option (Seed × Convoy)) : Option (Seed × Convoy) :=
 bif (decide (i > 0)) then
 (TruckOf (⟨s_word⟩ : Seed) c_Length 3).bind fun r4 =>
 chk (fitA (c_Trucks.length + ([r4.2] : List Truck).length) 56) <|
 kn_ (w64 (i - 1)) r4.1.word c_Length c_Gap c_Fails (c_Trucks ++ ([r4.2] : List Truck))
 else
 (wide (⟨s_word⟩ : Seed) (⟨c_Length, c_Gap, c_Fails, c_Trucks⟩ : Convoy)).bind fun r5 =>
 some (r5.1, r5.2)
def ConvoyOf' (it : It (Seed × Convoy)) (s : Seed) (most_ : Int) : Option (Seed × Convoy) :=
 (From s 20 400).bind fun r =>
 (Below r.1 3).bind fun r2 =>
 (Below r2.1 (w64 (most_ + 1))).bind fun r3 =>
 it _ (fun (v_0 : (Unit × Unit × Unit × Int × Unit) × ((Int × Unit) × (Int × Int × Int × (List Truck) × Unit) × Unit)) kn => ConvoyOf_L3 v_0.1.2.2.2.1 v_0.2.1.1 v_0.2.2.1.1 v_0.2.2.1.2.1 v_0.2.2.1.2.2.1 v_0.2.2.1.2.2.2.1 (fun y0 y1 y2 y3 y4 y5 => kn (((), (), (), y0, ()), ((y1, ()), (y2, y3, y4, y5, ()), ())))) (((), (), (), r3.2, ()), ((r3.1.word, ()), (r.2, 0, r2.2, [], ()), ()))
def ConvoyOf : Seed → Int → Option (Seed × Convoy) := opq (fun s most_ => ConvoyOf' itN s most_)
theorem ConvoyOf_eq (s : Seed) (most_ : Int) : ConvoyOf s most_ = ConvoyOf' itN s most_ := by unfold ConvoyOf; rw [opq_eq]
def E25 : FEnv iseat := ⟨⟨32, [], [sp35, sp32, sp46, sp69], [], [], [], [], [], [], [], [], [26], [0], true⟩, [(3, ⟨⟨[(0, .bx 0 0), (4, .bx 4 0), (5, .bx 5 0), (6, .v (.int .i64))], [(0, [.v (.int .u64)]), (5, [.v (.int .i64), .v (.int .i64), .v (.int .i64), .os 27 50 .Truck])]⟩, [], [4], []⟩)]⟩
theorem e25 (it : It (Seed × Convoy)) (s : Seed) (most_ : Int) : fnRunR (bt := .Seed) (ts := [.Convoy]) it E25 (bodyOf Tryd.f25) Tryd.f25.results.toList (encC .Seed s) (encA [.int .i64] (most_, ())) = ConvoyOf' it s most_ := by kernel_rfl
def sp25 : FnSpecR iseat.toSeat := mkSpecR iseat.toSeat 25 .Seed [.int .i64] [.Convoy] (fun b a => ConvoyOf b a.1) (fun b a y x hx h => fn_contractR (Z := iseat) (bt := .Seed) (ats := [.int .i64]) (ts := [.Convoy]) (E := E25) (fn := Tryd.f25) (c := bodyOf Tryd.f25) Tryd.func25 (by kernel_rfl) (by kernel_rfl) (by kernel_rfl) (by kernel_rfl) rfl ((e25 itN b a.1).trans ((ConvoyOf_eq b a.1).symm.trans hx)) h)
def NewSeed_L3 (nums : List Int) (i : Int) (x6_word : Int) (kn_ : Int → Int → Option Seed) : Option Seed :=
 bif (decide (i < (nums.length : Int))) then
 chk (decide (0 ≤ i) && decide (i < (nums.length : Int))) <|
 (next (⟨(IntKind.u64.wrap ((IntKind.u64.wrap ((IntKind.u64.wrap (x6_word * 6364136223846793005)) + (IntKind.u64.wrap ((nums.getD i.toNat 0))))) + 1442695040888963407))⟩ : Seed)).bind fun r =>
 kn_ (w64 (i + 1)) r.1.word
 else
 some (⟨x6_word⟩ : Seed)
def NewSeed' (it : It Seed) (nums : List Int) : Option Seed :=
 it _ (fun (v_0 : (Unit × Int × Unit) × ((Int × Unit) × Unit)) kn => NewSeed_L3 nums v_0.1.2.1 v_0.2.1.1 (fun y0 y1 => kn (((), y0, ()), ((y1, ()), ())))) (((), 0, ()), ((1, ()), ()))
def NewSeed : (List Int) → Option Seed := opq (fun nums => NewSeed' itN nums)
theorem NewSeed_eq (nums : List Int) : NewSeed nums = NewSeed' itN nums := by unfold NewSeed; rw [opq_eq]
def E24 : FEnv iseat := ⟨⟨31, [], [sp68], [], [], [], [], [], [], [], [], [], [], true⟩, [(3, ⟨⟨[(3, .bx 6 0), (4, .v (.int .i64))], [(6, [.v (.int .u64)])]⟩, [0], [], []⟩)]⟩
theorem e24 (it : It Seed) (nums : List Int) : fnRunB (bt := .Seed) it E24 (bodyOf Tryd.f24) Tryd.f24.results.toList (encA [.sl (.int .i64)] (nums, ())) = NewSeed' it nums := by kernel_rfl
def sp24 : FnSpecB iseat.toSeat := mkSpecB iseat.toSeat 24 .Seed [.sl (.int .i64)] (fun a => NewSeed a.1) (fun a y hx h => fn_contractB (Z := iseat) (bt := .Seed) (ats := [.sl (.int .i64)]) (E := E24) (fn := Tryd.f24) (c := bodyOf Tryd.f24) Tryd.func24 (by kernel_rfl) (by kernel_rfl) (by kernel_rfl) (by kernel_rfl) rfl ⟨_, rfl⟩ ((e24 itN a.1).trans ((NewSeed_eq a.1).symm.trans hx)) h)
end
end Go.Proofs.Plain04
