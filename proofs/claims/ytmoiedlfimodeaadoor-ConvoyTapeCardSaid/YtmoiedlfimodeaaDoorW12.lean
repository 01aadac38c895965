/- Walks by computing: what each function of the program that the laws reach gives for what it gets, as plain Lean, and that it is so; without a condition but those that stand in each theorem. -/
import Derived.Test.YtmoiedlfimodeaaDoorW1
import Derived.Test.YtmoiedlfimodeaaDoorW2
import Derived.Test.YtmoiedlfimodeaaDoorW3
import Derived.Test.YtmoiedlfimodeaaDoorW4
import Derived.Test.YtmoiedlfimodeaaDoorW5
import Derived.Test.YtmoiedlfimodeaaDoorW6
import Derived.Test.YtmoiedlfimodeaaDoorW7
import Derived.Test.YtmoiedlfimodeaaDoorW8
import Derived.Test.YtmoiedlfimodeaaDoorW9
import Derived.Test.YtmoiedlfimodeaaDoorW10
import Derived.Test.YtmoiedlfimodeaaDoorW11
set_option linter.all false
namespace Go.Proofs.Tp04
open Go Go.Ab
open Go.Proofs.YtmoiedlfimodeaaDoor (iseat)
set_option linter.all false
set_option maxRecDepth 100000
noncomputable section
def next' (it : It (Seed × Int)) (s : Seed) : Option (Seed × Int) :=
  some ((⟨(IntKind.u64.wrap (s.word + 11400714819323198485))⟩ : Seed), (xorI .u64 (IntKind.u64.wrap ((xorI .u64 (IntKind.u64.wrap ((xorI .u64 (IntKind.u64.wrap (s.word + 11400714819323198485)) (shrI .u64 (IntKind.u64.wrap (s.word + 11400714819323198485)) 30)) * 13787848793156543929)) (shrI .u64 (IntKind.u64.wrap ((xorI .u64 (IntKind.u64.wrap (s.word + 11400714819323198485)) (shrI .u64 (IntKind.u64.wrap (s.word + 11400714819323198485)) 30)) * 13787848793156543929)) 27)) * 10723151780598845931)) (shrI .u64 (IntKind.u64.wrap ((xorI .u64 (IntKind.u64.wrap ((xorI .u64 (IntKind.u64.wrap (s.word + 11400714819323198485)) (shrI .u64 (IntKind.u64.wrap (s.word + 11400714819323198485)) 30)) * 13787848793156543929)) (shrI .u64 (IntKind.u64.wrap ((xorI .u64 (IntKind.u64.wrap (s.word + 11400714819323198485)) (shrI .u64 (IntKind.u64.wrap (s.word + 11400714819323198485)) 30)) * 13787848793156543929)) 27)) * 10723151780598845931)) 31)))
def next : Seed → Option (Seed × Int) := opq (fun s => next' itN s)
theorem next_eq (s : Seed) : next s = next' itN s := by unfold next; rw [opq_eq]
def E26 : FEnv iseat := ⟨⟨30, [], [], [], [], [], [], [], [], [], [], [], [0], true⟩, []⟩
theorem e26 (it : It (Seed × Int)) (s : Seed) : fnRunR (bt := .Seed) (ts := [.int .u64]) it E26 (bodyOf Tryd.f26) Tryd.f26.results.toList (encC .Seed s) (encA [] (())) = next' it s := by kernel_rfl
def sp26 : FnSpecR iseat.toSeat := mkSpecR iseat.toSeat 26 .Seed [] [.int .u64] (fun b a => next b ) (fun b a y x hx h => fn_contractR (Z := iseat) (bt := .Seed) (ats := []) (ts := [.int .u64]) (E := E26) (fn := Tryd.f26) (c := bodyOf Tryd.f26) Tryd.func26 (by kernel_rfl) (by kernel_rfl) (by kernel_rfl) (by kernel_rfl) rfl ((e26 itN b ).trans ((next_eq b ).symm.trans hx)) h)
def Below' (it : It (Seed × Int)) (s : Seed) (n : Int) : Option (Seed × Int) :=
  bif (decide (n < 2)) then
    some (s, 0)
  else
    (next s).bind fun r =>
    chk ((IntKind.u64.wrap (n)) != 0) <|
    some (r.1, (w64 (((shrI .u64 r.2 1).tmod (IntKind.u64.wrap (n))))))
def Below : Seed → Int → Option (Seed × Int) := opq (fun s n => Below' itN s n)
theorem Below_eq (s : Seed) (n : Int) : Below s n = Below' itN s n := by unfold Below; rw [opq_eq]
def E23 : FEnv iseat := ⟨⟨14, [], [sp26], [], [], [], [], [], [], [], [], [], [0], true⟩, []⟩
theorem e23 (it : It (Seed × Int)) (s : Seed) (n : Int) : fnRunR (bt := .Seed) (ts := [.int .i64]) it E23 (bodyOf Tryd.f23) Tryd.f23.results.toList (encC .Seed s) (encA [.int .i64] (n, ())) = Below' it s n := by kernel_rfl
def sp23 : FnSpecR iseat.toSeat := mkSpecR iseat.toSeat 23 .Seed [.int .i64] [.int .i64] (fun b a => Below b a.1) (fun b a y x hx h => fn_contractR (Z := iseat) (bt := .Seed) (ats := [.int .i64]) (ts := [.int .i64]) (E := E23) (fn := Tryd.f23) (c := bodyOf Tryd.f23) Tryd.func23 (by kernel_rfl) (by kernel_rfl) (by kernel_rfl) (by kernel_rfl) rfl ((e23 itN b a.1).trans ((Below_eq b a.1).symm.trans hx)) h)
def From' (it : It (Seed × Int)) (s : Seed) (low : Int) (high : Int) : Option (Seed × Int) :=
  (Below s (w64 ((w64 (high - low)) + 1))).bind fun r =>
  some (r.1, (w64 (low + r.2)))
def From : Seed → Int → Int → Option (Seed × Int) := opq (fun s low high => From' itN s low high)
theorem From_eq (s : Seed) (low : Int) (high : Int) : From s low high = From' itN s low high := by unfold From; rw [opq_eq]
def E22 : FEnv iseat := ⟨⟨15, [], [sp23], [], [], [], [], [], [], [], [], [], [0], true⟩, []⟩
theorem e22 (it : It (Seed × Int)) (s : Seed) (low : Int) (high : Int) : fnRunR (bt := .Seed) (ts := [.int .i64]) it E22 (bodyOf Tryd.f22) Tryd.f22.results.toList (encC .Seed s) (encA [.int .i64, .int .i64] (low, high, ())) = From' it s low high := by kernel_rfl
def sp22 : FnSpecR iseat.toSeat := mkSpecR iseat.toSeat 22 .Seed [.int .i64, .int .i64] [.int .i64] (fun b a => From b a.1 a.2.1) (fun b a y x hx h => fn_contractR (Z := iseat) (bt := .Seed) (ats := [.int .i64, .int .i64]) (ts := [.int .i64]) (E := E22) (fn := Tryd.f22) (c := bodyOf Tryd.f22) Tryd.func22 (by kernel_rfl) (by kernel_rfl) (by kernel_rfl) (by kernel_rfl) rfl ((e22 itN b a.1 a.2.1).trans ((From_eq b a.1 a.2.1).symm.trans hx)) h)
def Of' (it : It (Seed × Int)) (s : Seed) (l : List Int) : Option (Seed × Int) :=
  bif ((l.length : Int) == 0) then
    some (s, 0)
  else
    (Below s (l.length : Int)).bind fun r =>
    chk (decide (0 ≤ r.2) && decide (r.2 < (l.length : Int))) <|
    some (r.1, (l.getD r.2.toNat 0))
def Of : Seed → (List Int) → Option (Seed × Int) := opq (fun s l => Of' itN s l)
theorem Of_eq (s : Seed) (l : List Int) : Of s l = Of' itN s l := by unfold Of; rw [opq_eq]
def E51 : FEnv iseat := ⟨⟨15, [], [sp23], [], [], [], [], [], [], [], [], [], [0], true⟩, []⟩
theorem e51 (it : It (Seed × Int)) (s : Seed) (l : List Int) : fnRunR (bt := .Seed) (ts := [.int .i64]) it E51 (bodyOf Tryd.f51) Tryd.f51.results.toList (encC .Seed s) (encA [.sl (.int .i64)] (l, ())) = Of' it s l := by kernel_rfl
def sp51 : FnSpecR iseat.toSeat := mkSpecR iseat.toSeat 51 .Seed [.sl (.int .i64)] [.int .i64] (fun b a => Of b a.1) (fun b a y x hx h => fn_contractR (Z := iseat) (bt := .Seed) (ats := [.sl (.int .i64)]) (ts := [.int .i64]) (E := E51) (fn := Tryd.f51) (c := bodyOf Tryd.f51) Tryd.func51 (by kernel_rfl) (by kernel_rfl) (by kernel_rfl) (by kernel_rfl) rfl ((e51 itN b a.1).trans ((Of_eq b a.1).symm.trans hx)) h)
def TruckOf_L6 (length : Int) (at_ : Int) (i : Int) (s_word : Int) (t_Way : Int) (t_Start : Int) (t_Pace_Lo : Int) (t_Pace_Hi : Int) (t_Holds : List Hold) (kn_ : Int → Int → Int → Int → Int → Int → Int → (List Hold) → Option (Seed × Truck)) : Option (Seed × Truck) :=
  bif (decide (i > 0)) then
    bif (decide (at_ < (w64 (length - 1)))) then
      (From (⟨s_word⟩ : Seed) (w64 (at_ + 1)) (w64 (length - 1))).bind fun r9 =>
      (Below r9.1 150).bind fun r10 =>
      bif (t_Way == 2) then
        chk (fitA (t_Holds.length + ([(⟨(w64 (length - r9.2)), r10.2⟩ : Hold)] : List Hold).length) 16) <|
        kn_ r9.2 (w64 (i - 1)) r10.1.word t_Way t_Start t_Pace_Lo t_Pace_Hi (t_Holds ++ ([(⟨(w64 (length - r9.2)), r10.2⟩ : Hold)] : List Hold))
      else
        chk (fitA (t_Holds.length + ([(⟨r9.2, r10.2⟩ : Hold)] : List Hold).length) 16) <|
        kn_ r9.2 (w64 (i - 1)) r10.1.word t_Way t_Start t_Pace_Lo t_Pace_Hi (t_Holds ++ ([(⟨r9.2, r10.2⟩ : Hold)] : List Hold))
    else
      some ((⟨s_word⟩ : Seed), (⟨t_Way, t_Start, ⟨t_Pace_Lo, t_Pace_Hi⟩, t_Holds⟩ : Truck))
  else
    some ((⟨s_word⟩ : Seed), (⟨t_Way, t_Start, ⟨t_Pace_Lo, t_Pace_Hi⟩, t_Holds⟩ : Truck))
def TruckOf' (it : It (Seed × Truck)) (s : Seed) (length : Int) (holds : Int) : Option (Seed × Truck) :=
  (From s 1 2).bind fun r =>
  (Below r.1 60).bind fun r2 =>
  (Below r2.1 200).bind fun r3 =>
  (Of r3.1 [0, r2.2, r3.2]).bind fun r4 =>
  (From r4.1 5 25).bind fun r5 =>
  (Below r5.1 8).bind fun r6 =>
  (Of r6.1 [0, r6.2]).bind fun r7 =>
  (Below r7.1 (w64 (holds + 1))).bind fun r8 =>
  it _ (fun (v_0 : (Unit × Unit × Unit × Int × Int × Unit) × ((Int × Unit) × (Int × Int × Int × Int × (List Hold) × Unit) × Unit)) kn => TruckOf_L6 length v_0.1.2.2.2.1 v_0.1.2.2.2.2.1 v_0.2.1.1 v_0.2.2.1.1 v_0.2.2.1.2.1 v_0.2.2.1.2.2.1 v_0.2.2.1.2.2.2.1 v_0.2.2.1.2.2.2.2.1 (fun y0 y1 y2 y3 y4 y5 y6 y7 => kn (((), (), (), y0, y1, ()), ((y2, ()), (y3, y4, y5, y6, y7, ()), ())))) (((), (), (), 0, r8.2, ()), ((r8.1.word, ()), (r.2, r4.2, r5.2, (w64 (r5.2 + r7.2)), [], ()), ()))
def TruckOf : Seed → Int → Int → Option (Seed × Truck) := opq (fun s length holds => TruckOf' itN s length holds)
theorem TruckOf_eq (s : Seed) (length : Int) (holds : Int) : TruckOf s length holds = TruckOf' itN s length holds := by unfold TruckOf; rw [opq_eq]
def E24 : FEnv iseat := ⟨⟨74, [], [sp22, sp23, sp51], [], [], [], [], [], [], [], [], [18, 31, 70], [0], true⟩, [(6, ⟨⟨[(0, .bx 0 0), (6, .bx 6 0), (7, .bx 7 0), (8, .v (.int .i64)), (9, .v (.int .i64))], [(0, [.v (.int .u64)]), (7, [.v (.int .i64), .v (.int .i64), .v (.int .i64), .v (.int .i64), .os 71 66 .Hold])]⟩, [1], [6], []⟩)]⟩
theorem e24 (it : It (Seed × Truck)) (s : Seed) (length : Int) (holds : Int) : fnRunR (bt := .Seed) (ts := [.Truck]) it E24 (bodyOf Tryd.f24) Tryd.f24.results.toList (encC .Seed s) (encA [.int .i64, .int .i64] (length, holds, ())) = TruckOf' it s length holds := by kernel_rfl
def sp24 : FnSpecR iseat.toSeat := mkSpecR iseat.toSeat 24 .Seed [.int .i64, .int .i64] [.Truck] (fun b a => TruckOf b a.1 a.2.1) (fun b a y x hx h => fn_contractR (Z := iseat) (bt := .Seed) (ats := [.int .i64, .int .i64]) (ts := [.Truck]) (E := E24) (fn := Tryd.f24) (c := bodyOf Tryd.f24) Tryd.func24 (by kernel_rfl) (by kernel_rfl) (by kernel_rfl) (by kernel_rfl) rfl ((e24 itN b a.1 a.2.1).trans ((TruckOf_eq b a.1 a.2.1).symm.trans hx)) h)
def wide_L3 (s : Seed) (i : Int) (c_Length : Int) (c_Gap : Int) (c_Fails : Int) (c_Trucks : List Truck) (kn_ : Int → Int → Int → Int → (List Truck) → Option (Seed × Convoy)) : Option (Seed × Convoy) :=
  bif (decide (i < (c_Trucks.length : Int))) then
    chk (decide (0 ≤ i) && decide (i < (c_Trucks.length : Int))) <|
    kn_ (w64 (i + 1)) c_Length (max c_Gap (w64 (2 * (c_Trucks.getD i.toNat dfltTruck).Pace.Hi))) c_Fails c_Trucks
  else
    (Below s 30).bind fun r =>
    (Of r.1 [0, r.2]).bind fun r2 =>
    some (r2.1, (⟨c_Length, (w64 (c_Gap + r2.2)), c_Fails, c_Trucks⟩ : Convoy))
def wide' (it : It (Seed × Convoy)) (s : Seed) (c : Convoy) : Option (Seed × Convoy) :=
  it _ (fun (v_0 : (Unit × Unit × Unit × Int × Unit) × ((Int × Int × Int × (List Truck) × Unit) × Unit)) kn => wide_L3 s v_0.1.2.2.2.1 v_0.2.1.1 v_0.2.1.2.1 v_0.2.1.2.2.1 v_0.2.1.2.2.2.1 (fun y0 y1 y2 y3 y4 => kn (((), (), (), y0, ()), ((y1, y2, y3, y4, ()), ())))) (((), (), (), 0, ()), ((c.Length, 1, c.Fails, c.Trucks, ()), ()))
def wide : Seed → Convoy → Option (Seed × Convoy) := opq (fun s c => wide' itN s c)
theorem wide_eq (s : Seed) (c : Convoy) : wide s c = wide' itN s c := by unfold wide; rw [opq_eq]
def E25 : FEnv iseat := ⟨⟨36, [], [sp23, sp51], [], [], [], [], [], [], [], [], [31], [0], true⟩, [(3, ⟨⟨[(0, .bx 0 0), (3, .bx 3 0), (4, .bx 4 0), (5, .v (.int .i64))], [(3, [.v (.int .i64), .v (.int .i64), .v (.int .i64), .v (.sl .Truck)])]⟩, [], [0, 4], []⟩)]⟩
theorem e25 (it : It (Seed × Convoy)) (s : Seed) (c : Convoy) : fnRunR (bt := .Seed) (ts := [.Convoy]) it E25 (bodyOf Tryd.f25) Tryd.f25.results.toList (encC .Seed s) (encA [.Convoy] (c, ())) = wide' it s c := by kernel_rfl
def sp25 : FnSpecR iseat.toSeat := mkSpecR iseat.toSeat 25 .Seed [.Convoy] [.Convoy] (fun b a => wide b a.1) (fun b a y x hx h => fn_contractR (Z := iseat) (bt := .Seed) (ats := [.Convoy]) (ts := [.Convoy]) (E := E25) (fn := Tryd.f25) (c := bodyOf Tryd.f25) Tryd.func25 (by kernel_rfl) (by kernel_rfl) (by kernel_rfl) (by kernel_rfl) rfl ((e25 itN b a.1).trans ((wide_eq b a.1).symm.trans hx)) h)
def ConvoyOf_L3 (i : Int) (s_word : Int) (c_Length : Int) (c_Gap : Int) (c_Fails : Int) (c_Trucks : List Truck) (kn_ : Int → Int → Int → Int → Int → (List Truck) → Option (Seed × Convoy)) : Option (Seed × Convoy) :=
  bif (decide (i > 0)) then
    (TruckOf (⟨s_word⟩ : Seed) c_Length 3).bind fun r4 =>
    chk (fitA (c_Trucks.length + ([r4.2] : List Truck).length) 56) <|
    kn_ (w64 (i - 1)) r4.1.word c_Length c_Gap c_Fails (c_Trucks ++ ([r4.2] : List Truck))
  else
    (wide (⟨s_word⟩ : Seed) (⟨c_Length, c_Gap, c_Fails, c_Trucks⟩ : Convoy)).bind fun r5 =>
    some (r5.1, r5.2)
def ConvoyOf' (it : It (Seed × Convoy)) (s : Seed) (most_ : Int) : Option (Seed × Convoy) :=
  (From s 20 400).bind fun r =>
  (Below r.1 3).bind fun r2 =>
  (Below r2.1 (w64 (most_ + 1))).bind fun r3 =>
  it _ (fun (v_0 : (Unit × Unit × Unit × Int × Unit) × ((Int × Unit) × (Int × Int × Int × (List Truck) × Unit) × Unit)) kn => ConvoyOf_L3 v_0.1.2.2.2.1 v_0.2.1.1 v_0.2.2.1.1 v_0.2.2.1.2.1 v_0.2.2.1.2.2.1 v_0.2.2.1.2.2.2.1 (fun y0 y1 y2 y3 y4 y5 => kn (((), (), (), y0, ()), ((y1, ()), (y2, y3, y4, y5, ()), ())))) (((), (), (), r3.2, ()), ((r3.1.word, ()), (r.2, 0, r2.2, [], ()), ()))
def ConvoyOf : Seed → Int → Option (Seed × Convoy) := opq (fun s most_ => ConvoyOf' itN s most_)
theorem ConvoyOf_eq (s : Seed) (most_ : Int) : ConvoyOf s most_ = ConvoyOf' itN s most_ := by unfold ConvoyOf; rw [opq_eq]
def E6 : FEnv iseat := ⟨⟨32, [], [sp22, sp23, sp24, sp25], [], [], [], [], [], [], [], [], [26], [0], true⟩, [(3, ⟨⟨[(0, .bx 0 0), (4, .bx 4 0), (5, .bx 5 0), (6, .v (.int .i64))], [(0, [.v (.int .u64)]), (5, [.v (.int .i64), .v (.int .i64), .v (.int .i64), .os 27 44 .Truck])]⟩, [], [4], []⟩)]⟩
theorem e6 (it : It (Seed × Convoy)) (s : Seed) (most_ : Int) : fnRunR (bt := .Seed) (ts := [.Convoy]) it E6 (bodyOf Tryd.f6) Tryd.f6.results.toList (encC .Seed s) (encA [.int .i64] (most_, ())) = ConvoyOf' it s most_ := by kernel_rfl
def sp6 : FnSpecR iseat.toSeat := mkSpecR iseat.toSeat 6 .Seed [.int .i64] [.Convoy] (fun b a => ConvoyOf b a.1) (fun b a y x hx h => fn_contractR (Z := iseat) (bt := .Seed) (ats := [.int .i64]) (ts := [.Convoy]) (E := E6) (fn := Tryd.f6) (c := bodyOf Tryd.f6) Tryd.func6 (by kernel_rfl) (by kernel_rfl) (by kernel_rfl) (by kernel_rfl) rfl ((e6 itN b a.1).trans ((ConvoyOf_eq b a.1).symm.trans hx)) h)
def NewSeed_L3 (nums : List Int) (i : Int) (x6_word : Int) (kn_ : Int → Int → Option Seed) : Option Seed :=
  bif (decide (i < (nums.length : Int))) then
    chk (decide (0 ≤ i) && decide (i < (nums.length : Int))) <|
    (next (⟨(IntKind.u64.wrap ((IntKind.u64.wrap ((IntKind.u64.wrap (x6_word * 6364136223846793005)) + (IntKind.u64.wrap ((nums.getD i.toNat 0))))) + 1442695040888963407))⟩ : Seed)).bind fun r =>
    kn_ (w64 (i + 1)) r.1.word
  else
    some (⟨x6_word⟩ : Seed)
def NewSeed' (it : It Seed) (nums : List Int) : Option Seed :=
  it _ (fun (v_0 : (Unit × Int × Unit) × ((Int × Unit) × Unit)) kn => NewSeed_L3 nums v_0.1.2.1 v_0.2.1.1 (fun y0 y1 => kn (((), y0, ()), ((y1, ()), ())))) (((), 0, ()), ((1, ()), ()))
def NewSeed : (List Int) → Option Seed := opq (fun nums => NewSeed' itN nums)
theorem NewSeed_eq (nums : List Int) : NewSeed nums = NewSeed' itN nums := by unfold NewSeed; rw [opq_eq]
def E7 : FEnv iseat := ⟨⟨31, [], [sp26], [], [], [], [], [], [], [], [], [], [], true⟩, [(3, ⟨⟨[(3, .bx 6 0), (4, .v (.int .i64))], [(6, [.v (.int .u64)])]⟩, [0], [], []⟩)]⟩
theorem e7 (it : It Seed) (nums : List Int) : fnRunB (bt := .Seed) it E7 (bodyOf Tryd.f7) Tryd.f7.results.toList (encA [.sl (.int .i64)] (nums, ())) = NewSeed' it nums := by kernel_rfl
def sp7 : FnSpecB iseat.toSeat := mkSpecB iseat.toSeat 7 .Seed [.sl (.int .i64)] (fun a => NewSeed a.1) (fun a y hx h => fn_contractB (Z := iseat) (bt := .Seed) (ats := [.sl (.int .i64)]) (E := E7) (fn := Tryd.f7) (c := bodyOf Tryd.f7) Tryd.func7 (by kernel_rfl) (by kernel_rfl) (by kernel_rfl) (by kernel_rfl) rfl ⟨_, rfl⟩ ((e7 itN a.1).trans ((NewSeed_eq a.1).symm.trans hx)) h)
def Same_L10 (a : Convoy) (i : Int) (b : Convoy) (kn_ : Int → Option Bool) (k : Int) (kn_2 : Int → Option Bool) : Option Bool :=
  bif (decide (k < (((a.Trucks.getD i.toNat dfltTruck).Holds).length : Int))) then
    chk (decide (0 ≤ k) && decide (k < (((a.Trucks.getD i.toNat dfltTruck).Holds).length : Int))) <|
    chk (decide (0 ≤ k) && decide (k < (((b.Trucks.getD i.toNat dfltTruck).Holds).length : Int))) <|
    bif (!(decide ((((a.Trucks.getD i.toNat dfltTruck).Holds).getD k.toNat dfltHold).At = (((b.Trucks.getD i.toNat dfltTruck).Holds).getD k.toNat dfltHold).At) && (decide ((((a.Trucks.getD i.toNat dfltTruck).Holds).getD k.toNat dfltHold).Until = (((b.Trucks.getD i.toNat dfltTruck).Holds).getD k.toNat dfltHold).Until) && true))) then
      some false
    else
      kn_2 (w64 (k + 1))
  else
    kn_ (w64 (i + 1))
def Same_L4 (it : It Bool) (a : Convoy) (b : Convoy) (i : Int) (kn_ : Int → Option Bool) : Option Bool :=
  bif (decide (i < (a.Trucks.length : Int))) then
    chk (decide (0 ≤ i) && decide (i < (a.Trucks.length : Int))) <|
    chk (decide (0 ≤ i) && decide (i < (b.Trucks.length : Int))) <|
    bif ((a.Trucks.getD i.toNat dfltTruck).Way != (b.Trucks.getD i.toNat dfltTruck).Way) then
      some false
    else
      bif ((a.Trucks.getD i.toNat dfltTruck).Start != (b.Trucks.getD i.toNat dfltTruck).Start) then
        some false
      else
        bif (!(decide ((a.Trucks.getD i.toNat dfltTruck).Pace.Lo = (b.Trucks.getD i.toNat dfltTruck).Pace.Lo) && (decide ((a.Trucks.getD i.toNat dfltTruck).Pace.Hi = (b.Trucks.getD i.toNat dfltTruck).Pace.Hi) && true))) then
          some false
        else
          bif ((((a.Trucks.getD i.toNat dfltTruck).Holds).length : Int) != (((b.Trucks.getD i.toNat dfltTruck).Holds).length : Int)) then
            some false
          else
            it _ (fun (v_0 : (Unit × Unit × Unit × Unit × Int × Unit) × (Unit)) kn => Same_L10 a i b kn_ v_0.1.2.2.2.2.1 (fun y0 => kn (((), (), (), (), y0, ()), (())))) (((), (), (), (), 0, ()), (()))
  else
    some true
def Same' (it : It Bool) (a : Convoy) (b : Convoy) : Option Bool :=
  bif (a.Length != b.Length) then
    some false
  else
    bif (a.Gap != b.Gap) then
      some false
    else
      bif (a.Fails != b.Fails) then
        some false
      else
        bif ((a.Trucks.length : Int) != (b.Trucks.length : Int)) then
          some false
        else
          it _ (fun (v_0 : (Unit × Unit × Int × Unit) × (Unit)) kn => Same_L4 it a b v_0.1.2.2.1 (fun y0 => kn (((), (), y0, ()), (())))) (((), (), 0, ()), (()))
def Same : Convoy → Convoy → Option Bool := opq (fun a b => Same' itN a b)
theorem Same_eq (a : Convoy) (b : Convoy) : Same a b = Same' itN a b := by unfold Same; rw [opq_eq]
def E21 : FEnv iseat := ⟨⟨100, [], [], [], [], [], [], [], [], [], [], [], [], true⟩, [(4, ⟨⟨[(2, .bx 2 0), (3, .bx 3 0), (5, .v (.int .i64))], []⟩, [], [2, 3], []⟩), (10, ⟨⟨[(2, .bx 2 0), (3, .bx 3 0), (6, .bx 6 0), (7, .bx 7 0), (8, .v (.int .i64))], []⟩, [5], [6, 7], []⟩)]⟩
theorem e21 (it : It Bool) (a : Convoy) (b : Convoy) : fnRun (ts := [.bool]) it E21 (bodyOf Tryd.f21) Tryd.f21.results.toList (encA [.Convoy, .Convoy] (a, b, ())) = Same' it a b := by kernel_rfl
def sp21 : FnSpec iseat.toSeat := mkSpec iseat.toSeat 21 [.Convoy, .Convoy] [.bool] true (fun a => Same a.1 a.2.1) (fun a x hx h h' => fn_contract (Z := iseat) (ats := [.Convoy, .Convoy]) (ts := [.bool]) (E := E21) (fn := Tryd.f21) (c := bodyOf Tryd.f21) Tryd.func21 (by kernel_rfl) (by kernel_rfl) (by kernel_rfl) (by kernel_rfl) rfl ((e21 itN a.1 a.2.1).trans ((Same_eq a.1 a.2.1).symm.trans hx)) h h') (fun _ x => rfl)
def Tape' (it : It Bool) (nums : List Int) (text : ByteArray) : Option Bool :=
  bif (decide ((text.size : Int) > 2000)) then
    (awake).bind fun r =>
    some r
  else
    (NewSeed nums).bind fun r2 =>
    (ConvoyOf r2 6).bind fun r3 =>
    (Write r3.2).bind fun r4 =>
    (Read r4.1).bind fun r5 =>
    bif (r4.2 != 0) then
      some false
    else
      bif (r5.2.2 != 0) then
        some false
      else
        bif (r5.2.1 != 0) then
          some false
        else
          (Same r3.2 r5.1).bind fun r6 =>
          bif (!r6) then
            some false
          else
            (Read text).bind fun r7 =>
            bif (r7.2.2 != 0) then
              (awake).bind fun r8 =>
              some r8
            else
              (Write r7.1).bind fun r9 =>
              bif (r9.2 == 0) then
                bif (r9.1.toList == text.toList) then
                  (awake).bind fun r10 =>
                  some r10
                else
                  some false
              else
                some false
def Tape : (List Int) → ByteArray → Option Bool := opq (fun nums text => Tape' itN nums text)
theorem Tape_eq (nums : List Int) (text : ByteArray) : Tape nums text = Tape' itN nums text := by unfold Tape; rw [opq_eq]
def E5 : FEnv iseat := ⟨⟨74, [sp11, sp19, sp20, sp21], [sp6], [sp7], [], [], [], [], [], [], [], [], [], true⟩, []⟩
theorem e5 (it : It Bool) (nums : List Int) (text : ByteArray) : fnRun (ts := [.bool]) it E5 (bodyOf Tryd.f5) Tryd.f5.results.toList (encA [.sl (.int .i64), .str] (nums, text, ())) = Tape' it nums text := by kernel_rfl
end
end Go.Proofs.Tp04
namespace Go.Ab
open Go Go.RowKit
set_option linter.all false
def Ok {α : Type} (P : α → Prop) (x : Option α) : Prop := ∃ a, x = some a ∧ P a
section
variable {α β : Type} {P : α → Prop} {Q : β → Prop}
theorem Ok.some {a : α} (h : P a) : Ok P (some a) := ⟨a, rfl, h⟩
theorem Ok.bind {x : Option α} {f : α → Option β} (hx : Ok P x) (hf : ∀ a, P a → Ok Q (f a)) : Ok Q (x.bind f) := by
  obtain ⟨a, rfl, ha⟩ := hx
  exact hf a ha
theorem Ok.mono {P' : α → Prop} {x : Option α} (hx : Ok P x) (h : ∀ a, P a → P' a) : Ok P' x := by
  obtain ⟨a, rfl, ha⟩ := hx
  exact ⟨a, rfl, h a ha⟩
theorem Ok.chk {b : Bool} {x : Option α} (hb : b = true) (hx : Ok P x) : Ok P (chk b x) := by subst hb; exact hx
theorem Ok.ite {c : Bool} {x y : Option α} (hx : c = true → Ok P x) (hy : c = false → Ok P y) : Ok P (bif c then x else y) := by
  cases c with
  | true => exact hx rfl
  | false => exact hy rfl
theorem Ok.rounds {γ : Type} {F : γ → (γ → Option α) → Option α} {v0 : γ} (inv : γ → Prop) (μ : γ → Nat) (hμ : μ v0 < FUEL) (h0 : inv v0)
    (step : ∀ v kn, inv v → (∀ v', inv v' → μ v' < μ v → Ok P (kn v')) → Ok P (F v kn)) : Ok P (itN γ F v0) := by
  have key : ∀ n v, inv v → μ v < n → Ok P (iter F n v) := by
    intro n
    induction n with
    | zero => intro v _ h; omega
    | succ n ih =>
      intro v hv hn
      exact step v (iter F n) hv fun v' hv' hlt => ih v' hv' (by omega)
  exact key FUEL v0 h0 hμ
end
theorem w64_id {n : Int} (h1 : -9223372036854775808 ≤ n) (h2 : n ≤ 9223372036854775807) : w64 n = n := by
  unfold w64 IntKind.wrap
  simp [IntKind.bits, IntKind.signed, Int.bmod_def]
  omega
end Go.Ab
namespace Go.Proofs.Tp04
open Go Go.Ab
set_option linter.all false
set_option maxRecDepth 100000
def bI (l : List UInt8) : List Int := l.map fun b => (b.toNat : Int)
theorem bI_app (a b : List UInt8) : bI (a ++ b) = bI a ++ bI b := List.map_append
theorem bI_len (a : List UInt8) : (bI a).length = a.length := List.length_map ..
theorem okBy_bI (a : List UInt8) : Tx.okBy (bI a) = true := by
  unfold Tx.okBy bI
  rw [List.all_map, List.all_eq_true]
  intro b _
  have := UInt8.toNat_lt b
  simp; omega
theorem bytesV_bI (a : List UInt8) : Tx.bytesV (bI a) = mk a := by
  unfold Tx.bytesV Tx.byL bI mk
  rw [List.map_map]
  congr 2
  refine (List.map_congr_left fun b _ => ?_).trans (List.map_id a)
  show UInt8.ofNat ((b.toNat : Int)).toNat = b
  simp
theorem wStr_ok {a : List UInt8} {s : ByteArray} (h : a.length + (bl s).length ≤ 140737488355328) : Ok (fun r => r.1.1 = bI (a ++ bl s)) (wStr (bI a, ()) (s, ())) := by
  rw [wStr_eq]
  show Ok _ (wStr' itN (bI a) s)
  unfold wStr'
  refine Ok.bind (P := fun r => r.1.1 = bI a) (Ok.some rfl) fun r hr => ?_
  rw [hr]
  refine Ok.chk ?_ (Ok.some ?_)
  · rw [bI_len]; exact decide_eq_true h
  · show bI a ++ bytesI s = _
    rw [bI_app]; rfl
theorem wByte_ok {a : List UInt8} {c : UInt8} (h : a.length + 1 ≤ 100000000) : Ok (fun r => r.1.1 = bI (a ++ [c])) (wByte (bI a, ()) ((c.toNat : Int), ())) := by
  rw [wByte_eq]
  show Ok _ (wByte' itN (bI a) (c.toNat : Int))
  unfold wByte'
  refine Ok.bind (P := fun r => r.1.1 = bI a) (Ok.some rfl) fun r hr => ?_
  rw [hr]
  refine Ok.chk ?_ (Ok.some ?_)
  · rw [bI_len]; unfold fitA; simp; omega
  · show bI a ++ [(c.toNat : Int)] = _
    rw [bI_app]; rfl
def NumOk (n : Int) : Prop := 0 ≤ n ∧ n ≤ 999999999
def numL (n : Int) : List UInt8 := 32 :: digs n
def rowL (w : List UInt8) (ns : List Int) : List UInt8 := (w ++ ns.flatMap numL) ++ [10]
theorem nums_len : ∀ (ns : List Int), (∀ n ∈ ns, NumOk n) → (ns.flatMap numL).length ≤ 10 * ns.length
  | [], _ => Nat.le_refl _
  | n :: ns, h => by
    have h1 := h n (List.mem_cons_self ..)
    have h2 := digs_len h1.1 h1.2
    have h3 := nums_len ns fun m hm => h m (List.mem_cons_of_mem _ hm)
    simp only [List.flatMap_cons, List.length_append, numL, List.length_cons]
    omega
theorem take_snoc {α : Type} {l : List α} {k : Nat} {d : α} (h : k < l.length) : l.take (k + 1) = l.take k ++ [l.getD k d] := by
  rw [List.take_succ, List.getD_eq_getElem?_getD, List.getElem?_eq_getElem h]; rfl
theorem flat_snoc {α : Type} {l : List α} {k : Nat} {d : α} (f : α → List UInt8) (h : k < l.length) : (l.take (k + 1)).flatMap f = (l.take k).flatMap f ++ f (l.getD k d) := by
  rw [take_snoc (d := d) h, List.flatMap_append]; simp
theorem okI_of {n : Int} (h : NumOk n) : Tx.okI n = true := by
  unfold Tx.okI
  obtain ⟨h1, h2⟩ := h
  simp; omega
theorem row_ok {a : List UInt8} {w : ByteArray} {ns : List Int} (hn : ∀ n ∈ ns, NumOk n) (ha : a.length ≤ 1000000) (hw : (bl w).length ≤ 1000) (hl : ns.length ≤ 1000) : Ok (fun r => r.1.1 = bI (a ++ rowL (bl w) ns)) (row (bI a, ()) (w, ns, ())) := by
  rw [row_eq]
  show Ok _ (row' itN (bI a) w ns)
  unfold row'
  refine Ok.bind (wStr_ok (by omega)) fun r hr => ?_
  refine Ok.rounds (inv := fun v => ∃ j : Nat, j ≤ ns.length ∧ v.1.2.1 = (j : Int) ∧ v.2.1.2.1 = bI (a ++ (bl w ++ (ns.take j).flatMap numL))) (μ := fun v => ns.length - v.1.2.1.toNat) (by show ns.length - 0 < FUEL; unfold FUEL; omega) ⟨0, Nat.zero_le _, rfl, by rw [hr]; simp⟩ ?_
  rintro v kn ⟨j, hj, e1, e2⟩ hk
  rw [e1, e2]
  unfold row_L2
  by_cases hlt : j < ns.length
  · rw [decide_eq_true (by omega : (j : Int) < (ns.length : Int))]
    refine Ok.chk (show (decide (0 ≤ (j : Int)) && true) = true by simp) ?_
    rw [show ((j : Int)).toNat = j by omega]
    have hmem : ns.getD j 0 ∈ ns := by rw [List.getD_eq_getElem?_getD, List.getElem?_eq_getElem hlt]; exact List.getElem_mem _
    have hno := hn _ hmem
    have hdl := digs_len hno.1 hno.2
    refine Ok.bind (P := fun r => r = mk (digs (ns.getD j 0))) ⟨_, by unfold Tx.itoaP; rw [okI_of hno]; rfl, rfl⟩ fun r2 hr2 => ?_
    subst hr2
    have hcat : bl (catS ⟨#[32]⟩ (mk (digs (ns.getD j 0)))) = numL (ns.getD j 0) := rfl
    have hsz : (mk (digs (ns.getD j 0))).size = (digs (ns.getD j 0)).length := by show (digs (ns.getD j 0)).toArray.size = _; simp
    refine Ok.chk (by rw [hsz]; show decide (1 + _ ≤ _) = true; exact decide_eq_true (by omega)) ?_
    have hpre := nums_len (ns.take j) fun n h => hn n (List.mem_of_mem_take h)
    refine Ok.bind (wStr_ok (by rw [hcat]; simp only [List.length_append, numL, List.length_cons]; rw [List.length_take] at hpre; omega)) fun r3 hr3 => ?_
    refine hk _ ⟨j + 1, hlt, ?_, ?_⟩ ?_
    · show w64 ((j : Int) + 1) = _
      rw [w64_id (by omega) (by omega)]; push_cast; rfl
    · show r3.1.1 = _
      rw [hr3, hcat, flat_snoc (d := 0) numL hlt]
      simp only [List.append_assoc]
    · show ns.length - (w64 ((j : Int) + 1)).toNat < ns.length - v.1.2.1.toNat
      rw [w64_id (by omega) (by omega), e1]; omega
  · have hjn : j = ns.length := by omega
    rw [decide_eq_false (by omega : ¬ (j : Int) < (ns.length : Int))]
    have hpre := nums_len ns hn
    show Ok _ ((wByte _ _).bind _)
    refine Ok.bind (wByte_ok (c := 10) (by rw [hjn, List.take_length]; simp only [List.length_append]; omega)) fun r4 hr4 => Ok.some ?_
    show r4.1.1 = _
    rw [hr4, hjn, List.take_length]
    unfold rowL
    simp only [List.append_assoc]
end Go.Proofs.Tp04
namespace Go.Proofs.Tp04
open Go Go.Ab
set_option linter.all false
set_option maxRecDepth 100000
def wRoad : List UInt8 := [114, 111, 97, 100]
def wTruck : List UInt8 := [116, 114, 117, 99, 107]
def wHold : List UInt8 := [104, 111, 108, 100]
def wUp : List UInt8 := [117, 112]
def wDown : List UInt8 := [100, 111, 119, 110]
def wayL (w : Int) : List UInt8 := if w = 1 then wUp else wDown
def holdL (h : Hold) : List UInt8 := rowL wHold [h.At, h.Until]
def headL (t : Truck) : List UInt8 := rowL (wTruck ++ 32 :: wayL t.Way) [t.Start, t.Pace.Lo, t.Pace.Hi]
def truckL (t : Truck) : List UInt8 := headL t ++ t.Holds.flatMap holdL
def roadL (c : Convoy) : List UInt8 := rowL wRoad [c.Length, c.Gap, c.Fails]
def textL (c : Convoy) : List UInt8 := roadL c ++ c.Trucks.flatMap truckL
structure NumT (t : Truck) : Prop where
  way : t.Way = 1 ∨ t.Way = 2
  s : NumOk t.Start
  l : NumOk t.Pace.Lo
  h : NumOk t.Pace.Hi
  hs : ∀ x ∈ t.Holds, NumOk x.At ∧ NumOk x.Until
structure NumC (c : Convoy) : Prop where
  l : NumOk c.Length
  g : NumOk c.Gap
  f : NumOk c.Fails
  t : ∀ t ∈ c.Trucks, NumT t
theorem getD_mem' {α : Type} {l : List α} {d : α} {i : Nat} (h : i < l.length) : l.getD i d ∈ l := by
  rw [List.getD_eq_getElem?_getD, List.getElem?_eq_getElem h]; exact List.getElem_mem _
theorem flat_take {α : Type} (f : α → List UInt8) : ∀ (l : List α) (k : Nat), ((l.take k).flatMap f).length ≤ (l.flatMap f).length
  | [], k => by simp
  | x :: l, 0 => by simp
  | x :: l, k + 1 => by
    simp only [List.take_succ_cons, List.flatMap_cons, List.length_append]
    have := flat_take f l k
    omega
theorem two_ok {a b : Int} (ha : NumOk a) (hb : NumOk b) : ∀ n ∈ [a, b], NumOk n := fun n h => by
  rcases List.mem_cons.1 h with rfl | h
  · exact ha
  · rcases List.mem_cons.1 h with rfl | h
    · exact hb
    · cases h
theorem three_ok {a b c : Int} (ha : NumOk a) (hb : NumOk b) (hc : NumOk c) : ∀ n ∈ [a, b, c], NumOk n := fun n h => by
  rcases List.mem_cons.1 h with rfl | h
  · exact ha
  · exact two_ok hb hc n h
theorem idx_ok {k n : Nat} (h : k < n) : (decide (0 ≤ (k : Int)) && decide ((k : Int) < (n : Int))) = true := by
  rw [decide_eq_true (by omega : (0 : Int) ≤ k), decide_eq_true (by omega : (k : Int) < n)]; rfl
theorem holds_ok {c : Convoy} {k : Nat} {P : ByteArray × Int → Prop} {kn_ : Int → List Int → Option (ByteArray × Int)} {a : List UInt8} {t : Truck} (ht : c.Trucks.getD k dfltTruck = t) (hh : ∀ x ∈ t.Holds, NumOk x.At ∧ NumOk x.Until) (ha : a.length + (t.Holds.flatMap holdL).length ≤ 20000) (hm : t.Holds.length ≤ 1000000000)
    (hk : Ok P (kn_ (w64 ((k : Int) + 1)) (bI (a ++ t.Holds.flatMap holdL)))) : Ok P (itN _ (fun (v_0 : (Unit × Unit × Int × Unit) × ((Unit × (List Int) × Unit) × Unit)) kn => Write_L12 c (k : Int) kn_ v_0.1.2.2.1 v_0.2.1.2.1 (fun y0 y1 => kn (((), (), y0, ()), (((), y1, ()), ())))) (((), (), 0, ()), (((), bI a, ()), ()))) := by
  refine Ok.rounds (inv := fun v => ∃ j : Nat, j ≤ t.Holds.length ∧ v.1.2.2.1 = (j : Int) ∧ v.2.1.2.1 = bI (a ++ (t.Holds.take j).flatMap holdL)) (μ := fun v => t.Holds.length - v.1.2.2.1.toNat) (by show t.Holds.length - 0 < FUEL; unfold FUEL; omega) ⟨0, Nat.zero_le _, rfl, by simp⟩ ?_
  rintro v kn ⟨j, hj, e1, e2⟩ hkn
  rw [e1, e2]
  unfold Write_L12
  rw [show ((k : Int)).toNat = k by omega, show ((j : Int)).toNat = j by omega, ht]
  by_cases hlt : j < t.Holds.length
  · refine Ok.ite (fun _ => ?_) (fun q => absurd (decide_eq_true (by omega : (j : Int) < (t.Holds.length : Int))) (by rw [q]; decide))
    refine Ok.chk (idx_ok hlt) ?_
    have hn := hh _ (getD_mem' (d := dfltHold) hlt)
    have hp := flat_take holdL t.Holds j
    refine Ok.bind (row_ok (a := a ++ (t.Holds.take j).flatMap holdL) (w := ⟨#[104, 111, 108, 100]⟩) (two_ok hn.1 hn.2) (by rw [List.length_append]; omega) (by show 4 ≤ 1000; omega) (by show 2 ≤ 1000; omega)) fun r hr => ?_
    refine hkn _ ⟨j + 1, hlt, ?_, ?_⟩ ?_
    · show w64 ((j : Int) + 1) = _
      rw [w64_id (by omega) (by omega)]; push_cast; rfl
    · show r.1.1 = _
      rw [hr, flat_snoc (d := dfltHold) holdL hlt]
      simp only [List.append_assoc]
      rfl
    · show t.Holds.length - (w64 ((j : Int) + 1)).toNat < t.Holds.length - v.1.2.2.1.toNat
      rw [w64_id (by omega) (by omega), e1]; omega
  · have hjn : j = t.Holds.length := by omega
    refine Ok.ite (fun q => absurd (of_decide_eq_true q) (by omega)) (fun _ => ?_)
    rw [hjn, List.take_length]
    exact hk
theorem L12_2 : @Write_L12__2 = @Write_L12 := rfl
theorem L12_3 : @Write_L12__3 = @Write_L12 := rfl
theorem Write_text {c : Convoy} (hc : pCheck c = some 0) (hn : NumC c) (hl : (textL c).length ≤ 20000) : Write c = some (mk (textL c), 0) := by
  have key : Ok (fun r => r = (mk (textL c), 0)) (Write c) := by
    rw [Write_eq]
    unfold Write'
    rw [hc]
    show Ok _ ((row _ _).bind _)
    have hR : (roadL c).length + (c.Trucks.flatMap truckL).length ≤ 20000 := by unfold textL at hl; rwa [List.length_append] at hl
    refine Ok.bind (row_ok (a := []) (w := ⟨#[114, 111, 97, 100]⟩) (three_ok hn.l hn.g hn.f) (Nat.zero_le _) (by show 4 ≤ 1000; omega) (by show 3 ≤ 1000; omega)) fun r hr => ?_
    have hr : r.1.1 = bI (roadL c) := hr
    have hcnt : c.Trucks.length ≤ (c.Trucks.flatMap truckL).length := by
      have : ∀ l : List Truck, l.length ≤ (l.flatMap truckL).length := fun l => by
        induction l with
        | nil => simp
        | cons x l ih =>
          have : 1 ≤ (truckL x).length := by unfold truckL headL rowL; simp; omega
          simp only [List.flatMap_cons, List.length_append, List.length_cons]; omega
      exact this _
    refine Ok.rounds (inv := fun v => ∃ k : Nat, k ≤ c.Trucks.length ∧ v.1.2.2.1 = (k : Int) ∧ v.2.1.2.1 = bI (roadL c ++ (c.Trucks.take k).flatMap truckL)) (μ := fun v => c.Trucks.length - v.1.2.2.1.toNat) (by show c.Trucks.length - 0 < FUEL; unfold FUEL; omega) ⟨0, Nat.zero_le _, rfl, (show r.1.1 = _ from hr.trans (by simp))⟩ ?_
    rintro v kn ⟨k, hk, e1, e2⟩ hkn
    rw [e1, e2]
    unfold Write_L8
    rw [show ((k : Int)).toNat = k by omega]
    by_cases hlt : k < c.Trucks.length
    · refine Ok.ite (fun _ => ?_) (fun q => absurd (decide_eq_true (by omega : (k : Int) < (c.Trucks.length : Int))) (by rw [q]; decide))
      refine Ok.chk (idx_ok hlt) ?_
      have ht := hn.t _ (getD_mem' (d := dfltTruck) hlt)
      generalize hT : c.Trucks.getD k dfltTruck = t at ht
      have hp : (roadL c ++ (c.Trucks.take k).flatMap truckL ++ truckL t).length ≤ 20000 := by
        have := flat_take truckL c.Trucks (k + 1)
        rw [flat_snoc (d := dfltTruck) truckL hlt, hT, List.length_append] at this
        simp only [List.length_append]; omega
      have hnum := three_ok ht.s ht.l ht.h
      have hp2 : (roadL c ++ (c.Trucks.take k).flatMap truckL ++ headL t).length + (t.Holds.flatMap holdL).length ≤ 20000 := by
        have e : (truckL t).length = (headL t).length + (t.Holds.flatMap holdL).length := List.length_append
        simp only [List.length_append] at hp ⊢; omega
      have hhn : t.Holds.length ≤ (t.Holds.flatMap holdL).length := by
        have : ∀ l : List Hold, l.length ≤ (l.flatMap holdL).length := fun l => by
          induction l with
          | nil => simp
          | cons x l ih =>
            have : 1 ≤ (holdL x).length := by unfold holdL rowL; simp; omega
            simp only [List.flatMap_cons, List.length_append, List.length_cons]; omega
        exact this _
      have hend : ∀ r2 : List Int, r2 = bI (roadL c ++ (c.Trucks.take k).flatMap truckL ++ headL t) → Ok (fun r => r = (mk (textL c), 0)) (itN _ (fun (v_0 : (Unit × Unit × Int × Unit) × ((Unit × (List Int) × Unit) × Unit)) kn2 => Write_L12 c (k : Int) (fun y0 y1 => kn (((), (), y0, ()), (((), y1, ()), ()))) v_0.1.2.2.1 v_0.2.1.2.1 (fun y0 y1 => kn2 (((), (), y0, ()), (((), y1, ()), ())))) (((), (), 0, ()), (((), r2, ()), ()))) := fun r2 e => by
        subst e
        refine holds_ok hT ht.hs hp2 (by simp only [List.length_append] at hp2; omega) ?_
        refine hkn _ ⟨k + 1, hlt, ?_, ?_⟩ ?_
        · show w64 ((k : Int) + 1) = _
          rw [w64_id (by omega) (by omega)]; push_cast; rfl
        · show bI _ = _
          rw [flat_snoc (d := dfltTruck) truckL hlt, hT]
          unfold truckL
          simp only [List.append_assoc]
        · show c.Trucks.length - (w64 ((k : Int) + 1)).toNat < c.Trucks.length - v.1.2.2.1.toNat
          rw [w64_id (by omega) (by omega), e1]; omega
      have hpl : (roadL c ++ (c.Trucks.take k).flatMap truckL).length ≤ 1000000 := by simp only [List.length_append] at hp ⊢; omega
      rcases ht.way with hw | hw
      · rw [hw, L12_2, L12_3]
        refine Ok.ite (fun q => absurd q (by decide)) (fun _ => Ok.ite (fun _ => ?_) (fun q => absurd q (by decide)))
        refine Ok.chk (by decide) ?_
        refine Ok.bind (row_ok hnum hpl (by show 8 ≤ 1000; omega) (by show 3 ≤ 1000; omega)) fun r2 hr2 => hend _ (hr2.trans ?_)
        unfold headL wayL
        rw [hw]; rfl
      · rw [hw, L12_2, L12_3]
        refine Ok.ite (fun q => absurd q (by decide)) (fun _ => Ok.ite (fun q => absurd q (by decide)) (fun _ => Ok.ite (fun _ => ?_) (fun q => absurd q (by decide))))
        refine Ok.chk (by decide) ?_
        refine Ok.bind (row_ok hnum hpl (by show 10 ≤ 1000; omega) (by show 3 ≤ 1000; omega)) fun r2 hr2 => hend _ (hr2.trans ?_)
        unfold headL wayL
        rw [hw]; rfl
    · have hkn' : k = c.Trucks.length := by omega
      refine Ok.ite (fun q => absurd (of_decide_eq_true q) (by omega)) (fun _ => ?_)
      rw [hkn', List.take_length]
      show Ok _ ((bLen (bI (textL c), ()) ()).bind _)
      refine Ok.bind (P := fun r => r.1.1 = bI (textL c) ∧ r.2 = ((textL c).length : Int)) ⟨_, by rw [bLen_eq]; rfl, rfl, by rw [bI_len]⟩ fun r9 h9 => ?_
      rw [h9.1, h9.2]
      refine Ok.ite (fun q => absurd (of_decide_eq_true q) (by omega)) (fun _ => ?_)
      refine Ok.bind (P := fun r => r.2 = mk (textL c)) ⟨((), mk (textL c)), by unfold strP; rw [okBy_bI, bytesV_bI]; rfl, rfl⟩ fun r10 h10 => Ok.some ?_
      rw [h10]
  obtain ⟨r, h1, rfl⟩ := key
  exact h1
end Go.Proofs.Tp04
