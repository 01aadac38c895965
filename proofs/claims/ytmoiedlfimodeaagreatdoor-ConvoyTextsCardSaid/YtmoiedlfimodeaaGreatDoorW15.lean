/- Walks by computing: what each function of the program that the laws reach gives for what it gets, as plain Lean, and that it is so; without a condition but those that stand in each theorem. -/
import Derived.Test.YtmoiedlfimodeaaGreatDoorW1
import Derived.Test.YtmoiedlfimodeaaGreatDoorW2
import Derived.Test.YtmoiedlfimodeaaGreatDoorW3
import Derived.Test.YtmoiedlfimodeaaGreatDoorW4
import Derived.Test.YtmoiedlfimodeaaGreatDoorW5
import Derived.Test.YtmoiedlfimodeaaGreatDoorW6
import Derived.Test.YtmoiedlfimodeaaGreatDoorW7
import Derived.Test.YtmoiedlfimodeaaGreatDoorW8
import Derived.Test.YtmoiedlfimodeaaGreatDoorW9
import Derived.Test.YtmoiedlfimodeaaGreatDoorW10
import Derived.Test.YtmoiedlfimodeaaGreatDoorW11
import Derived.Test.YtmoiedlfimodeaaGreatDoorW12
import Derived.Test.YtmoiedlfimodeaaGreatDoorW13
import Derived.Test.YtmoiedlfimodeaaGreatDoorW14
set_option linter.all false
namespace Go.Proofs.Kt05
open Go Go.Ab
open Go.Proofs.YtmoiedlfimodeaaGreatDoor (iseat)
set_option linter.all false
set_option maxRecDepth 100000
noncomputable section
def in_' (it : It Bool) (n : Int) (low : Int) (high : Int) : Option Bool :=
 bif (decide (low ≤ n)) then
 some (decide (n ≤ high))
 else
 some false
def in_ : Int → Int → Int → Option Bool := (fun n low high => in_' itN n low high)
theorem in__eq (n : Int) (low : Int) (high : Int) : in_ n low high = in_' itN n low high := rfl
def E45 : FEnv iseat := ⟨⟨15, [], [], [], [], [], [], [], [], [], [], [], [], true⟩, []⟩
theorem e45 (it : It Bool) (n : Int) (low : Int) (high : Int) : fnRun (ts := [.bool]) it E45 (bodyOf Tryz.f45) Tryz.f45.results.toList (encA [.int .i64, .int .i64, .int .i64] (n, low, high, ())) = in_' it n low high := by kernel_rfl
def sp45 : FnSpec iseat.toSeat := mkSpec iseat.toSeat 45 [.int .i64, .int .i64, .int .i64] [.bool] true (fun a => in_ a.1 a.2.1 a.2.2.1) (fun a x hx h h' => fn_contract (E := E45) Tryz.func45 (by kernel_rfl) (by kernel_rfl) (by kernel_rfl) (by kernel_rfl) rfl ((e45 itN a.1 a.2.1 a.2.2.1).trans ((in__eq a.1 a.2.1 a.2.2.1).symm.trans hx)) h h') (fun _ x => rfl)
def along' (it : It Int) (r : Ride) (metre : Int) : Option Int :=
 bif (r.Truck.Way == 2) then
 some (w64 (r.length - metre))
 else
 some metre
def along : Ride → Int → Option Int := (fun r metre => along' itN r metre)
theorem along_eq (r : Ride) (metre : Int) : along r metre = along' itN r metre := rfl
def E65 : FEnv iseat := ⟨⟨14, [], [], [], [], [], [], [], [], [], [], [], [], true⟩, []⟩
theorem e65 (it : It Int) (r : Ride) (metre : Int) : fnRun (ts := [.int .i64]) it E65 (bodyOf Tryz.f65) Tryz.f65.results.toList (encA [.Ride, .int .i64] (r, metre, ())) = along' it r metre := by kernel_rfl
def sp65 : FnSpec iseat.toSeat := mkSpec iseat.toSeat 65 [.Ride, .int .i64] [.int .i64] true (fun a => along a.1 a.2.1) (fun a x hx h h' => fn_contract (E := E65) Tryz.func65 (by kernel_rfl) (by kernel_rfl) (by kernel_rfl) (by kernel_rfl) rfl ((e65 itN a.1 a.2.1).trans ((along_eq a.1 a.2.1).symm.trans hx)) h h') (fun _ x => rfl)
def stop_L2 (r : Ride) (minute : Int) (x11 : Int) (kn_ : Int → Option Int) : Option Int :=
 bif (decide (x11 < (r.Truck.Holds.length : Int))) then
 chk (decide (0 ≤ x11) && decide (x11 < (r.Truck.Holds.length : Int))) <|
 bif (decide ((r.Truck.Holds.getD x11.toNat dfltHold).Until > minute)) then
 (along r ((r.Truck.Holds.getD x11.toNat dfltHold).At)).bind fun r2 =>
 some r2
 else
 kn_ (w64 (x11 + 1))
 else
 some r.length
def stop' (it : It Int) (r : Ride) (minute : Int) : Option Int :=
 it _ (fun (v_0 : (Unit × Int × Unit) × (Unit)) kn => stop_L2 r minute v_0.1.2.1 (fun y0 => kn (((), y0, ()), (())))) (((), 0, ()), (()))
def stop : Ride → Int → Option Int := (fun r minute => stop' itN r minute)
theorem stop_eq (r : Ride) (minute : Int) : stop r minute = stop' itN r minute := rfl
def E91 : FEnv iseat := ⟨⟨26, [sp65], [], [], [], [], [], [], [], [], [], [], [], true⟩, [(2, ⟨⟨[(2, .bx 2 0), (11, .v (.int .i64))], []⟩, [1, 9, 10], [2], []⟩)]⟩
theorem e91 (it : It Int) (r : Ride) (minute : Int) : fnRun (ts := [.int .i64]) it E91 (bodyOf Tryz.f91) Tryz.f91.results.toList (encA [.Ride, .int .i64] (r, minute, ())) = stop' it r minute := by kernel_rfl
def sp91 : FnSpec iseat.toSeat := mkSpec iseat.toSeat 91 [.Ride, .int .i64] [.int .i64] true (fun a => stop a.1 a.2.1) (fun a x hx h h' => fn_contract (E := E91) Tryz.func91 (by kernel_rfl) (by kernel_rfl) (by kernel_rfl) (by kernel_rfl) rfl ((e91 itN a.1 a.2.1).trans ((stop_eq a.1 a.2.1).symm.trans hx)) h h') (fun _ x => rfl)
def minutesI_L2 (a0 : Ride) (t : Int) (gone_Lo : Int) (gone_Hi : Int) (kn_ : Int → Int → Int → Option (List (Int × Span × Unit))) : Option (List (Int × Span × Unit)) :=
 consM (t, (⟨gone_Lo, gone_Hi⟩ : Span), ())
 (some [])
 (bif (decide (gone_Lo < a0.length)) then
 (stop a0 t).bind fun r =>
 kn_ (w64 (t + 1)) (min (w64 (gone_Lo + a0.Truck.Pace.Lo)) r) (min (w64 (gone_Hi + a0.Truck.Pace.Hi)) r)
 else
 some [])
def minutesI' (it : It (List (Int × Span × Unit))) (a0 : Ride) : Option (List (Int × Span × Unit)) :=
 it _ (fun (v_0 : (Unit × Unit × Int × Unit) × ((Int × Int × Unit) × Unit)) kn => minutesI_L2 a0 v_0.1.2.2.1 v_0.2.1.1 v_0.2.1.2.1 (fun y0 y1 y2 => kn (((), (), y0, ()), ((y1, y2, ()), ())))) (((), (), a0.Truck.Start, ()), ((0, 0, ()), ()))
def minutesI : Ride → Option (List (Int × Span × Unit)) := (fun a0 => minutesI' itN a0)
theorem minutesI_eq (a0 : Ride) : minutesI a0 = minutesI' itN a0 := rfl
def E90 : FEnv iseat := ⟨⟨44, [sp91], [], [], [], [], [], [], [], [], [], [], [YL], true⟩, [(2, ⟨⟨[(0, .yl YL), (3, .bx 3 0), (4, .v (.int .i64))], [(3, [.v (.int .i64), .v (.int .i64)])]⟩, [1], [], []⟩)]⟩
theorem e90 (it : It (List (Int × Span × Unit))) (a0 : Ride) : fnRunI [.int .i64, .Span] it E90 (bodyOf Tryz.f90) (encA [.ptr .Ride] (a0, ())) = minutesI' it a0 := by kernel_rfl
def it90 : ItSpec iseat.toSeat := mkItSpec iseat.toSeat 90 [.ptr .Ride] [.int .i64, .Span] rfl (fun a => minutesI a.1) (fun a x hx h => it_contract (Z := iseat) (cts := [.ptr .Ride]) (E := E90) Tryz.func90 (by kernel_rfl) (by kernel_rfl) (by kernel_rfl) (by kernel_rfl) rfl rfl ((e90 itN a.1).trans ((minutesI_eq a.1).symm.trans hx)) h)
def minutes' (it : It Ride) (r : Ride) : Option Ride :=
 some r
def minutes : Ride → Option Ride := (fun r => minutes' itN r)
theorem minutes_eq (r : Ride) : minutes r = minutes' itN r := rfl
def E75 : FEnv iseat := ⟨⟨4, [], [], [], [], [], [], [], [], [], [], [], [], true⟩, []⟩
theorem e75 (it : It Ride) (r : Ride) : fnRunC 90 .Ride it E75 (bodyOf Tryz.f75) Tryz.f75.results.toList (encA [.Ride] (r, ())) = minutes' it r := by kernel_rfl
def sp75 : FnSpec iseat.toSeat := mkSpec iseat.toSeat 75 [.Ride] [.clo 90 .Ride] false (fun a => minutes a.1) (fun a x hx h h' => fn_contractC (E := E75) Tryz.func75 (by kernel_rfl) (by kernel_rfl) (by kernel_rfl) (by kernel_rfl) rfl ((e75 itN a.1).trans ((minutes_eq a.1).symm.trans hx)) h h') (fun h => nomatch h)
def trackOf_E3 (t_ride_Truck_Way : Int) (t_ride_Truck_Start : Int) (t_ride_Truck_Pace_Lo : Int) (t_ride_Truck_Pace_Hi : Int) (t_ride_Truck_Holds : List Hold) (t_ride_length : Int) (t_gone : List Span) : Option Track :=
 some (⟨⟨⟨t_ride_Truck_Way, t_ride_Truck_Start, ⟨t_ride_Truck_Pace_Lo, t_ride_Truck_Pace_Hi⟩, t_ride_Truck_Holds⟩, t_ride_length⟩, t_gone⟩ : Track)
def trackOf_L3 (t_ride_Truck_Way : Int) (t_ride_Truck_Start : Int) (t_ride_Truck_Pace_Lo : Int) (t_ride_Truck_Pace_Hi : Int) (t_ride_Truck_Holds : List Hold) (t_ride_length : Int) (t_gone : List Span) (x10 : Int) (x11 : Span) (kn_ : Int → Int → Int → Int → (List Hold) → Int → (List Span) → Option Track) : Option Track :=
 chk (fitA (t_gone.length + ([x11] : List Span).length) 16) <|
 kn_ t_ride_Truck_Way t_ride_Truck_Start t_ride_Truck_Pace_Lo t_ride_Truck_Pace_Hi t_ride_Truck_Holds t_ride_length (t_gone ++ ([x11] : List Span))
def trackOf' (it : It Track) (r : Ride) : Option Track :=
 (minutes r).bind fun r2 =>
 (minutesI r2).bind fun items => it _ (fun (v_0 : ((Unit × Unit × Unit) × ((Int × Int × Int × Int × (List Hold) × Int × (List Span) × Unit) × Unit)) × List (Int × Span × Unit)) kn => match v_0.2 with
 | [] => trackOf_E3 v_0.1.2.1.1 v_0.1.2.1.2.1 v_0.1.2.1.2.2.1 v_0.1.2.1.2.2.2.1 v_0.1.2.1.2.2.2.2.1 v_0.1.2.1.2.2.2.2.2.1 v_0.1.2.1.2.2.2.2.2.2.1
 | a :: l => trackOf_L3 v_0.1.2.1.1 v_0.1.2.1.2.1 v_0.1.2.1.2.2.1 v_0.1.2.1.2.2.2.1 v_0.1.2.1.2.2.2.2.1 v_0.1.2.1.2.2.2.2.2.1 v_0.1.2.1.2.2.2.2.2.2.1 a.1 a.2.1 (fun y0 y1 y2 y3 y4 y5 y6 => kn ((((), (), ()), ((y0, y1, y2, y3, y4, y5, y6, ()), ())), l))) ((((), (), ()), ((r.Truck.Way, r.Truck.Start, r.Truck.Pace.Lo, r.Truck.Pace.Hi, r.Truck.Holds, r.length, [], ()), ())), items)
def trackOf : Ride → Option Track := (fun r => trackOf' itN r)
theorem trackOf_eq (r : Ride) : trackOf r = trackOf' itN r := rfl
def E60 : FEnv iseat := ⟨⟨19, [sp75], [], [], [], [it90], [], [], [], [], [], [15], [], true⟩, [(3, ⟨⟨[(2, .bx 2 0), (3, .bx 3 0)], [(3, [.v (.int .i64), .v (.int .i64), .v (.int .i64), .v (.int .i64), .v (.sl .Hold), .v (.int .i64), .os 16 42 .Span])]⟩, [9], [2], []⟩)]⟩
theorem e60 (it : It Track) (r : Ride) : fnRun (ts := [.Track]) it E60 (bodyOf Tryz.f60) Tryz.f60.results.toList (encA [.Ride] (r, ())) = trackOf' it r := by kernel_rfl
def sp60 : FnSpec iseat.toSeat := mkSpec iseat.toSeat 60 [.Ride] [.Track] false (fun a => trackOf a.1) (fun a x hx h h' => fn_contract (E := E60) Tryz.func60 (by kernel_rfl) (by kernel_rfl) (by kernel_rfl) (by kernel_rfl) rfl ((e60 itN a.1).trans ((trackOf_eq a.1).symm.trans hx)) h h') (fun h => nomatch h)
def rideOf' (it : It Ride) (c : Convoy) (truck : Int) (fails : Bool) : Option Ride :=
 chk (decide (0 ≤ truck) && decide (truck < (c.Trucks.length : Int))) <|
 bif fails then
 some (⟨⟨(c.Trucks.getD truck.toNat dfltTruck).Way, (c.Trucks.getD truck.toNat dfltTruck).Start, (c.Trucks.getD truck.toNat dfltTruck).Pace, []⟩, c.Length⟩ : Ride)
 else
 some (⟨(c.Trucks.getD truck.toNat dfltTruck), c.Length⟩ : Ride)
def rideOf : Convoy → Int → Bool → Option Ride := (fun c truck fails => rideOf' itN c truck fails)
theorem rideOf_eq (c : Convoy) (truck : Int) (fails : Bool) : rideOf c truck fails = rideOf' itN c truck fails := rfl
def E61 : FEnv iseat := ⟨⟨20, [], [], [], [], [], [], [], [], [], [], [], [], true⟩, []⟩
theorem e61 (it : It Ride) (c : Convoy) (truck : Int) (fails : Bool) : fnRun (ts := [.Ride]) it E61 (bodyOf Tryz.f61) Tryz.f61.results.toList (encA [.Convoy, .int .i64, .bool] (c, truck, fails, ())) = rideOf' it c truck fails := by kernel_rfl
def sp61 : FnSpec iseat.toSeat := mkSpec iseat.toSeat 61 [.Convoy, .int .i64, .bool] [.Ride] false (fun a => rideOf a.1 a.2.1 a.2.2.1) (fun a x hx h h' => fn_contract (E := E61) Tryz.func61 (by kernel_rfl) (by kernel_rfl) (by kernel_rfl) (by kernel_rfl) rfl ((e61 itN a.1 a.2.1 a.2.2.1).trans ((rideOf_eq a.1 a.2.1 a.2.2.1).symm.trans hx)) h h') (fun h => nomatch h)
def tat' (it : It Span) (t : Track) (minute : Int) : Option Span :=
 bif (decide ((min (w64 (minute - t.ride.Truck.Start)) (w64 ((t.gone.length : Int) - 1))) < 0)) then
 some (⟨0, 0⟩ : Span)
 else
 chk (decide (0 ≤ (min (w64 (minute - t.ride.Truck.Start)) (w64 ((t.gone.length : Int) - 1)))) && decide ((min (w64 (minute - t.ride.Truck.Start)) (w64 ((t.gone.length : Int) - 1))) < (t.gone.length : Int))) <|
 some (t.gone.getD (min (w64 (minute - t.ride.Truck.Start)) (w64 ((t.gone.length : Int) - 1))).toNat dfltSpan)
def tat : Track → Int → Option Span := (fun t minute => tat' itN t minute)
theorem tat_eq (t : Track) (minute : Int) : tat t minute = tat' itN t minute := rfl
def E107 : FEnv iseat := ⟨⟨25, [], [], [], [], [], [], [], [], [], [], [], [], true⟩, []⟩
theorem e107 (it : It Span) (t : Track) (minute : Int) : fnRun (ts := [.Span]) it E107 (bodyOf Tryz.f107) Tryz.f107.results.toList (encA [.Track, .int .i64] (t, minute, ())) = tat' it t minute := by kernel_rfl
def sp107 : FnSpec iseat.toSeat := mkSpec iseat.toSeat 107 [.Track, .int .i64] [.Span] true (fun a => tat a.1 a.2.1) (fun a x hx h h' => fn_contract (E := E107) Tryz.func107 (by kernel_rfl) (by kernel_rfl) (by kernel_rfl) (by kernel_rfl) rfl ((e107 itN a.1 a.2.1).trans ((tat_eq a.1 a.2.1).symm.trans hx)) h h') (fun _ x => rfl)
def road' (it : It Span) (t : Track) (gone : Span) : Option Span :=
 (along t.ride gone.Lo).bind fun r =>
 (along t.ride gone.Hi).bind fun r2 =>
 some (⟨(min r r2), (max r r2)⟩ : Span)
def road : Track → Span → Option Span := (fun t gone => road' itN t gone)
theorem road_eq (t : Track) (gone : Span) : road t gone = road' itN t gone := rfl
def E108 : FEnv iseat := ⟨⟨24, [sp65], [], [], [], [], [], [], [], [], [], [], [], true⟩, []⟩
theorem e108 (it : It Span) (t : Track) (gone : Span) : fnRun (ts := [.Span]) it E108 (bodyOf Tryz.f108) Tryz.f108.results.toList (encA [.Track, .Span] (t, gone, ())) = road' it t gone := by kernel_rfl
def sp108 : FnSpec iseat.toSeat := mkSpec iseat.toSeat 108 [.Track, .Span] [.Span] true (fun a => road a.1 a.2.1) (fun a x hx h h' => fn_contract (E := E108) Tryz.func108 (by kernel_rfl) (by kernel_rfl) (by kernel_rfl) (by kernel_rfl) rfl ((e108 itN a.1 a.2.1).trans ((road_eq a.1 a.2.1).symm.trans hx)) h h') (fun _ x => rfl)
def lane' (it : It (Span × Int)) (t : Track) (minute : Int) : Option (Span × Int) :=
 bif (decide (minute < t.ride.Truck.Start)) then
 some ((⟨0, 0⟩ : Span), 2)
 else
 (tat t minute).bind fun r =>
 (stop t.ride minute).bind fun r2 =>
 bif (decide (r.Hi < r2)) then
 (road t r).bind fun r3 =>
 some (r3, 1)
 else
 bif (decide (r.Lo ≥ r2)) then
 some ((⟨0, 0⟩ : Span), 2)
 else
 (road t (⟨r.Lo, (w64 (r2 - 1))⟩ : Span)).bind fun r4 =>
 some (r4, 3)
def lane : Track → Int → Option (Span × Int) := (fun t minute => lane' itN t minute)
theorem lane_eq (t : Track) (minute : Int) : lane t minute = lane' itN t minute := rfl
def E89 : FEnv iseat := ⟨⟨43, [sp107, sp91, sp108], [], [], [], [], [], [], [], [], [], [], [], true⟩, []⟩
theorem e89 (it : It (Span × Int)) (t : Track) (minute : Int) : fnRun (ts := [.Span, .int .i64]) it E89 (bodyOf Tryz.f89) Tryz.f89.results.toList (encA [.Track, .int .i64] (t, minute, ())) = lane' it t minute := by kernel_rfl
def sp89 : FnSpec iseat.toSeat := mkSpec iseat.toSeat 89 [.Track, .int .i64] [.Span, .int .i64] true (fun a => lane a.1 a.2.1) (fun a x hx h h' => fn_contract (E := E89) Tryz.func89 (by kernel_rfl) (by kernel_rfl) (by kernel_rfl) (by kernel_rfl) rfl ((e89 itN a.1 a.2.1).trans ((lane_eq a.1 a.2.1).symm.trans hx)) h h') (fun _ x => rfl)
def near' (it : It (Int × Int × Bool)) (n : Nearness) (a : Track) (b : Track) (minute : Int) : Option (Int × Int × Bool) :=
 (lane a minute).bind fun r =>
 (lane b minute).bind fun r2 =>
 bif (r.2 == 2) then
 some (0, 0, false)
 else
 bif (r2.2 == 2) then
 some (0, 0, false)
 else
 bif (decide ((max r.1.Lo (w64 ((w64 (r2.1.Lo - n.gap)) + 1))) ≤ r.1.Hi)) then
 some ((max r.1.Lo (w64 ((w64 (r2.1.Lo - n.gap)) + 1))), (max r2.1.Lo (w64 ((w64 ((max r.1.Lo (w64 ((w64 (r2.1.Lo - n.gap)) + 1))) - n.gap)) + 1))), (decide ((max r2.1.Lo (w64 ((w64 ((max r.1.Lo (w64 ((w64 (r2.1.Lo - n.gap)) + 1))) - n.gap)) + 1))) ≤ r2.1.Hi)))
 else
 some ((max r.1.Lo (w64 ((w64 (r2.1.Lo - n.gap)) + 1))), (max r2.1.Lo (w64 ((w64 ((max r.1.Lo (w64 ((w64 (r2.1.Lo - n.gap)) + 1))) - n.gap)) + 1))), false)
def near : Nearness → Track → Track → Int → Option (Int × Int × Bool) := (fun n a b minute => near' itN n a b minute)
theorem near_eq (n : Nearness) (a : Track) (b : Track) (minute : Int) : near n a b minute = near' itN n a b minute := rfl
def E74 : FEnv iseat := ⟨⟨62, [sp89], [], [], [], [], [], [], [], [], [], [], [], true⟩, []⟩
theorem e74 (it : It (Int × Int × Bool)) (n : Nearness) (a : Track) (b : Track) (minute : Int) : fnRun (ts := [.int .i64, .int .i64, .bool]) it E74 (bodyOf Tryz.f74) Tryz.f74.results.toList (encA [.Nearness, .Track, .Track, .int .i64] (n, a, b, minute, ())) = near' it n a b minute := by kernel_rfl
def sp74 : FnSpec iseat.toSeat := mkSpec iseat.toSeat 74 [.Nearness, .Track, .Track, .int .i64] [.int .i64, .int .i64, .bool] true (fun a => near a.1 a.2.1 a.2.2.1 a.2.2.2.1) (fun a x hx h h' => fn_contract (E := E74) Tryz.func74 (by kernel_rfl) (by kernel_rfl) (by kernel_rfl) (by kernel_rfl) rfl ((e74 itN a.1 a.2.1 a.2.2.1 a.2.2.2.1).trans ((near_eq a.1 a.2.1 a.2.2.1 a.2.2.2.1).symm.trans hx)) h h') (fun _ x => rfl)
def meets_L2 (n : Nearness) (a : Lanes) (b : Lanes) (minute : Int) (x16 : Int) (m_Minute : Int) (m_First : Int) (m_Second : Int) (m_FirstFails : Bool) (m_SecondFails : Bool) (m_At : Int) (m_Other : Int) (kn_ : Int → Int → Int → Int → Bool → Bool → Int → Int → Option (Meeting × Bool)) : Option (Meeting × Bool) :=
 bif (decide (x16 < 4)) then
 bif x16 == 0 then
 bif (decide ((w64 (0 + 0)) > n.fails)) then
 kn_ (w64 (x16 + 1)) m_Minute m_First m_Second m_FirstFails m_SecondFails m_At m_Other
 else
 (near n a.a b.a minute).bind fun r =>
 bif r.2.2 then
 some ((⟨minute, 0, 0, false, false, r.1, r.2.1⟩ : Meeting), true)
 else
 kn_ (w64 (x16 + 1)) m_Minute m_First m_Second m_FirstFails m_SecondFails m_At m_Other
 else
 bif x16 == 1 then
 bif (decide ((w64 (1 + 0)) > n.fails)) then
 kn_ (w64 (x16 + 1)) m_Minute m_First m_Second m_FirstFails m_SecondFails m_At m_Other
 else
 (near n a.b b.a minute).bind fun r2 =>
 bif r2.2.2 then
 some ((⟨minute, 0, 0, true, false, r2.1, r2.2.1⟩ : Meeting), true)
 else
 kn_ (w64 (x16 + 1)) m_Minute m_First m_Second m_FirstFails m_SecondFails m_At m_Other
 else
 bif x16 == 2 then
 bif (decide ((w64 (0 + 1)) > n.fails)) then
 kn_ (w64 (x16 + 1)) m_Minute m_First m_Second m_FirstFails m_SecondFails m_At m_Other
 else
 (near n a.a b.b minute).bind fun r3 =>
 bif r3.2.2 then
 some ((⟨minute, 0, 0, false, true, r3.1, r3.2.1⟩ : Meeting), true)
 else
 kn_ (w64 (x16 + 1)) m_Minute m_First m_Second m_FirstFails m_SecondFails m_At m_Other
 else
 bif x16 == 3 then
 bif (decide ((w64 (1 + 1)) > n.fails)) then
 kn_ (w64 (x16 + 1)) m_Minute m_First m_Second m_FirstFails m_SecondFails m_At m_Other
 else
 (near n a.b b.b minute).bind fun r4 =>
 bif r4.2.2 then
 some ((⟨minute, 0, 0, true, true, r4.1, r4.2.1⟩ : Meeting), true)
 else
 kn_ (w64 (x16 + 1)) m_Minute m_First m_Second m_FirstFails m_SecondFails m_At m_Other
 else
 none
 else
 some ((⟨0, 0, 0, false, false, 0, 0⟩ : Meeting), false)
def meets' (it : It (Meeting × Bool)) (n : Nearness) (a : Lanes) (b : Lanes) (minute : Int) : Option (Meeting × Bool) :=
 it _ (fun (v_0 : (Unit × Unit × Unit × Unit × Int × Unit) × ((Int × Int × Int × Bool × Bool × Int × Int × Unit) × Unit)) kn => meets_L2 n a b minute v_0.1.2.2.2.2.1 v_0.2.1.1 v_0.2.1.2.1 v_0.2.1.2.2.1 v_0.2.1.2.2.2.1 v_0.2.1.2.2.2.2.1 v_0.2.1.2.2.2.2.2.1 v_0.2.1.2.2.2.2.2.2.1 (fun y0 y1 y2 y3 y4 y5 y6 y7 => kn (((), (), (), (), y0, ()), ((y1, y2, y3, y4, y5, y6, y7, ()), ())))) (((), (), (), (), 0, ()), ((0, 0, 0, false, false, 0, 0, ()), ()))
def meets : Nearness → Lanes → Lanes → Int → Option (Meeting × Bool) := (fun n a b minute => meets' itN n a b minute)
theorem meets_eq (n : Nearness) (a : Lanes) (b : Lanes) (minute : Int) : meets n a b minute = meets' itN n a b minute := rfl
def E58 : FEnv iseat := ⟨⟨55, [sp74], [], [], [], [], [], [], [], [], [], [], [], true⟩, [(2, ⟨⟨[(4, .bx 4 0), (5, .bx 5 0), (6, .bx 6 0), (8, .bx 8 0), (16, .v (.int .i64))], [(8, [.v (.int .i64), .v (.int .i64), .v (.int .i64), .v .bool, .v .bool, .v (.int .i64), .v (.int .i64)])]⟩, [3, 15], [4, 5, 6], []⟩)]⟩
theorem e58 (it : It (Meeting × Bool)) (n : Nearness) (a : Lanes) (b : Lanes) (minute : Int) : fnRun (ts := [.Meeting, .bool]) it E58 (bodyOf Tryz.f58) Tryz.f58.results.toList (encA [.Nearness, .Lanes, .Lanes, .int .i64] (n, a, b, minute, ())) = meets' it n a b minute := by kernel_rfl
def sp58 : FnSpec iseat.toSeat := mkSpec iseat.toSeat 58 [.Nearness, .Lanes, .Lanes, .int .i64] [.Meeting, .bool] true (fun a => meets a.1 a.2.1 a.2.2.1 a.2.2.2.1) (fun a x hx h h' => fn_contract (E := E58) Tryz.func58 (by kernel_rfl) (by kernel_rfl) (by kernel_rfl) (by kernel_rfl) rfl ((e58 itN a.1 a.2.1 a.2.2.1 a.2.2.2.1).trans ((meets_eq a.1 a.2.1 a.2.2.1 a.2.2.2.1).symm.trans hx)) h h') (fun _ x => rfl)
end
end Go.Proofs.Kt05
namespace Go.Proofs.Kt05
open Go Go.Ab
open Go.Proofs.YtmoiedlfimodeaaGreatDoor (iseat)
set_option linter.all false
set_option maxRecDepth 100000
noncomputable section
def E46 : FEnv iseat := ⟨⟨107, [sp45, sp65], [], [], [], [], [], [], [], [], [], [], [], true⟩, []⟩
def r46 (a : argD [.Convoy, .Truck]) := fnRun (ts := [.int .i64]) itN E46 (bodyOf Tryz.f46) Tryz.f46.results.toList (encA [.Convoy, .Truck] a)
def sp46 : FnSpec iseat.toSeat := mkSpec iseat.toSeat 46 [.Convoy, .Truck] [.int .i64] true r46 (fun a x hx h h' => fn_contract (E := E46) Tryz.func46 (by kernel_rfl) (by kernel_rfl) (by kernel_rfl) (by kernel_rfl) rfl hx h h') (fun _ x => rfl)
def E25 : FEnv iseat := ⟨⟨42, [sp45, sp46], [], [], [], [], [], [], [], [], [], [], [], true⟩, []⟩
def r25 (a : argD [.Convoy]) := fnRun (ts := [.int .i64]) itN E25 (bodyOf Tryz.f25) Tryz.f25.results.toList (encA [.Convoy] a)
def sp25 : FnSpec iseat.toSeat := mkSpec iseat.toSeat 25 [.Convoy] [.int .i64] true r25 (fun a x hx h h' => fn_contract (E := E25) Tryz.func25 (by kernel_rfl) (by kernel_rfl) (by kernel_rfl) (by kernel_rfl) rfl hx h h') (fun _ x => rfl)
def E63 : FEnv iseat := ⟨⟨19, [], [], [], [], [], [], [], [], [], [], [], [], true⟩, []⟩
def r63 (a : argD [.sl (.int .i64), .int .i64]) := fnRun (ts := [.int .i64]) itN E63 (bodyOf Tryz.f63) Tryz.f63.results.toList (encA [.sl (.int .i64), .int .i64] a)
def sp63 : FnSpec iseat.toSeat := mkSpec iseat.toSeat 63 [.sl (.int .i64), .int .i64] [.int .i64] true r63 (fun a x hx h h' => fn_contract (E := E63) Tryz.func63 (by kernel_rfl) (by kernel_rfl) (by kernel_rfl) (by kernel_rfl) rfl hx h h') (fun _ x => rfl)
def E64 : FEnv iseat := ⟨⟨25, [], [], [], [], [], [], [], [], [], [], [], [], true⟩, []⟩
def r64 (a : argD [.sl (.int .i64)]) := fnRun (ts := [.int .i64]) itN E64 (bodyOf Tryz.f64) Tryz.f64.results.toList (encA [.sl (.int .i64)] a)
def sp64 : FnSpec iseat.toSeat := mkSpec iseat.toSeat 64 [.sl (.int .i64)] [.int .i64] true r64 (fun a x hx h h' => fn_contract (E := E64) Tryz.func64 (by kernel_rfl) (by kernel_rfl) (by kernel_rfl) (by kernel_rfl) rfl hx h h') (fun _ x => rfl)
def E57 : FEnv iseat := ⟨⟨25, [sp61, sp60], [], [], [], [], [], [], [], [], [], [21], [], true⟩, []⟩
def r57 (a : argD [.Convoy]) := fnRun (ts := [.sl .Lanes]) itN E57 (bodyOf Tryz.f57) Tryz.f57.results.toList (encA [.Convoy] a)
def sp57 : FnSpec iseat.toSeat := mkSpec iseat.toSeat 57 [.Convoy] [.sl .Lanes] false r57 (fun a x hx h h' => fn_contract (E := E57) Tryz.func57 (by kernel_rfl) (by kernel_rfl) (by kernel_rfl) (by kernel_rfl) rfl hx h h') (fun h => nomatch h)
def E59 : FEnv iseat := ⟨⟨12, [], [], [], [], [], [], [], [], [], [], [], [], true⟩, []⟩
def r59 (a : argD [.Track]) := fnRun (ts := [.int .i64]) itN E59 (bodyOf Tryz.f59) Tryz.f59.results.toList (encA [.Track] a)
def sp59 : FnSpec iseat.toSeat := mkSpec iseat.toSeat 59 [.Track] [.int .i64] true r59 (fun a x hx h h' => fn_contract (E := E59) Tryz.func59 (by kernel_rfl) (by kernel_rfl) (by kernel_rfl) (by kernel_rfl) rfl hx h h') (fun _ x => rfl)
def E41 : FEnv iseat := ⟨⟨76, [sp57, sp58, sp59], [], [], [], [], [], [], [], [], [], [], [], true⟩, []⟩
def r41 (a : argD [.Convoy]) := fnRun (ts := [.Meeting, .bool]) itN E41 (bodyOf Tryz.f41) Tryz.f41.results.toList (encA [.Convoy] a)
def sp41 : FnSpec iseat.toSeat := mkSpec iseat.toSeat 41 [.Convoy] [.Meeting, .bool] true r41 (fun a x hx h h' => fn_contract (E := E41) Tryz.func41 (by kernel_rfl) (by kernel_rfl) (by kernel_rfl) (by kernel_rfl) rfl hx h h') (fun _ x => rfl)
def E77 : FEnv iseat := ⟨⟨10, [], [], [], [], [], [], [], [], [], [], [], [], true⟩, []⟩
def r77 (a : argD [.Span, .ptr .Track]) := fnRun (ts := [.bool]) itN E77 (bodyOf Tryz.f77) Tryz.f77.results.toList (encA [.Span, .ptr .Track] a)
def sp77 : FnSpec iseat.toSeat := mkSpec iseat.toSeat 77 [.Span, .ptr .Track] [.bool] true r77 (fun a x hx h h' => fn_contract (E := E77) Tryz.func77 (by kernel_rfl) (by kernel_rfl) (by kernel_rfl) (by kernel_rfl) rfl hx h h') (fun _ x => rfl)
def E76 : FEnv iseat := ⟨⟨19, [sp77], [], [], [], [], [], [], [], [], [], [], [], true⟩, []⟩
def r76 (a : argD [.sl .Span, .clo 77 .Track]) := fnRun (ts := [.int .i64]) itN E76 (bodyOf Tryz.f76) Tryz.f76.results.toList (encA [.sl .Span, .clo 77 .Track] a)
def sp76 : FnSpec iseat.toSeat := mkSpec iseat.toSeat 76 [.sl .Span, .clo 77 .Track] [.int .i64] true r76 (fun a x hx h h' => fn_contract (E := E76) Tryz.func76 (by kernel_rfl) (by kernel_rfl) (by kernel_rfl) (by kernel_rfl) rfl hx h h') (fun _ x => rfl)
def E62 : FEnv iseat := ⟨⟨12, [sp77, sp76], [], [], [], [], [], [], [], [], [], [], [], true⟩, []⟩
def r62 (a : argD [.Track]) := fnRun (ts := [.int .i64]) itN E62 (bodyOf Tryz.f62) Tryz.f62.results.toList (encA [.Track] a)
def sp62 : FnSpec iseat.toSeat := mkSpec iseat.toSeat 62 [.Track] [.int .i64] true r62 (fun a x hx h h' => fn_contract (E := E62) Tryz.func62 (by kernel_rfl) (by kernel_rfl) (by kernel_rfl) (by kernel_rfl) rfl hx h h') (fun _ x => rfl)
def E43 : FEnv iseat := ⟨⟨81, [sp61, sp60, sp62, sp59, sp64, sp63], [], [], [], [], [], [], [], [], [], [30, 35], [], true⟩, []⟩
def r43 (a : argD [.Convoy]) := fnRun (ts := [.Span]) itN E43 (bodyOf Tryz.f43) Tryz.f43.results.toList (encA [.Convoy] a)
def sp43 : FnSpec iseat.toSeat := mkSpec iseat.toSeat 43 [.Convoy] [.Span] true r43 (fun a x hx h h' => fn_contract (E := E43) Tryz.func43 (by kernel_rfl) (by kernel_rfl) (by kernel_rfl) (by kernel_rfl) rfl hx h h') (fun _ x => rfl)
def E19 : FEnv iseat := ⟨⟨8, [], [], [], [], [], [], [], [], [], [], [], [], true⟩, []⟩
def r19 (a : argD [.int .i64, .int .i64]) := fnRun (ts := [.Span]) itN E19 (bodyOf Tryz.f19) Tryz.f19.results.toList (encA [.int .i64, .int .i64] a)
def sp19 : FnSpec iseat.toSeat := mkSpec iseat.toSeat 19 [.int .i64, .int .i64] [.Span] true r19 (fun a x hx h h' => fn_contract (E := E19) Tryz.func19 (by kernel_rfl) (by kernel_rfl) (by kernel_rfl) (by kernel_rfl) rfl hx h h') (fun _ x => rfl)
def E42 : FEnv iseat := ⟨⟨7, [sp19], [], [], [], [], [], [], [], [], [], [], [], true⟩, []⟩
def r42 (a : argD []) := fnRunOM .Convoy [none, none, none, some (45, .Truck)] itN E42 (bodyOf Tryz.f42) Tryz.f42.results.toList (encA [] a)
def sp42 : FnSpecOM iseat.toSeat := mkSpecOM iseat.toSeat 42 [] .Convoy [none, none, none, some (45, .Truck)] r42 (fun a x hx os d hd h => fn_contractOM (E := E42) Tryz.func42 (by kernel_rfl) (by kernel_rfl) (by kernel_rfl) (by kernel_rfl) rfl hx hd h)
def E17 : FEnv iseat := ⟨⟨10, [], [], [], [], [], [], [], [], [sp42], [], [], [], true⟩, []⟩
def r17 (a : argD []) := fnRun (ts := [.Convoy]) itN E17 (bodyOf Tryz.f17) Tryz.f17.results.toList (encA [] a)
def sp17 : FnSpec iseat.toSeat := mkSpec iseat.toSeat 17 [] [.Convoy] false r17 (fun a x hx h h' => fn_contract (E := E17) Tryz.func17 (by kernel_rfl) (by kernel_rfl) (by kernel_rfl) (by kernel_rfl) rfl hx h h') (fun h => nomatch h)
def E16 : FEnv iseat := ⟨⟨5, [sp17], [], [], [], [], [], [], [], [], [], [], [], true⟩, []⟩
def r16 (a : argD []) := fnRun (ts := [.Convoy]) itN E16 (bodyOf Tryz.f16) Tryz.f16.results.toList (encA [] a)
def sp16 : FnSpec iseat.toSeat := mkSpec iseat.toSeat 16 [] [.Convoy] false r16 (fun a x hx h h' => fn_contract (E := E16) Tryz.func16 (by kernel_rfl) (by kernel_rfl) (by kernel_rfl) (by kernel_rfl) rfl hx h h') (fun h => nomatch h)
def E15 : FEnv iseat := ⟨⟨22, [sp25, sp41], [], [], [], [], [], [], [], [], [], [], [], true⟩, []⟩
def r15 (a : argD [.Convoy]) := fnRun (ts := [.Meeting, .int .i64]) itN E15 (bodyOf Tryz.f15) Tryz.f15.results.toList (encA [.Convoy] a)
def sp15 : FnSpec iseat.toSeat := mkSpec iseat.toSeat 15 [.Convoy] [.Meeting, .int .i64] true r15 (fun a x hx h h' => fn_contract (E := E15) Tryz.func15 (by kernel_rfl) (by kernel_rfl) (by kernel_rfl) (by kernel_rfl) rfl hx h h') (fun _ x => rfl)
def E18 : FEnv iseat := ⟨⟨13, [sp25, sp43], [], [], [], [], [], [], [], [], [], [], [], true⟩, []⟩
def r18 (a : argD [.Convoy]) := fnRun (ts := [.Span, .int .i64]) itN E18 (bodyOf Tryz.f18) Tryz.f18.results.toList (encA [.Convoy] a)
def sp18 : FnSpec iseat.toSeat := mkSpec iseat.toSeat 18 [.Convoy] [.Span, .int .i64] true r18 (fun a x hx h h' => fn_contract (E := E18) Tryz.func18 (by kernel_rfl) (by kernel_rfl) (by kernel_rfl) (by kernel_rfl) rfl hx h h') (fun _ x => rfl)
def E5 : FEnv iseat := ⟨⟨42, [sp16, sp15, sp17, sp18, sp19], [], [], [], [], [], [], [], [], [], [], [], true⟩, []⟩
def r5 (a : argD []) := fnRun (ts := [.bool]) itN E5 (bodyOf Tryz.f5) Tryz.f5.results.toList (encA [] a)
end
end Go.Proofs.Kt05
namespace Go.Proofs.Tt05
open Go Go.Ab
open Go.Proofs.YtmoiedlfimodeaaGreatDoor (iseat)
set_option linter.all false
set_option maxRecDepth 100000
theorem t5 : Kt05.r5 () = some true := by kernel_rfl
noncomputable section
def awake : Option Bool := opq (some true)
theorem awake_eq : awake = some true := by unfold awake; rw [opq_eq]
def sp5 : FnSpec iseat.toSeat := mkSpec iseat.toSeat 5 [] [.bool] true (fun _ => awake) (fun a x hx h h' => by
 replace hx : awake = some x := hx
 rw [awake_eq] at hx
 cases hx
 exact fn_contract (Z := iseat) (ats := []) (ts := [.bool]) (E := Kt05.E5) (fn := Tryz.f5) (c := bodyOf Tryz.f5) Tryz.func5 (by kernel_rfl) (by kernel_rfl) (by kernel_rfl) (by kernel_rfl) rfl (a := ()) (x := true) t5 h h') (fun _ x => rfl)
end
end Go.Proofs.Tt05
