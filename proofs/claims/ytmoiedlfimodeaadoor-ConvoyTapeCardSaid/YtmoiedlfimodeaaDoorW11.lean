/- Walks by computing: what each function of the program that the laws reach gives for what it gets, as plain Lean, and that it is so; without a condition but those that stand in each theorem. -/
import Derived.Test.YtmoiedlfimodeaaDoorW1
import Derived.Test.YtmoiedlfimodeaaDoorW2
import Derived.Test.YtmoiedlfimodeaaDoorW3
import Derived.Test.YtmoiedlfimodeaaDoorW4
import Derived.Test.YtmoiedlfimodeaaDoorW5
import Derived.Test.YtmoiedlfimodeaaDoorW6
import Derived.Test.YtmoiedlfimodeaaDoorW7
import Derived.Test.YtmoiedlfimodeaaDoorW8
import Derived.Test.YtmoiedlfimodeaaDoorW9
import Derived.Test.YtmoiedlfimodeaaDoorW10
set_option linter.all false
namespace Go.Proofs.Kn04
open Go Go.Ab
open Go.Proofs.YtmoiedlfimodeaaDoor (iseat)
set_option linter.all false
set_option maxRecDepth 100000
noncomputable section
def in_' (it : It Bool) (n : Int) (low : Int) (high : Int) : Option Bool :=
  bif (decide (low ≤ n)) then
    some (decide (n ≤ high))
  else
    some false
def in_ : Int → Int → Int → Option Bool := (fun n low high => in_' itN n low high)
theorem in__eq (n : Int) (low : Int) (high : Int) : in_ n low high = in_' itN n low high := rfl
def E31 : FEnv iseat := ⟨⟨15, [], [], [], [], [], [], [], [], [], [], [], [], true⟩, []⟩
theorem e31 (it : It Bool) (n : Int) (low : Int) (high : Int) : fnRun (ts := [.bool]) it E31 (bodyOf Tryd.f31) Tryd.f31.results.toList (encA [.int .i64, .int .i64, .int .i64] (n, low, high, ())) = in_' it n low high := by kernel_rfl
def sp31 : FnSpec iseat.toSeat := mkSpec iseat.toSeat 31 [.int .i64, .int .i64, .int .i64] [.bool] true (fun a => in_ a.1 a.2.1 a.2.2.1) (fun a x hx h h' => fn_contract (Z := iseat) (ats := [.int .i64, .int .i64, .int .i64]) (ts := [.bool]) (E := E31) (fn := Tryd.f31) (c := bodyOf Tryd.f31) Tryd.func31 (by kernel_rfl) (by kernel_rfl) (by kernel_rfl) (by kernel_rfl) rfl ((e31 itN a.1 a.2.1 a.2.2.1).trans ((in__eq a.1 a.2.1 a.2.2.1).symm.trans hx)) h h') (fun _ x => rfl)
def along' (it : It Int) (r : Ride) (metre : Int) : Option Int :=
  bif (r.Truck.Way == 2) then
    some (w64 (r.length - metre))
  else
    some metre
def along : Ride → Int → Option Int := (fun r metre => along' itN r metre)
theorem along_eq (r : Ride) (metre : Int) : along r metre = along' itN r metre := rfl
def E58 : FEnv iseat := ⟨⟨14, [], [], [], [], [], [], [], [], [], [], [], [], true⟩, []⟩
theorem e58 (it : It Int) (r : Ride) (metre : Int) : fnRun (ts := [.int .i64]) it E58 (bodyOf Tryd.f58) Tryd.f58.results.toList (encA [.Ride, .int .i64] (r, metre, ())) = along' it r metre := by kernel_rfl
def sp58 : FnSpec iseat.toSeat := mkSpec iseat.toSeat 58 [.Ride, .int .i64] [.int .i64] true (fun a => along a.1 a.2.1) (fun a x hx h h' => fn_contract (Z := iseat) (ats := [.Ride, .int .i64]) (ts := [.int .i64]) (E := E58) (fn := Tryd.f58) (c := bodyOf Tryd.f58) Tryd.func58 (by kernel_rfl) (by kernel_rfl) (by kernel_rfl) (by kernel_rfl) rfl ((e58 itN a.1 a.2.1).trans ((along_eq a.1 a.2.1).symm.trans hx)) h h') (fun _ x => rfl)
def stop_L2 (r : Ride) (minute : Int) (x11 : Int) (kn_ : Int → Option Int) : Option Int :=
  bif (decide (x11 < (r.Truck.Holds.length : Int))) then
    chk (decide (0 ≤ x11) && decide (x11 < (r.Truck.Holds.length : Int))) <|
    bif (decide ((r.Truck.Holds.getD x11.toNat dfltHold).Until > minute)) then
      (along r ((r.Truck.Holds.getD x11.toNat dfltHold).At)).bind fun r2 =>
      some r2
    else
      kn_ (w64 (x11 + 1))
  else
    some r.length
def stop' (it : It Int) (r : Ride) (minute : Int) : Option Int :=
  it _ (fun (v_0 : (Unit × Int × Unit) × (Unit)) kn => stop_L2 r minute v_0.1.2.1 (fun y0 => kn (((), y0, ()), (())))) (((), 0, ()), (()))
def stop : Ride → Int → Option Int := (fun r minute => stop' itN r minute)
theorem stop_eq (r : Ride) (minute : Int) : stop r minute = stop' itN r minute := rfl
def E60 : FEnv iseat := ⟨⟨26, [sp58], [], [], [], [], [], [], [], [], [], [], [], true⟩, [(2, ⟨⟨[(2, .bx 2 0), (11, .v (.int .i64))], []⟩, [1, 9, 10], [2], []⟩)]⟩
theorem e60 (it : It Int) (r : Ride) (minute : Int) : fnRun (ts := [.int .i64]) it E60 (bodyOf Tryd.f60) Tryd.f60.results.toList (encA [.Ride, .int .i64] (r, minute, ())) = stop' it r minute := by kernel_rfl
def sp60 : FnSpec iseat.toSeat := mkSpec iseat.toSeat 60 [.Ride, .int .i64] [.int .i64] true (fun a => stop a.1 a.2.1) (fun a x hx h h' => fn_contract (Z := iseat) (ats := [.Ride, .int .i64]) (ts := [.int .i64]) (E := E60) (fn := Tryd.f60) (c := bodyOf Tryd.f60) Tryd.func60 (by kernel_rfl) (by kernel_rfl) (by kernel_rfl) (by kernel_rfl) rfl ((e60 itN a.1 a.2.1).trans ((stop_eq a.1 a.2.1).symm.trans hx)) h h') (fun _ x => rfl)
def minutesI_L2 (a0 : Ride) (t : Int) (gone_Lo : Int) (gone_Hi : Int) (kn_ : Int → Int → Int → Option (List (Int × Span × Unit))) : Option (List (Int × Span × Unit)) :=
  consM (t, (⟨gone_Lo, gone_Hi⟩ : Span), ())
    (some [])
    (bif (decide (gone_Lo < a0.length)) then
      (stop a0 t).bind fun r =>
      kn_ (w64 (t + 1)) (min (w64 (gone_Lo + a0.Truck.Pace.Lo)) r) (min (w64 (gone_Hi + a0.Truck.Pace.Hi)) r)
    else
      some [])
def minutesI' (it : It (List (Int × Span × Unit))) (a0 : Ride) : Option (List (Int × Span × Unit)) :=
  it _ (fun (v_0 : (Unit × Unit × Int × Unit) × ((Int × Int × Unit) × Unit)) kn => minutesI_L2 a0 v_0.1.2.2.1 v_0.2.1.1 v_0.2.1.2.1 (fun y0 y1 y2 => kn (((), (), y0, ()), ((y1, y2, ()), ())))) (((), (), a0.Truck.Start, ()), ((0, 0, ()), ()))
def minutesI : Ride → Option (List (Int × Span × Unit)) := (fun a0 => minutesI' itN a0)
theorem minutesI_eq (a0 : Ride) : minutesI a0 = minutesI' itN a0 := rfl
def E76 : FEnv iseat := ⟨⟨44, [sp60], [], [], [], [], [], [], [], [], [], [], [YL], true⟩, [(2, ⟨⟨[(0, .yl YL), (3, .bx 3 0), (4, .v (.int .i64))], [(3, [.v (.int .i64), .v (.int .i64)])]⟩, [1], [], []⟩)]⟩
theorem e76 (it : It (List (Int × Span × Unit))) (a0 : Ride) : fnRunI [.int .i64, .Span] it E76 (bodyOf Tryd.f76) (encA [.ptr .Ride] (a0, ())) = minutesI' it a0 := by kernel_rfl
def it76 : ItSpec iseat.toSeat := mkItSpec iseat.toSeat 76 [.ptr .Ride] [.int .i64, .Span] rfl (fun a => minutesI a.1) (fun a x hx h => it_contract (Z := iseat) (cts := [.ptr .Ride]) (E := E76) (fn := Tryd.f76) (c := bodyOf Tryd.f76) Tryd.func76 (by kernel_rfl) (by kernel_rfl) (by kernel_rfl) (by kernel_rfl) rfl rfl ((e76 itN a.1).trans ((minutesI_eq a.1).symm.trans hx)) h)
def minutes' (it : It Ride) (r : Ride) : Option Ride :=
  some r
def minutes : Ride → Option Ride := (fun r => minutes' itN r)
theorem minutes_eq (r : Ride) : minutes r = minutes' itN r := rfl
def E59 : FEnv iseat := ⟨⟨4, [], [], [], [], [], [], [], [], [], [], [], [], true⟩, []⟩
theorem e59 (it : It Ride) (r : Ride) : fnRunC 76 .Ride it E59 (bodyOf Tryd.f59) Tryd.f59.results.toList (encA [.Ride] (r, ())) = minutes' it r := by kernel_rfl
def sp59 : FnSpec iseat.toSeat := mkSpec iseat.toSeat 59 [.Ride] [.clo 76 .Ride] false (fun a => minutes a.1) (fun a x hx h h' => fn_contractC (Z := iseat) (ats := [.Ride]) (E := E59) (fn := Tryd.f59) (c := bodyOf Tryd.f59) Tryd.func59 (by kernel_rfl) (by kernel_rfl) (by kernel_rfl) (by kernel_rfl) rfl ((e59 itN a.1).trans ((minutes_eq a.1).symm.trans hx)) h h') (fun h => nomatch h)
def trackOf_E3 (t_ride_Truck_Way : Int) (t_ride_Truck_Start : Int) (t_ride_Truck_Pace_Lo : Int) (t_ride_Truck_Pace_Hi : Int) (t_ride_Truck_Holds : List Hold) (t_ride_length : Int) (t_gone : List Span) : Option Track :=
  some (⟨⟨⟨t_ride_Truck_Way, t_ride_Truck_Start, ⟨t_ride_Truck_Pace_Lo, t_ride_Truck_Pace_Hi⟩, t_ride_Truck_Holds⟩, t_ride_length⟩, t_gone⟩ : Track)
def trackOf_L3 (t_ride_Truck_Way : Int) (t_ride_Truck_Start : Int) (t_ride_Truck_Pace_Lo : Int) (t_ride_Truck_Pace_Hi : Int) (t_ride_Truck_Holds : List Hold) (t_ride_length : Int) (t_gone : List Span) (x10 : Int) (x11 : Span) (kn_ : Int → Int → Int → Int → (List Hold) → Int → (List Span) → Option Track) : Option Track :=
  chk (fitA (t_gone.length + ([x11] : List Span).length) 16) <|
  kn_ t_ride_Truck_Way t_ride_Truck_Start t_ride_Truck_Pace_Lo t_ride_Truck_Pace_Hi t_ride_Truck_Holds t_ride_length (t_gone ++ ([x11] : List Span))
def trackOf' (it : It Track) (r : Ride) : Option Track :=
  (minutes r).bind fun r2 =>
  (minutesI r2).bind fun items => it _ (fun (v_0 : ((Unit × Unit × Unit) × ((Int × Int × Int × Int × (List Hold) × Int × (List Span) × Unit) × Unit)) × List (Int × Span × Unit)) kn => match v_0.2 with
    | [] => trackOf_E3 v_0.1.2.1.1 v_0.1.2.1.2.1 v_0.1.2.1.2.2.1 v_0.1.2.1.2.2.2.1 v_0.1.2.1.2.2.2.2.1 v_0.1.2.1.2.2.2.2.2.1 v_0.1.2.1.2.2.2.2.2.2.1
    | a :: l => trackOf_L3 v_0.1.2.1.1 v_0.1.2.1.2.1 v_0.1.2.1.2.2.1 v_0.1.2.1.2.2.2.1 v_0.1.2.1.2.2.2.2.1 v_0.1.2.1.2.2.2.2.2.1 v_0.1.2.1.2.2.2.2.2.2.1 a.1 a.2.1 (fun y0 y1 y2 y3 y4 y5 y6 => kn ((((), (), ()), ((y0, y1, y2, y3, y4, y5, y6, ()), ())), l))) ((((), (), ()), ((r.Truck.Way, r.Truck.Start, r.Truck.Pace.Lo, r.Truck.Pace.Hi, r.Truck.Holds, r.length, [], ()), ())), items)
def trackOf : Ride → Option Track := (fun r => trackOf' itN r)
theorem trackOf_eq (r : Ride) : trackOf r = trackOf' itN r := rfl
def E33 : FEnv iseat := ⟨⟨19, [sp59], [], [], [], [it76], [], [], [], [], [], [15], [], true⟩, [(3, ⟨⟨[(2, .bx 2 0), (3, .bx 3 0)], [(3, [.v (.int .i64), .v (.int .i64), .v (.int .i64), .v (.int .i64), .v (.sl .Hold), .v (.int .i64), .os 16 36 .Span])]⟩, [9], [2], []⟩)]⟩
theorem e33 (it : It Track) (r : Ride) : fnRun (ts := [.Track]) it E33 (bodyOf Tryd.f33) Tryd.f33.results.toList (encA [.Ride] (r, ())) = trackOf' it r := by kernel_rfl
def sp33 : FnSpec iseat.toSeat := mkSpec iseat.toSeat 33 [.Ride] [.Track] false (fun a => trackOf a.1) (fun a x hx h h' => fn_contract (Z := iseat) (ats := [.Ride]) (ts := [.Track]) (E := E33) (fn := Tryd.f33) (c := bodyOf Tryd.f33) Tryd.func33 (by kernel_rfl) (by kernel_rfl) (by kernel_rfl) (by kernel_rfl) rfl ((e33 itN a.1).trans ((trackOf_eq a.1).symm.trans hx)) h h') (fun h => nomatch h)
def rideOf' (it : It Ride) (c : Convoy) (truck : Int) (fails : Bool) : Option Ride :=
  chk (decide (0 ≤ truck) && decide (truck < (c.Trucks.length : Int))) <|
  bif fails then
    some (⟨⟨(c.Trucks.getD truck.toNat dfltTruck).Way, (c.Trucks.getD truck.toNat dfltTruck).Start, (c.Trucks.getD truck.toNat dfltTruck).Pace, []⟩, c.Length⟩ : Ride)
  else
    some (⟨(c.Trucks.getD truck.toNat dfltTruck), c.Length⟩ : Ride)
def rideOf : Convoy → Int → Bool → Option Ride := (fun c truck fails => rideOf' itN c truck fails)
theorem rideOf_eq (c : Convoy) (truck : Int) (fails : Bool) : rideOf c truck fails = rideOf' itN c truck fails := rfl
def E34 : FEnv iseat := ⟨⟨20, [], [], [], [], [], [], [], [], [], [], [], [], true⟩, []⟩
theorem e34 (it : It Ride) (c : Convoy) (truck : Int) (fails : Bool) : fnRun (ts := [.Ride]) it E34 (bodyOf Tryd.f34) Tryd.f34.results.toList (encA [.Convoy, .int .i64, .bool] (c, truck, fails, ())) = rideOf' it c truck fails := by kernel_rfl
def sp34 : FnSpec iseat.toSeat := mkSpec iseat.toSeat 34 [.Convoy, .int .i64, .bool] [.Ride] false (fun a => rideOf a.1 a.2.1 a.2.2.1) (fun a x hx h h' => fn_contract (Z := iseat) (ats := [.Convoy, .int .i64, .bool]) (ts := [.Ride]) (E := E34) (fn := Tryd.f34) (c := bodyOf Tryd.f34) Tryd.func34 (by kernel_rfl) (by kernel_rfl) (by kernel_rfl) (by kernel_rfl) rfl ((e34 itN a.1 a.2.1 a.2.2.1).trans ((rideOf_eq a.1 a.2.1 a.2.2.1).symm.trans hx)) h h') (fun h => nomatch h)
def tend' (it : It Int) (t : Track) : Option Int :=
  some (w64 ((w64 (t.ride.Truck.Start + (t.gone.length : Int))) - 1))
def tend : Track → Option Int := (fun t => tend' itN t)
theorem tend_eq (t : Track) : tend t = tend' itN t := rfl
def E54 : FEnv iseat := ⟨⟨12, [], [], [], [], [], [], [], [], [], [], [], [], true⟩, []⟩
theorem e54 (it : It Int) (t : Track) : fnRun (ts := [.int .i64]) it E54 (bodyOf Tryd.f54) Tryd.f54.results.toList (encA [.Track] (t, ())) = tend' it t := by kernel_rfl
def sp54 : FnSpec iseat.toSeat := mkSpec iseat.toSeat 54 [.Track] [.int .i64] true (fun a => tend a.1) (fun a x hx h h' => fn_contract (Z := iseat) (ats := [.Track]) (ts := [.int .i64]) (E := E54) (fn := Tryd.f54) (c := bodyOf Tryd.f54) Tryd.func54 (by kernel_rfl) (by kernel_rfl) (by kernel_rfl) (by kernel_rfl) rfl ((e54 itN a.1).trans ((tend_eq a.1).symm.trans hx)) h h') (fun _ x => rfl)
def lanesOf_L3 (c : Convoy) (out : List Lanes) (x8 : Int) (kn_ : (List Lanes) → Int → Option (List Lanes)) : Option (List Lanes) :=
  bif (decide (x8 < (c.Trucks.length : Int))) then
    (rideOf c x8 false).bind fun r =>
    (trackOf r).bind fun r2 =>
    (rideOf c x8 true).bind fun r3 =>
    (trackOf r3).bind fun r4 =>
    chk (fitA (out.length + ([(⟨r2, r4⟩ : Lanes)] : List Lanes).length) 176) <|
    kn_ (out ++ ([(⟨r2, r4⟩ : Lanes)] : List Lanes)) (w64 (x8 + 1))
  else
    some out
def lanesOf' (it : It (List Lanes)) (c : Convoy) : Option (List Lanes) :=
  it _ (fun (v_0 : (Unit × (List Lanes) × Int × Unit) × (Unit)) kn => lanesOf_L3 c v_0.1.2.1 v_0.1.2.2.1 (fun y0 y1 => kn (((), y0, y1, ()), (())))) (((), ([] : List Lanes), 0, ()), (()))
def lanesOf : Convoy → Option (List Lanes) := (fun c => lanesOf' itN c)
theorem lanesOf_eq (c : Convoy) : lanesOf c = lanesOf' itN c := rfl
def E52 : FEnv iseat := ⟨⟨25, [sp34, sp33], [], [], [], [], [], [], [], [], [], [21], [], true⟩, [(3, ⟨⟨[(1, .bx 1 0), (3, .os 3 116 .Lanes), (8, .v (.int .i64))], []⟩, [7], [1], []⟩)]⟩
theorem e52 (it : It (List Lanes)) (c : Convoy) : fnRun (ts := [.sl .Lanes]) it E52 (bodyOf Tryd.f52) Tryd.f52.results.toList (encA [.Convoy] (c, ())) = lanesOf' it c := by kernel_rfl
def sp52 : FnSpec iseat.toSeat := mkSpec iseat.toSeat 52 [.Convoy] [.sl .Lanes] false (fun a => lanesOf a.1) (fun a x hx h h' => fn_contract (Z := iseat) (ats := [.Convoy]) (ts := [.sl .Lanes]) (E := E52) (fn := Tryd.f52) (c := bodyOf Tryd.f52) Tryd.func52 (by kernel_rfl) (by kernel_rfl) (by kernel_rfl) (by kernel_rfl) rfl ((e52 itN a.1).trans ((lanesOf_eq a.1).symm.trans hx)) h h') (fun h => nomatch h)
def tat' (it : It Span) (t : Track) (minute : Int) : Option Span :=
  bif (decide ((min (w64 (minute - t.ride.Truck.Start)) (w64 ((t.gone.length : Int) - 1))) < 0)) then
    some (⟨0, 0⟩ : Span)
  else
    chk (decide (0 ≤ (min (w64 (minute - t.ride.Truck.Start)) (w64 ((t.gone.length : Int) - 1)))) && decide ((min (w64 (minute - t.ride.Truck.Start)) (w64 ((t.gone.length : Int) - 1))) < (t.gone.length : Int))) <|
    some (t.gone.getD (min (w64 (minute - t.ride.Truck.Start)) (w64 ((t.gone.length : Int) - 1))).toNat dfltSpan)
def tat : Track → Int → Option Span := (fun t minute => tat' itN t minute)
theorem tat_eq (t : Track) (minute : Int) : tat t minute = tat' itN t minute := rfl
def E37 : FEnv iseat := ⟨⟨25, [], [], [], [], [], [], [], [], [], [], [], [], true⟩, []⟩
theorem e37 (it : It Span) (t : Track) (minute : Int) : fnRun (ts := [.Span]) it E37 (bodyOf Tryd.f37) Tryd.f37.results.toList (encA [.Track, .int .i64] (t, minute, ())) = tat' it t minute := by kernel_rfl
def sp37 : FnSpec iseat.toSeat := mkSpec iseat.toSeat 37 [.Track, .int .i64] [.Span] true (fun a => tat a.1 a.2.1) (fun a x hx h h' => fn_contract (Z := iseat) (ats := [.Track, .int .i64]) (ts := [.Span]) (E := E37) (fn := Tryd.f37) (c := bodyOf Tryd.f37) Tryd.func37 (by kernel_rfl) (by kernel_rfl) (by kernel_rfl) (by kernel_rfl) rfl ((e37 itN a.1 a.2.1).trans ((tat_eq a.1 a.2.1).symm.trans hx)) h h') (fun _ x => rfl)
def road' (it : It Span) (t : Track) (gone : Span) : Option Span :=
  (along t.ride gone.Lo).bind fun r =>
  (along t.ride gone.Hi).bind fun r2 =>
  some (⟨(min r r2), (max r r2)⟩ : Span)
def road : Track → Span → Option Span := (fun t gone => road' itN t gone)
theorem road_eq (t : Track) (gone : Span) : road t gone = road' itN t gone := rfl
def E36 : FEnv iseat := ⟨⟨24, [sp58], [], [], [], [], [], [], [], [], [], [], [], true⟩, []⟩
theorem e36 (it : It Span) (t : Track) (gone : Span) : fnRun (ts := [.Span]) it E36 (bodyOf Tryd.f36) Tryd.f36.results.toList (encA [.Track, .Span] (t, gone, ())) = road' it t gone := by kernel_rfl
def sp36 : FnSpec iseat.toSeat := mkSpec iseat.toSeat 36 [.Track, .Span] [.Span] true (fun a => road a.1 a.2.1) (fun a x hx h h' => fn_contract (Z := iseat) (ats := [.Track, .Span]) (ts := [.Span]) (E := E36) (fn := Tryd.f36) (c := bodyOf Tryd.f36) Tryd.func36 (by kernel_rfl) (by kernel_rfl) (by kernel_rfl) (by kernel_rfl) rfl ((e36 itN a.1 a.2.1).trans ((road_eq a.1 a.2.1).symm.trans hx)) h h') (fun _ x => rfl)
def lane' (it : It (Span × Int)) (t : Track) (minute : Int) : Option (Span × Int) :=
  bif (decide (minute < t.ride.Truck.Start)) then
    some ((⟨0, 0⟩ : Span), 2)
  else
    (tat t minute).bind fun r =>
    (stop t.ride minute).bind fun r2 =>
    bif (decide (r.Hi < r2)) then
      (road t r).bind fun r3 =>
      some (r3, 1)
    else
      bif (decide (r.Lo ≥ r2)) then
        some ((⟨0, 0⟩ : Span), 2)
      else
        (road t (⟨r.Lo, (w64 (r2 - 1))⟩ : Span)).bind fun r4 =>
        some (r4, 3)
def lane : Track → Int → Option (Span × Int) := (fun t minute => lane' itN t minute)
theorem lane_eq (t : Track) (minute : Int) : lane t minute = lane' itN t minute := rfl
def E35 : FEnv iseat := ⟨⟨43, [sp37, sp60, sp36], [], [], [], [], [], [], [], [], [], [], [], true⟩, []⟩
theorem e35 (it : It (Span × Int)) (t : Track) (minute : Int) : fnRun (ts := [.Span, .int .i64]) it E35 (bodyOf Tryd.f35) Tryd.f35.results.toList (encA [.Track, .int .i64] (t, minute, ())) = lane' it t minute := by kernel_rfl
def sp35 : FnSpec iseat.toSeat := mkSpec iseat.toSeat 35 [.Track, .int .i64] [.Span, .int .i64] true (fun a => lane a.1 a.2.1) (fun a x hx h h' => fn_contract (Z := iseat) (ats := [.Track, .int .i64]) (ts := [.Span, .int .i64]) (E := E35) (fn := Tryd.f35) (c := bodyOf Tryd.f35) Tryd.func35 (by kernel_rfl) (by kernel_rfl) (by kernel_rfl) (by kernel_rfl) rfl ((e35 itN a.1 a.2.1).trans ((lane_eq a.1 a.2.1).symm.trans hx)) h h') (fun _ x => rfl)
def checkTruck_L15 (t : Truck) (c : Convoy) (x68 : Int) (kn_ : Int → Option Int) : Option Int :=
  bif (decide (x68 < (t.Holds.length : Int))) then
    chk (decide (0 ≤ x68) && decide (x68 < (t.Holds.length : Int))) <|
    (in_ ((t.Holds.getD x68.toNat dfltHold).At) 1 (w64 (c.Length - 1))).bind fun r5 =>
    bif (!r5) then
      some 2
    else
      (in_ ((t.Holds.getD x68.toNat dfltHold).Until) 0 10000).bind fun r6 =>
      bif (!r6) then
        some 2
      else
        bif (decide (x68 > 0)) then
          (along (⟨t, c.Length⟩ : Ride) ((t.Holds.getD x68.toNat dfltHold).At)).bind fun r7 =>
          chk (decide (0 ≤ (w64 (x68 - 1))) && decide ((w64 (x68 - 1)) < (t.Holds.length : Int))) <|
          (along (⟨t, c.Length⟩ : Ride) ((t.Holds.getD (w64 (x68 - 1)).toNat dfltHold).At)).bind fun r8 =>
          bif (decide (r7 ≤ r8)) then
            some 11
          else
            kn_ (w64 (x68 + 1))
        else
          kn_ (w64 (x68 + 1))
  else
    some 0
def checkTruck' (it : It Int) (c : Convoy) (t : Truck) : Option Int :=
  (in_ t.Way 1 2).bind fun r =>
  bif (!r) then
    some 4
  else
    (in_ t.Start 0 10000).bind fun r2 =>
    bif (!r2) then
      some 2
    else
      (in_ t.Pace.Lo 1 1000).bind fun r3 =>
      bif (!r3) then
        some 2
      else
        (in_ t.Pace.Hi 1 1000).bind fun r4 =>
        bif (!r4) then
          some 2
        else
          bif (decide (t.Pace.Lo > t.Pace.Hi)) then
            some 11
          else
            bif (decide (c.Length > (w64 (1000 * t.Pace.Lo)))) then
              some 13
            else
              bif (decide (c.Gap < (w64 (2 * t.Pace.Hi)))) then
                some 12
              else
                bif (decide ((t.Holds.length : Int) > 8)) then
                  some 8
                else
                  it _ (fun (v_0 : (Unit × Unit × Unit × Int × Unit) × (Unit)) kn => checkTruck_L15 t c v_0.1.2.2.2.1 (fun y0 => kn (((), (), (), y0, ()), (())))) (((), (), (), 0, ()), (()))
def checkTruck : Convoy → Truck → Option Int := (fun c t => checkTruck' itN c t)
theorem checkTruck_eq (c : Convoy) (t : Truck) : checkTruck c t = checkTruck' itN c t := rfl
def E32 : FEnv iseat := ⟨⟨107, [sp31, sp58], [], [], [], [], [], [], [], [], [], [], [], true⟩, [(15, ⟨⟨[(2, .bx 2 0), (3, .bx 3 0), (5, .bx 5 0), (68, .v (.int .i64))], []⟩, [66, 67], [2, 3, 5], []⟩)]⟩
theorem e32 (it : It Int) (c : Convoy) (t : Truck) : fnRun (ts := [.int .i64]) it E32 (bodyOf Tryd.f32) Tryd.f32.results.toList (encA [.Convoy, .Truck] (c, t, ())) = checkTruck' it c t := by kernel_rfl
def sp32 : FnSpec iseat.toSeat := mkSpec iseat.toSeat 32 [.Convoy, .Truck] [.int .i64] true (fun a => checkTruck a.1 a.2.1) (fun a x hx h h' => fn_contract (Z := iseat) (ats := [.Convoy, .Truck]) (ts := [.int .i64]) (E := E32) (fn := Tryd.f32) (c := bodyOf Tryd.f32) Tryd.func32 (by kernel_rfl) (by kernel_rfl) (by kernel_rfl) (by kernel_rfl) rfl ((e32 itN a.1 a.2.1).trans ((checkTruck_eq a.1 a.2.1).symm.trans hx)) h h') (fun _ x => rfl)
def Check_L6 (c : Convoy) (x31 : Int) (kn_ : Int → Option Int) : Option Int :=
  bif (decide (x31 < (c.Trucks.length : Int))) then
    chk (decide (0 ≤ x31) && decide (x31 < (c.Trucks.length : Int))) <|
    (checkTruck c (c.Trucks.getD x31.toNat dfltTruck)).bind fun r4 =>
    bif (r4 != 0) then
      some r4
    else
      kn_ (w64 (x31 + 1))
  else
    some 0
def Check' (it : It Int) (c : Convoy) : Option Int :=
  (in_ c.Length 1 100000).bind fun r =>
  bif (!r) then
    some 2
  else
    (in_ c.Gap 1 100000).bind fun r2 =>
    bif (!r2) then
      some 2
    else
      (in_ c.Fails 0 20).bind fun r3 =>
      bif (!r3) then
        some 2
      else
        bif (decide ((c.Trucks.length : Int) > 20)) then
          some 8
        else
          it _ (fun (v_0 : (Unit × Int × Unit) × (Unit)) kn => Check_L6 c v_0.1.2.1 (fun y0 => kn (((), y0, ()), (())))) (((), 0, ()), (()))
def Check : Convoy → Option Int := (fun c => Check' itN c)
theorem Check_eq (c : Convoy) : Check c = Check' itN c := rfl
def E13 : FEnv iseat := ⟨⟨42, [sp31, sp32], [], [], [], [], [], [], [], [], [], [], [], true⟩, [(6, ⟨⟨[(1, .bx 1 0), (31, .v (.int .i64))], []⟩, [29, 30], [1], []⟩)]⟩
theorem e13 (it : It Int) (c : Convoy) : fnRun (ts := [.int .i64]) it E13 (bodyOf Tryd.f13) Tryd.f13.results.toList (encA [.Convoy] (c, ())) = Check' it c := by kernel_rfl
def sp13 : FnSpec iseat.toSeat := mkSpec iseat.toSeat 13 [.Convoy] [.int .i64] true (fun a => Check a.1) (fun a x hx h h' => fn_contract (Z := iseat) (ats := [.Convoy]) (ts := [.int .i64]) (E := E13) (fn := Tryd.f13) (c := bodyOf Tryd.f13) Tryd.func13 (by kernel_rfl) (by kernel_rfl) (by kernel_rfl) (by kernel_rfl) rfl ((e13 itN a.1).trans ((Check_eq a.1).symm.trans hx)) h h') (fun _ x => rfl)
def near' (it : It (Int × Int × Bool)) (n : Nearness) (a : Track) (b : Track) (minute : Int) : Option (Int × Int × Bool) :=
  (lane a minute).bind fun r =>
  (lane b minute).bind fun r2 =>
  bif (r.2 == 2) then
    some (0, 0, false)
  else
    bif (r2.2 == 2) then
      some (0, 0, false)
    else
      bif (decide ((max r.1.Lo (w64 ((w64 (r2.1.Lo - n.gap)) + 1))) ≤ r.1.Hi)) then
        some ((max r.1.Lo (w64 ((w64 (r2.1.Lo - n.gap)) + 1))), (max r2.1.Lo (w64 ((w64 ((max r.1.Lo (w64 ((w64 (r2.1.Lo - n.gap)) + 1))) - n.gap)) + 1))), (decide ((max r2.1.Lo (w64 ((w64 ((max r.1.Lo (w64 ((w64 (r2.1.Lo - n.gap)) + 1))) - n.gap)) + 1))) ≤ r2.1.Hi)))
      else
        some ((max r.1.Lo (w64 ((w64 (r2.1.Lo - n.gap)) + 1))), (max r2.1.Lo (w64 ((w64 ((max r.1.Lo (w64 ((w64 (r2.1.Lo - n.gap)) + 1))) - n.gap)) + 1))), false)
def near : Nearness → Track → Track → Int → Option (Int × Int × Bool) := (fun n a b minute => near' itN n a b minute)
theorem near_eq (n : Nearness) (a : Track) (b : Track) (minute : Int) : near n a b minute = near' itN n a b minute := rfl
def E73 : FEnv iseat := ⟨⟨62, [sp35], [], [], [], [], [], [], [], [], [], [], [], true⟩, []⟩
theorem e73 (it : It (Int × Int × Bool)) (n : Nearness) (a : Track) (b : Track) (minute : Int) : fnRun (ts := [.int .i64, .int .i64, .bool]) it E73 (bodyOf Tryd.f73) Tryd.f73.results.toList (encA [.Nearness, .Track, .Track, .int .i64] (n, a, b, minute, ())) = near' it n a b minute := by kernel_rfl
def sp73 : FnSpec iseat.toSeat := mkSpec iseat.toSeat 73 [.Nearness, .Track, .Track, .int .i64] [.int .i64, .int .i64, .bool] true (fun a => near a.1 a.2.1 a.2.2.1 a.2.2.2.1) (fun a x hx h h' => fn_contract (Z := iseat) (ats := [.Nearness, .Track, .Track, .int .i64]) (ts := [.int .i64, .int .i64, .bool]) (E := E73) (fn := Tryd.f73) (c := bodyOf Tryd.f73) Tryd.func73 (by kernel_rfl) (by kernel_rfl) (by kernel_rfl) (by kernel_rfl) rfl ((e73 itN a.1 a.2.1 a.2.2.1 a.2.2.2.1).trans ((near_eq a.1 a.2.1 a.2.2.1 a.2.2.2.1).symm.trans hx)) h h') (fun _ x => rfl)
def meets_L2 (n : Nearness) (a : Lanes) (b : Lanes) (minute : Int) (x16 : Int) (m_Minute : Int) (m_First : Int) (m_Second : Int) (m_FirstFails : Bool) (m_SecondFails : Bool) (m_At : Int) (m_Other : Int) (kn_ : Int → Int → Int → Int → Bool → Bool → Int → Int → Option (Meeting × Bool)) : Option (Meeting × Bool) :=
  bif (decide (x16 < 4)) then
    bif x16 == 0 then
      bif (decide ((w64 (0 + 0)) > n.fails)) then
        kn_ (w64 (x16 + 1)) m_Minute m_First m_Second m_FirstFails m_SecondFails m_At m_Other
      else
        (near n a.a b.a minute).bind fun r =>
        bif r.2.2 then
          some ((⟨minute, 0, 0, false, false, r.1, r.2.1⟩ : Meeting), true)
        else
          kn_ (w64 (x16 + 1)) m_Minute m_First m_Second m_FirstFails m_SecondFails m_At m_Other
    else
      bif x16 == 1 then
        bif (decide ((w64 (1 + 0)) > n.fails)) then
          kn_ (w64 (x16 + 1)) m_Minute m_First m_Second m_FirstFails m_SecondFails m_At m_Other
        else
          (near n a.b b.a minute).bind fun r2 =>
          bif r2.2.2 then
            some ((⟨minute, 0, 0, true, false, r2.1, r2.2.1⟩ : Meeting), true)
          else
            kn_ (w64 (x16 + 1)) m_Minute m_First m_Second m_FirstFails m_SecondFails m_At m_Other
      else
        bif x16 == 2 then
          bif (decide ((w64 (0 + 1)) > n.fails)) then
            kn_ (w64 (x16 + 1)) m_Minute m_First m_Second m_FirstFails m_SecondFails m_At m_Other
          else
            (near n a.a b.b minute).bind fun r3 =>
            bif r3.2.2 then
              some ((⟨minute, 0, 0, false, true, r3.1, r3.2.1⟩ : Meeting), true)
            else
              kn_ (w64 (x16 + 1)) m_Minute m_First m_Second m_FirstFails m_SecondFails m_At m_Other
        else
          bif x16 == 3 then
            bif (decide ((w64 (1 + 1)) > n.fails)) then
              kn_ (w64 (x16 + 1)) m_Minute m_First m_Second m_FirstFails m_SecondFails m_At m_Other
            else
              (near n a.b b.b minute).bind fun r4 =>
              bif r4.2.2 then
                some ((⟨minute, 0, 0, true, true, r4.1, r4.2.1⟩ : Meeting), true)
              else
                kn_ (w64 (x16 + 1)) m_Minute m_First m_Second m_FirstFails m_SecondFails m_At m_Other
          else
            none
  else
    some ((⟨0, 0, 0, false, false, 0, 0⟩ : Meeting), false)
def meets' (it : It (Meeting × Bool)) (n : Nearness) (a : Lanes) (b : Lanes) (minute : Int) : Option (Meeting × Bool) :=
  it _ (fun (v_0 : (Unit × Unit × Unit × Unit × Int × Unit) × ((Int × Int × Int × Bool × Bool × Int × Int × Unit) × Unit)) kn => meets_L2 n a b minute v_0.1.2.2.2.2.1 v_0.2.1.1 v_0.2.1.2.1 v_0.2.1.2.2.1 v_0.2.1.2.2.2.1 v_0.2.1.2.2.2.2.1 v_0.2.1.2.2.2.2.2.1 v_0.2.1.2.2.2.2.2.2.1 (fun y0 y1 y2 y3 y4 y5 y6 y7 => kn (((), (), (), (), y0, ()), ((y1, y2, y3, y4, y5, y6, y7, ()), ())))) (((), (), (), (), 0, ()), ((0, 0, 0, false, false, 0, 0, ()), ()))
def meets : Nearness → Lanes → Lanes → Int → Option (Meeting × Bool) := (fun n a b minute => meets' itN n a b minute)
theorem meets_eq (n : Nearness) (a : Lanes) (b : Lanes) (minute : Int) : meets n a b minute = meets' itN n a b minute := rfl
def E53 : FEnv iseat := ⟨⟨55, [sp73], [], [], [], [], [], [], [], [], [], [], [], true⟩, [(2, ⟨⟨[(4, .bx 4 0), (5, .bx 5 0), (6, .bx 6 0), (8, .bx 8 0), (16, .v (.int .i64))], [(8, [.v (.int .i64), .v (.int .i64), .v (.int .i64), .v .bool, .v .bool, .v (.int .i64), .v (.int .i64)])]⟩, [3, 15], [4, 5, 6], []⟩)]⟩
theorem e53 (it : It (Meeting × Bool)) (n : Nearness) (a : Lanes) (b : Lanes) (minute : Int) : fnRun (ts := [.Meeting, .bool]) it E53 (bodyOf Tryd.f53) Tryd.f53.results.toList (encA [.Nearness, .Lanes, .Lanes, .int .i64] (n, a, b, minute, ())) = meets' it n a b minute := by kernel_rfl
def sp53 : FnSpec iseat.toSeat := mkSpec iseat.toSeat 53 [.Nearness, .Lanes, .Lanes, .int .i64] [.Meeting, .bool] true (fun a => meets a.1 a.2.1 a.2.2.1 a.2.2.2.1) (fun a x hx h h' => fn_contract (Z := iseat) (ats := [.Nearness, .Lanes, .Lanes, .int .i64]) (ts := [.Meeting, .bool]) (E := E53) (fn := Tryd.f53) (c := bodyOf Tryd.f53) Tryd.func53 (by kernel_rfl) (by kernel_rfl) (by kernel_rfl) (by kernel_rfl) rfl ((e53 itN a.1 a.2.1 a.2.2.1 a.2.2.2.1).trans ((meets_eq a.1 a.2.1 a.2.2.1 a.2.2.2.1).symm.trans hx)) h h') (fun _ x => rfl)
def meeting_L17 (r : List Lanes) (x43 : Int) (c : Convoy) (m : Int) (kn_3 : Int → Int → Int → Int → Bool → Bool → Int → Int → Option (Meeting × Bool)) (k : Int) (x2_Minute3 : Int) (x2_First3 : Int) (x2_Second3 : Int) (x2_FirstFails3 : Bool) (x2_SecondFails3 : Bool) (x2_At3 : Int) (x2_Other3 : Int) (kn_4 : Int → Int → Int → Int → Bool → Bool → Int → Int → Option (Meeting × Bool)) : Option (Meeting × Bool) :=
  bif (decide (k < (r.length : Int))) then
    chk (decide (0 ≤ x43) && decide (x43 < (r.length : Int))) <|
    chk (decide (0 ≤ k) && decide (k < (r.length : Int))) <|
    (meets (⟨c.Gap, c.Fails⟩ : Nearness) (r.getD x43.toNat dfltLanes) (r.getD k.toNat dfltLanes) m).bind fun r3 =>
    bif r3.2 then
      some ((⟨r3.1.Minute, x43, k, r3.1.FirstFails, r3.1.SecondFails, r3.1.At, r3.1.Other⟩ : Meeting), true)
    else
      kn_4 (w64 (k + 1)) x2_Minute3 x2_First3 x2_Second3 x2_FirstFails3 x2_SecondFails3 x2_At3 x2_Other3
  else
    kn_3 (w64 (x43 + 1)) x2_Minute3 x2_First3 x2_Second3 x2_FirstFails3 x2_SecondFails3 x2_At3 x2_Other3
def meeting_L14 (it : It (Meeting × Bool)) (r : List Lanes) (c : Convoy) (m : Int) (kn_2 : Int → Int → Int → Int → Bool → Bool → Int → Int → Option (Meeting × Bool)) (x43 : Int) (x2_Minute2 : Int) (x2_First2 : Int) (x2_Second2 : Int) (x2_FirstFails2 : Bool) (x2_SecondFails2 : Bool) (x2_At2 : Int) (x2_Other2 : Int) (kn_3 : Int → Int → Int → Int → Bool → Bool → Int → Int → Option (Meeting × Bool)) : Option (Meeting × Bool) :=
  bif (decide (x43 < (r.length : Int))) then
    it _ (fun (v_0 : (Unit × Int × Unit) × ((Int × Int × Int × Bool × Bool × Int × Int × Unit) × Unit)) kn => meeting_L17 r x43 c m kn_3 v_0.1.2.1 v_0.2.1.1 v_0.2.1.2.1 v_0.2.1.2.2.1 v_0.2.1.2.2.2.1 v_0.2.1.2.2.2.2.1 v_0.2.1.2.2.2.2.2.1 v_0.2.1.2.2.2.2.2.2.1 (fun y0 y1 y2 y3 y4 y5 y6 y7 => kn (((), y0, ()), ((y1, y2, y3, y4, y5, y6, y7, ()), ())))) (((), (w64 (x43 + 1)), ()), ((x2_Minute2, x2_First2, x2_Second2, x2_FirstFails2, x2_SecondFails2, x2_At2, x2_Other2, ()), ()))
  else
    kn_2 (w64 (m + 1)) x2_Minute2 x2_First2 x2_Second2 x2_FirstFails2 x2_SecondFails2 x2_At2 x2_Other2
def meeting_L11 (it : It (Meeting × Bool)) (end_ : Int) (r : List Lanes) (c : Convoy) (m : Int) (x2_Minute : Int) (x2_First : Int) (x2_Second : Int) (x2_FirstFails : Bool) (x2_SecondFails : Bool) (x2_At : Int) (x2_Other : Int) (kn_2 : Int → Int → Int → Int → Bool → Bool → Int → Int → Option (Meeting × Bool)) : Option (Meeting × Bool) :=
  bif (decide (m ≤ end_)) then
    it _ (fun (v_0 : (Unit × Int × Unit) × ((Int × Int × Int × Bool × Bool × Int × Int × Unit) × Unit)) kn => meeting_L14 it r c m kn_2 v_0.1.2.1 v_0.2.1.1 v_0.2.1.2.1 v_0.2.1.2.2.1 v_0.2.1.2.2.2.1 v_0.2.1.2.2.2.2.1 v_0.2.1.2.2.2.2.2.1 v_0.2.1.2.2.2.2.2.2.1 (fun y0 y1 y2 y3 y4 y5 y6 y7 => kn (((), y0, ()), ((y1, y2, y3, y4, y5, y6, y7, ()), ())))) (((), 0, ()), ((x2_Minute, x2_First, x2_Second, x2_FirstFails, x2_SecondFails, x2_At, x2_Other, ()), ()))
  else
    some ((⟨0, 0, 0, false, false, 0, 0⟩ : Meeting), false)
def meeting_L6 (it : It (Meeting × Bool)) (r : List Lanes) (c : Convoy) (end_ : Int) (x26 : Int) (kn_ : Int → Int → Option (Meeting × Bool)) : Option (Meeting × Bool) :=
  bif (decide (x26 < (r.length : Int))) then
    chk (decide (0 ≤ x26) && decide (x26 < (r.length : Int))) <|
    (tend ((r.getD x26.toNat dfltLanes).a)).bind fun r2 =>
    kn_ (max end_ r2) (w64 (x26 + 1))
  else
    it _ (fun (v_0 : (Unit × Int × Unit) × ((Int × Int × Int × Bool × Bool × Int × Int × Unit) × Unit)) kn => meeting_L11 it end_ r c v_0.1.2.1 v_0.2.1.1 v_0.2.1.2.1 v_0.2.1.2.2.1 v_0.2.1.2.2.2.1 v_0.2.1.2.2.2.2.1 v_0.2.1.2.2.2.2.2.1 v_0.2.1.2.2.2.2.2.2.1 (fun y0 y1 y2 y3 y4 y5 y6 y7 => kn (((), y0, ()), ((y1, y2, y3, y4, y5, y6, y7, ()), ())))) (((), 0, ()), ((0, 0, 0, false, false, 0, 0, ()), ()))
def meeting' (it : It (Meeting × Bool)) (c : Convoy) : Option (Meeting × Bool) :=
  (lanesOf c).bind fun r =>
  it _ (fun (v_0 : (Unit × Int × Int × Unit) × (Unit)) kn => meeting_L6 it r c v_0.1.2.1 v_0.1.2.2.1 (fun y0 y1 => kn (((), y0, y1, ()), (())))) (((), 0, 0, ()), (()))
def meeting : Convoy → Option (Meeting × Bool) := (fun c => meeting' itN c)
theorem meeting_eq (c : Convoy) : meeting c = meeting' itN c := rfl
def E28 : FEnv iseat := ⟨⟨76, [sp52, sp54, sp53], [], [], [], [], [], [], [], [], [], [], [], true⟩, [(6, ⟨⟨[(2, .bx 2 0), (7, .v (.int .i64)), (26, .v (.int .i64))], []⟩, [4, 6, 24, 25], [2], []⟩), (11, ⟨⟨[(2, .bx 2 0), (10, .v (.int .i64))], [(2, [.v (.int .i64), .v (.int .i64), .v (.int .i64), .v .bool, .v .bool, .v (.int .i64), .v (.int .i64)])]⟩, [4, 6, 7], [], []⟩), (14, ⟨⟨[(2, .bx 2 0), (43, .v (.int .i64))], [(2, [.v (.int .i64), .v (.int .i64), .v (.int .i64), .v .bool, .v .bool, .v (.int .i64), .v (.int .i64)])]⟩, [10, 42], [], []⟩), (17, ⟨⟨[(2, .bx 2 0), (12, .v (.int .i64))], [(2, [.v (.int .i64), .v (.int .i64), .v (.int .i64), .v .bool, .v .bool, .v (.int .i64), .v (.int .i64)])]⟩, [11, 43], [], []⟩)]⟩
theorem e28 (it : It (Meeting × Bool)) (c : Convoy) : fnRun (ts := [.Meeting, .bool]) it E28 (bodyOf Tryd.f28) Tryd.f28.results.toList (encA [.Convoy] (c, ())) = meeting' it c := by kernel_rfl
def sp28 : FnSpec iseat.toSeat := mkSpec iseat.toSeat 28 [.Convoy] [.Meeting, .bool] true (fun a => meeting a.1) (fun a x hx h h' => fn_contract (Z := iseat) (ats := [.Convoy]) (ts := [.Meeting, .bool]) (E := E28) (fn := Tryd.f28) (c := bodyOf Tryd.f28) Tryd.func28 (by kernel_rfl) (by kernel_rfl) (by kernel_rfl) (by kernel_rfl) rfl ((e28 itN a.1).trans ((meeting_eq a.1).symm.trans hx)) h h') (fun _ x => rfl)
def Index_L2 (s : List Int) (v : Int) (x8 : Int) (kn_ : Int → Option Int) : Option Int :=
  bif (decide (x8 < (s.length : Int))) then
    chk (decide (0 ≤ x8) && decide (x8 < (s.length : Int))) <|
    bif (v == (s.getD x8.toNat 0)) then
      some x8
    else
      kn_ (w64 (x8 + 1))
  else
    some (-1)
def Index' (it : It Int) (s : List Int) (v : Int) : Option Int :=
  it _ (fun (v_0 : (Int × Unit) × (Unit)) kn => Index_L2 s v v_0.1.1 (fun y0 => kn ((y0, ()), (())))) ((0, ()), (()))
def Index : (List Int) → Int → Option Int := (fun s v => Index' itN s v)
theorem Index_eq (s : List Int) (v : Int) : Index s v = Index' itN s v := rfl
def E56 : FEnv iseat := ⟨⟨19, [], [], [], [], [], [], [], [], [], [], [], [], true⟩, [(2, ⟨⟨[(8, .v (.int .i64))], []⟩, [0, 1, 7], [], []⟩)]⟩
theorem e56 (it : It Int) (s : List Int) (v : Int) : fnRun (ts := [.int .i64]) it E56 (bodyOf Tryd.f56) Tryd.f56.results.toList (encA [.sl (.int .i64), .int .i64] (s, v, ())) = Index' it s v := by kernel_rfl
def sp56 : FnSpec iseat.toSeat := mkSpec iseat.toSeat 56 [.sl (.int .i64), .int .i64] [.int .i64] true (fun a => Index a.1 a.2.1) (fun a x hx h h' => fn_contract (Z := iseat) (ats := [.sl (.int .i64), .int .i64]) (ts := [.int .i64]) (E := E56) (fn := Tryd.f56) (c := bodyOf Tryd.f56) Tryd.func56 (by kernel_rfl) (by kernel_rfl) (by kernel_rfl) (by kernel_rfl) rfl ((e56 itN a.1 a.2.1).trans ((Index_eq a.1 a.2.1).symm.trans hx)) h h') (fun _ x => rfl)
def Max_L5 (x : List Int) (m : Int) (i : Int) (kn_ : Int → Int → Option Int) : Option Int :=
  bif (decide (i < (x.length : Int))) then
    chk (decide (0 ≤ i) && decide (i < (x.length : Int))) <|
    kn_ (max m (x.getD i.toNat 0)) (w64 (i + 1))
  else
    some m
def Max' (it : It Int) (x : List Int) : Option Int :=
  bif (decide ((x.length : Int) < 1)) then
    none
  else
    chk (decide (0 ≤ 0) && decide (0 < (x.length : Int))) <|
    it _ (fun (v_0 : (Int × Int × Unit) × (Unit)) kn => Max_L5 x v_0.1.1 v_0.1.2.1 (fun y0 y1 => kn ((y0, y1, ()), (())))) (((x.getD 0 0), 1, ()), (()))
def Max : (List Int) → Option Int := (fun x => Max' itN x)
theorem Max_eq (x : List Int) : Max x = Max' itN x := rfl
def E57 : FEnv iseat := ⟨⟨25, [], [], [], [], [], [], [], [], [], [], [], [], true⟩, [(5, ⟨⟨[(3, .v (.int .i64)), (4, .v (.int .i64))], []⟩, [0], [], []⟩)]⟩
theorem e57 (it : It Int) (x : List Int) : fnRun (ts := [.int .i64]) it E57 (bodyOf Tryd.f57) Tryd.f57.results.toList (encA [.sl (.int .i64)] (x, ())) = Max' it x := by kernel_rfl
def sp57 : FnSpec iseat.toSeat := mkSpec iseat.toSeat 57 [.sl (.int .i64)] [.int .i64] true (fun a => Max a.1) (fun a x hx h h' => fn_contract (Z := iseat) (ats := [.sl (.int .i64)]) (ts := [.int .i64]) (E := E57) (fn := Tryd.f57) (c := bodyOf Tryd.f57) Tryd.func57 (by kernel_rfl) (by kernel_rfl) (by kernel_rfl) (by kernel_rfl) rfl ((e57 itN a.1).trans ((Max_eq a.1).symm.trans hx)) h h') (fun _ x => rfl)
def firstC' (it : It Bool) (x : Span) (a1 : Track) : Option Bool :=
  some (x.Hi == a1.ride.length)
def firstC : Span → Track → Option Bool := (fun x a1 => firstC' itN x a1)
theorem firstC_eq (x : Span) (a1 : Track) : firstC x a1 = firstC' itN x a1 := rfl
def E75 : FEnv iseat := ⟨⟨10, [], [], [], [], [], [], [], [], [], [], [], [], true⟩, []⟩
theorem e75 (it : It Bool) (x : Span) (a1 : Track) : fnRun (ts := [.bool]) it E75 (bodyOf Tryd.f75) Tryd.f75.results.toList (encA [.Span, .ptr .Track] (x, a1, ())) = firstC' it x a1 := by kernel_rfl
def sp75 : FnSpec iseat.toSeat := mkSpec iseat.toSeat 75 [.Span, .ptr .Track] [.bool] true (fun a => firstC a.1 a.2.1) (fun a x hx h h' => fn_contract (Z := iseat) (ats := [.Span, .ptr .Track]) (ts := [.bool]) (E := E75) (fn := Tryd.f75) (c := bodyOf Tryd.f75) Tryd.func75 (by kernel_rfl) (by kernel_rfl) (by kernel_rfl) (by kernel_rfl) rfl ((e75 itN a.1 a.2.1).trans ((firstC_eq a.1 a.2.1).symm.trans hx)) h h') (fun _ x => rfl)
def IndexFunc_L2 (s : List Span) (f : Track) (x8 : Int) (kn_ : Int → Option Int) : Option Int :=
  bif (decide (x8 < (s.length : Int))) then
    chk (decide (0 ≤ x8) && decide (x8 < (s.length : Int))) <|
    (firstC (s.getD x8.toNat dfltSpan) f).bind fun r =>
    bif r then
      some x8
    else
      kn_ (w64 (x8 + 1))
  else
    some (-1)
def IndexFunc' (it : It Int) (s : List Span) (f : Track) : Option Int :=
  it _ (fun (v_0 : (Int × Unit) × (Unit)) kn => IndexFunc_L2 s f v_0.1.1 (fun y0 => kn ((y0, ()), (())))) ((0, ()), (()))
def IndexFunc : (List Span) → Track → Option Int := (fun s f => IndexFunc' itN s f)
theorem IndexFunc_eq (s : List Span) (f : Track) : IndexFunc s f = IndexFunc' itN s f := rfl
def E74 : FEnv iseat := ⟨⟨19, [sp75], [], [], [], [], [], [], [], [], [], [], [], true⟩, [(2, ⟨⟨[(8, .v (.int .i64))], []⟩, [0, 1, 7], [], []⟩)]⟩
theorem e74 (it : It Int) (s : List Span) (f : Track) : fnRun (ts := [.int .i64]) it E74 (bodyOf Tryd.f74) Tryd.f74.results.toList (encA [.sl .Span, .clo 75 .Track] (s, f, ())) = IndexFunc' it s f := by kernel_rfl
def sp74 : FnSpec iseat.toSeat := mkSpec iseat.toSeat 74 [.sl .Span, .clo 75 .Track] [.int .i64] true (fun a => IndexFunc a.1 a.2.1) (fun a x hx h h' => fn_contract (Z := iseat) (ats := [.sl .Span, .clo 75 .Track]) (ts := [.int .i64]) (E := E74) (fn := Tryd.f74) (c := bodyOf Tryd.f74) Tryd.func74 (by kernel_rfl) (by kernel_rfl) (by kernel_rfl) (by kernel_rfl) rfl ((e74 itN a.1 a.2.1).trans ((IndexFunc_eq a.1 a.2.1).symm.trans hx)) h h') (fun _ x => rfl)
def first' (it : It Int) (t : Track) : Option Int :=
  (IndexFunc t.gone t).bind fun r =>
  some (w64 (t.ride.Truck.Start + r))
def first : Track → Option Int := (fun t => first' itN t)
theorem first_eq (t : Track) : first t = first' itN t := rfl
def E55 : FEnv iseat := ⟨⟨12, [sp74], [], [], [], [], [], [], [], [], [], [], [], true⟩, []⟩
theorem e55 (it : It Int) (t : Track) : fnRun (ts := [.int .i64]) it E55 (bodyOf Tryd.f55) Tryd.f55.results.toList (encA [.Track] (t, ())) = first' it t := by kernel_rfl
def sp55 : FnSpec iseat.toSeat := mkSpec iseat.toSeat 55 [.Track] [.int .i64] true (fun a => first a.1) (fun a x hx h h' => fn_contract (Z := iseat) (ats := [.Track]) (ts := [.int .i64]) (E := E55) (fn := Tryd.f55) (c := bodyOf Tryd.f55) Tryd.func55 (by kernel_rfl) (by kernel_rfl) (by kernel_rfl) (by kernel_rfl) rfl ((e55 itN a.1).trans ((first_eq a.1).symm.trans hx)) h h') (fun _ x => rfl)
def off_L17 (soon2 : List Int) (x70 : Int) (out_Lo3 : Int) (out_Hi3 : Int) (kn_3 : Int → Int → Int → Option Span) : Option Span :=
  bif (decide (x70 < (soon2.length : Int))) then
    chk (decide (0 ≤ x70) && decide (x70 < (soon2.length : Int))) <|
    chk (decide (x70.toNat < soon2.length)) <|
    kn_3 (w64 (x70 + 1)) (max out_Lo3 (soon2.getD x70.toNat 0)) out_Hi3
  else
    some (⟨out_Lo3, out_Hi3⟩ : Span)
def off_L11 (it : It Span) (c : Convoy) (fast : List Int) (soon2 : List Int) (n : Int) (out_Lo2 : Int) (out_Hi2 : Int) (kn_2 : (List Int) → Int → Int → Int → Option Span) : Option Span :=
  bif (decide (n < (min c.Fails (soon2.length : Int)))) then
    (Max soon2).bind fun r8 =>
    (Index soon2 r8).bind fun r9 =>
    chk (decide (0 ≤ r9) && decide (r9 < (fast.length : Int))) <|
    chk (decide (r9.toNat < fast.length)) <|
    chk (decide (0 ≤ r9) && decide (r9 < (soon2.length : Int))) <|
    chk (decide (r9.toNat < soon2.length)) <|
    kn_2 (soon2.set r9.toNat (-1)) (w64 (n + 1)) (max out_Lo2 (fast.getD r9.toNat 0)) out_Hi2
  else
    it _ (fun (v_0 : (Unit × Unit × Unit × Int × Unit) × ((Int × Int × Unit) × Unit)) kn => off_L17 soon2 v_0.1.2.2.2.1 v_0.2.1.1 v_0.2.1.2.1 (fun y0 y1 y2 => kn (((), (), (), y0, ()), ((y1, y2, ()), ())))) (((), (), (), 0, ()), ((out_Lo2, out_Hi2, ()), ()))
def off_L4 (it : It Span) (c : Convoy) (soon : List Int) (fast : List Int) (x16 : Int) (out_Lo : Int) (out_Hi : Int) (kn_ : (List Int) → (List Int) → Int → Int → Int → Option Span) : Option Span :=
  bif (decide (x16 < (c.Trucks.length : Int))) then
    (rideOf c x16 false).bind fun r =>
    (trackOf r).bind fun r2 =>
    (rideOf c x16 true).bind fun r3 =>
    (trackOf r3).bind fun r4 =>
    (first r2).bind fun r5 =>
    chk (fitA (soon.length + [r5].length) 8) <|
    (first r4).bind fun r6 =>
    chk (fitA (fast.length + [r6].length) 8) <|
    (tend r2).bind fun r7 =>
    kn_ (soon ++ [r5]) (fast ++ [r6]) (w64 (x16 + 1)) out_Lo (max out_Hi r7)
  else
    it _ (fun (v_0 : (Unit × Unit × Unit × (List Int) × Unit × Int × Unit) × ((Int × Int × Unit) × Unit)) kn => off_L11 it c fast v_0.1.2.2.2.1 v_0.1.2.2.2.2.2.1 v_0.2.1.1 v_0.2.1.2.1 (fun y0 y1 y2 y3 => kn (((), (), (), y0, (), y1, ()), ((y2, y3, ()), ())))) (((), (), (), soon, (), 0, ()), ((out_Lo, out_Hi, ()), ()))
def off' (it : It Span) (c : Convoy) : Option Span :=
  it _ (fun (v_0 : (Unit × Unit × Unit × (List Int) × (List Int) × Int × Unit) × ((Int × Int × Unit) × Unit)) kn => off_L4 it c v_0.1.2.2.2.1 v_0.1.2.2.2.2.1 v_0.1.2.2.2.2.2.1 v_0.2.1.1 v_0.2.1.2.1 (fun y0 y1 y2 y3 y4 => kn (((), (), (), y0, y1, y2, ()), ((y3, y4, ()), ())))) (((), (), (), ([] : List Int), ([] : List Int), 0, ()), ((0, 0, ()), ()))
def off : Convoy → Option Span := (fun c => off' itN c)
theorem off_eq (c : Convoy) : off c = off' itN c := rfl
def E29 : FEnv iseat := ⟨⟨81, [sp34, sp33, sp55, sp54, sp57, sp56], [], [], [], [], [], [], [], [], [], [30, 35], [], true⟩, [(4, ⟨⟨[(1, .bx 1 0), (2, .bx 2 0), (3, .bx 3 0), (4, .os 4 3 (.int .i64)), (5, .os 5 3 (.int .i64)), (16, .v (.int .i64))], [(3, [.v (.int .i64), .v (.int .i64)])]⟩, [15], [1, 2], []⟩), (11, ⟨⟨[(1, .bx 1 0), (2, .bx 2 0), (3, .bx 3 0), (4, .os 4 3 (.int .i64)), (5, .osr 5), (9, .v (.int .i64))], [(3, [.v (.int .i64), .v (.int .i64)])]⟩, [], [1, 2, 5], []⟩), (17, ⟨⟨[(2, .bx 2 0), (3, .bx 3 0), (68, .osr 4), (70, .v (.int .i64))], [(3, [.v (.int .i64), .v (.int .i64)])]⟩, [69], [2, 4], []⟩)]⟩
theorem e29 (it : It Span) (c : Convoy) : fnRun (ts := [.Span]) it E29 (bodyOf Tryd.f29) Tryd.f29.results.toList (encA [.Convoy] (c, ())) = off' it c := by kernel_rfl
def sp29 : FnSpec iseat.toSeat := mkSpec iseat.toSeat 29 [.Convoy] [.Span] true (fun a => off a.1) (fun a x hx h h' => fn_contract (Z := iseat) (ats := [.Convoy]) (ts := [.Span]) (E := E29) (fn := Tryd.f29) (c := bodyOf Tryd.f29) Tryd.func29 (by kernel_rfl) (by kernel_rfl) (by kernel_rfl) (by kernel_rfl) rfl ((e29 itN a.1).trans ((off_eq a.1).symm.trans hx)) h h') (fun _ x => rfl)
end
end Go.Proofs.Kn04
namespace Go.Proofs.Kn04
open Go Go.Ab
open Go.Proofs.YtmoiedlfimodeaaDoor (iseat)
set_option linter.all false
set_option maxRecDepth 100000
noncomputable section
def E14 : FEnv iseat := ⟨⟨8, [], [], [], [], [], [], [], [], [], [], [], [], true⟩, []⟩
def r14 (a : argD [.int .i64, .int .i64]) := fnRun (ts := [.Span]) itN E14 (bodyOf Tryd.f14) Tryd.f14.results.toList (encA [.int .i64, .int .i64] a)
def sp14 : FnSpec iseat.toSeat := mkSpec iseat.toSeat 14 [.int .i64, .int .i64] [.Span] true r14 (fun a x hx h h' => fn_contract (Z := iseat) (ats := [.int .i64, .int .i64]) (ts := [.Span]) (E := E14) (fn := Tryd.f14) (c := bodyOf Tryd.f14) Tryd.func14 (by kernel_rfl) (by kernel_rfl) (by kernel_rfl) (by kernel_rfl) rfl hx h h') (fun _ x => rfl)
def E9 : FEnv iseat := ⟨⟨22, [sp13, sp28], [], [], [], [], [], [], [], [], [], [], [], true⟩, []⟩
def r9 (a : argD [.Convoy]) := fnRun (ts := [.Meeting, .int .i64]) itN E9 (bodyOf Tryd.f9) Tryd.f9.results.toList (encA [.Convoy] a)
def sp9 : FnSpec iseat.toSeat := mkSpec iseat.toSeat 9 [.Convoy] [.Meeting, .int .i64] true r9 (fun a x hx h h' => fn_contract (Z := iseat) (ats := [.Convoy]) (ts := [.Meeting, .int .i64]) (E := E9) (fn := Tryd.f9) (c := bodyOf Tryd.f9) Tryd.func9 (by kernel_rfl) (by kernel_rfl) (by kernel_rfl) (by kernel_rfl) rfl hx h h') (fun _ x => rfl)
def E10 : FEnv iseat := ⟨⟨13, [sp13, sp29], [], [], [], [], [], [], [], [], [], [], [], true⟩, []⟩
def r10 (a : argD [.Convoy]) := fnRun (ts := [.Span, .int .i64]) itN E10 (bodyOf Tryd.f10) Tryd.f10.results.toList (encA [.Convoy] a)
def sp10 : FnSpec iseat.toSeat := mkSpec iseat.toSeat 10 [.Convoy] [.Span, .int .i64] true r10 (fun a x hx h h' => fn_contract (Z := iseat) (ats := [.Convoy]) (ts := [.Span, .int .i64]) (E := E10) (fn := Tryd.f10) (c := bodyOf Tryd.f10) Tryd.func10 (by kernel_rfl) (by kernel_rfl) (by kernel_rfl) (by kernel_rfl) rfl hx h h') (fun _ x => rfl)
def E12 : FEnv iseat := ⟨⟨7, [sp14], [], [], [], [], [], [], [], [], [], [], [], true⟩, []⟩
def r12 (a : argD []) := fnRunOM .Convoy [none, none, none, some (44, .Truck)] itN E12 (bodyOf Tryd.f12) Tryd.f12.results.toList (encA [] a)
def sp12 : FnSpecOM iseat.toSeat := mkSpecOM iseat.toSeat 12 [] .Convoy [none, none, none, some (44, .Truck)] r12 (fun a x hx os d hd h => fn_contractOM (Z := iseat) (ats := []) (E := E12) (fn := Tryd.f12) (c := bodyOf Tryd.f12) Tryd.func12 (by kernel_rfl) (by kernel_rfl) (by kernel_rfl) (by kernel_rfl) rfl hx hd h)
def E16 : FEnv iseat := ⟨⟨10, [], [], [], [], [], [], [], [], [sp12], [], [], [], true⟩, []⟩
def r16 (a : argD []) := fnRun (ts := [.Convoy]) itN E16 (bodyOf Tryd.f16) Tryd.f16.results.toList (encA [] a)
def sp16 : FnSpec iseat.toSeat := mkSpec iseat.toSeat 16 [] [.Convoy] false r16 (fun a x hx h h' => fn_contract (Z := iseat) (ats := []) (ts := [.Convoy]) (E := E16) (fn := Tryd.f16) (c := bodyOf Tryd.f16) Tryd.func16 (by kernel_rfl) (by kernel_rfl) (by kernel_rfl) (by kernel_rfl) rfl hx h h') (fun h => nomatch h)
def E30 : FEnv iseat := ⟨⟨5, [sp16], [], [], [], [], [], [], [], [], [], [], [], true⟩, []⟩
def r30 (a : argD []) := fnRun (ts := [.Convoy]) itN E30 (bodyOf Tryd.f30) Tryd.f30.results.toList (encA [] a)
def sp30 : FnSpec iseat.toSeat := mkSpec iseat.toSeat 30 [] [.Convoy] false r30 (fun a x hx h h' => fn_contract (Z := iseat) (ats := []) (ts := [.Convoy]) (E := E30) (fn := Tryd.f30) (c := bodyOf Tryd.f30) Tryd.func30 (by kernel_rfl) (by kernel_rfl) (by kernel_rfl) (by kernel_rfl) rfl hx h h') (fun h => nomatch h)
def E11 : FEnv iseat := ⟨⟨42, [sp30, sp9, sp16, sp10, sp14], [], [], [], [], [], [], [], [], [], [], [], true⟩, []⟩
def r11 (a : argD []) := fnRun (ts := [.bool]) itN E11 (bodyOf Tryd.f11) Tryd.f11.results.toList (encA [] a)
end
end Go.Proofs.Kn04
namespace Go.Proofs.Tp04
open Go Go.Ab
open Go.Proofs.YtmoiedlfimodeaaDoor (iseat)
set_option linter.all false
set_option maxRecDepth 100000
theorem t11 : Kn04.r11 () = some true := by kernel_rfl
noncomputable section
def awake : Option Bool := opq (some true)
theorem awake_eq : awake = some true := by unfold awake; rw [opq_eq]
def sp11 : FnSpec iseat.toSeat := mkSpec iseat.toSeat 11 [] [.bool] true (fun _ => awake) (fun a x hx h h' => by
  replace hx : awake = some x := hx
  rw [awake_eq] at hx
  cases hx
  exact fn_contract (Z := iseat) (ats := []) (ts := [.bool]) (E := Kn04.E11) (fn := Tryd.f11) (c := bodyOf Tryd.f11) Tryd.func11 (by kernel_rfl) (by kernel_rfl) (by kernel_rfl) (by kernel_rfl) rfl (a := ()) (x := true) t11 h h') (fun _ x => rfl)
end
end Go.Proofs.Tp04
