/- Walks by computing: what each function of the program that the laws reach gives for what it gets, as plain Lean, and that it is so; without a condition but those that stand in each theorem. -/
import Derived.Test.YtbkogeihjcnejaaDoorW1
import Derived.Test.YtbkogeihjcnejaaDoorW2
import Derived.Test.YtbkogeihjcnejaaDoorW3
import Derived.Test.YtbkogeihjcnejaaDoorW4
import Derived.Test.YtbkogeihjcnejaaDoorW5
import Derived.Test.YtbkogeihjcnejaaDoorW6
import Derived.Test.YtbkogeihjcnejaaDoorW7
import Derived.Test.YtbkogeihjcnejaaDoorW8
import Derived.Test.YtbkogeihjcnejaaDoorW9
set_option linter.all false
namespace Go.Proofs.Crew
open Go Go.Ab
open Go.Proofs.YtbkogeihjcnejaaDoor (iseat)
set_option linter.all false
set_option maxRecDepth 100000
noncomputable section
def within' (it : It Bool) (n : Int) (low : Int) (high : Int) : Option Bool :=
  bif (decide (low ≤ n)) then
    some (decide (n ≤ high))
  else
    some false
def within : Int → Int → Int → Option Bool := (fun n low high => within' itN n low high)
theorem within_eq (n : Int) (low : Int) (high : Int) : within n low high = within' itN n low high := rfl
def E20 : FEnv iseat := ⟨⟨15, [], [], [], [], [], [], [], [], [], [], [], [], true⟩, []⟩
theorem e20 (it : It Bool) (n : Int) (low : Int) (high : Int) : fnRun (ts := [.bool]) it E20 (bodyOf Tryd.f20) Tryd.f20.results.toList (encA [.int .i64, .int .i64, .int .i64] (n, low, high, ())) = within' it n low high := by kernel_rfl
def sp20 : FnSpec iseat.toSeat := mkSpec iseat.toSeat 20 [.int .i64, .int .i64, .int .i64] [.bool] true (fun a => within a.1 a.2.1 a.2.2.1) (fun a x hx h h' => fn_contract (Z := iseat) (ats := [.int .i64, .int .i64, .int .i64]) (ts := [.bool]) (E := E20) (fn := Tryd.f20) (c := bodyOf Tryd.f20) Tryd.func20 (by kernel_rfl) (by kernel_rfl) (by kernel_rfl) (by kernel_rfl) rfl ((e20 itN a.1 a.2.1 a.2.2.1).trans ((within_eq a.1 a.2.1 a.2.2.1).symm.trans hx)) h h') (fun _ x => rfl)
def pCheckRules_L2 (u : Rules) (x14 : Int) (kn_ : Int → Option Int) : Option Int :=
  bif (decide (x14 < 4)) then
    bif x14 == 0 then
      (within u.Drive 1 3000).bind fun r =>
      bif (!r) then
        some 2
      else
        kn_ (w64 (x14 + 1))
    else
      bif x14 == 1 then
        (within u.Rest 1 3000).bind fun r2 =>
        bif (!r2) then
          some 2
        else
          kn_ (w64 (x14 + 1))
      else
        bif x14 == 2 then
          (within u.Day 1 3000).bind fun r3 =>
          bif (!r3) then
            some 2
          else
            kn_ (w64 (x14 + 1))
        else
          bif x14 == 3 then
            (within u.Most 1 3000).bind fun r4 =>
            bif (!r4) then
              some 2
            else
              kn_ (w64 (x14 + 1))
          else
            none
  else
    some 0
def pCheckRules' (it : It Int) (u : Rules) : Option Int :=
  it _ (fun (v_0 : (Int × Unit) × (Unit)) kn => pCheckRules_L2 u v_0.1.1 (fun y0 => kn ((y0, ()), (())))) ((0, ()), (()))
def pCheckRules : Rules → Option Int := (fun u => pCheckRules' itN u)
theorem pCheckRules_eq (u : Rules) : pCheckRules u = pCheckRules' itN u := rfl
def E8 : FEnv iseat := ⟨⟨21, [sp20], [], [], [], [], [], [], [], [], [], [], [], true⟩, [(2, ⟨⟨[(14, .v (.int .i64))], []⟩, [13], [], []⟩)]⟩
theorem e8 (it : It Int) (u : Rules) : fnRun (ts := [.int .i64]) it E8 (bodyOf Tryd.f8) Tryd.f8.results.toList (encA [.Rules] (u, ())) = pCheckRules' it u := by kernel_rfl
def sp8 : FnSpec iseat.toSeat := mkSpec iseat.toSeat 8 [.Rules] [.int .i64] true (fun a => pCheckRules a.1) (fun a x hx h h' => fn_contract (Z := iseat) (ats := [.Rules]) (ts := [.int .i64]) (E := E8) (fn := Tryd.f8) (c := bodyOf Tryd.f8) Tryd.func8 (by kernel_rfl) (by kernel_rfl) (by kernel_rfl) (by kernel_rfl) rfl ((e8 itN a.1).trans ((pCheckRules_eq a.1).symm.trans hx)) h h') (fun _ x => rfl)
def moment' (it : It Int) (x : Span) : Option Int :=
  (within x.Lo 0 3000).bind fun r =>
  bif (!r) then
    bif (!r) then
      some 2
    else
      bif (decide (x.Lo > x.Hi)) then
        some 11
      else
        some 0
  else
    (within x.Hi 0 3000).bind fun r2 =>
    bif (!r2) then
      some 2
    else
      bif (decide (x.Lo > x.Hi)) then
        some 11
      else
        some 0
def moment : Span → Option Int := (fun x => moment' itN x)
theorem moment_eq (x : Span) : moment x = moment' itN x := rfl
def E21 : FEnv iseat := ⟨⟨18, [sp20], [], [], [], [], [], [], [], [], [], [], [], true⟩, []⟩
theorem e21 (it : It Int) (x : Span) : fnRun (ts := [.int .i64]) it E21 (bodyOf Tryd.f21) Tryd.f21.results.toList (encA [.Span] (x, ())) = moment' it x := by kernel_rfl
def sp21 : FnSpec iseat.toSeat := mkSpec iseat.toSeat 21 [.Span] [.int .i64] true (fun a => moment a.1) (fun a x hx h h' => fn_contract (Z := iseat) (ats := [.Span]) (ts := [.int .i64]) (E := E21) (fn := Tryd.f21) (c := bodyOf Tryd.f21) Tryd.func21 (by kernel_rfl) (by kernel_rfl) (by kernel_rfl) (by kernel_rfl) rfl ((e21 itN a.1).trans ((moment_eq a.1).symm.trans hx)) h h') (fun _ x => rfl)
def longest' (it : It (Int × Int)) (s : Shift) (t : Turn) : Option (Int × Int) :=
  some (t.From.Lo, t.To.Hi)
def longest : Shift → Turn → Option (Int × Int) := (fun s t => longest' itN s t)
theorem longest_eq (s : Shift) (t : Turn) : longest s t = longest' itN s t := rfl
def E24 : FEnv iseat := ⟨⟨12, [], [], [], [], [], [], [], [], [], [], [], [], true⟩, []⟩
theorem e24 (it : It (Int × Int)) (s : Shift) (t : Turn) : fnRun (ts := [.int .i64, .int .i64]) it E24 (bodyOf Tryd.f24) Tryd.f24.results.toList (encA [.Shift, .Turn] (s, t, ())) = longest' it s t := by kernel_rfl
def sp24 : FnSpec iseat.toSeat := mkSpec iseat.toSeat 24 [.Shift, .Turn] [.int .i64, .int .i64] true (fun a => longest a.1 a.2.1) (fun a x hx h h' => fn_contract (Z := iseat) (ats := [.Shift, .Turn]) (ts := [.int .i64, .int .i64]) (E := E24) (fn := Tryd.f24) (c := bodyOf Tryd.f24) Tryd.func24 (by kernel_rfl) (by kernel_rfl) (by kernel_rfl) (by kernel_rfl) rfl ((e24 itN a.1 a.2.1).trans ((longest_eq a.1 a.2.1).symm.trans hx)) h h') (fun _ x => rfl)
def shortest' (it : It (Int × Int)) (s : Shift) (t : Turn) : Option (Int × Int) :=
  some (t.From.Hi, t.To.Lo)
def shortest : Shift → Turn → Option (Int × Int) := (fun s t => shortest' itN s t)
theorem shortest_eq (s : Shift) (t : Turn) : shortest s t = shortest' itN s t := rfl
def E43 : FEnv iseat := ⟨⟨12, [], [], [], [], [], [], [], [], [], [], [], [], true⟩, []⟩
theorem e43 (it : It (Int × Int)) (s : Shift) (t : Turn) : fnRun (ts := [.int .i64, .int .i64]) it E43 (bodyOf Tryd.f43) Tryd.f43.results.toList (encA [.Shift, .Turn] (s, t, ())) = shortest' it s t := by kernel_rfl
def sp43 : FnSpec iseat.toSeat := mkSpec iseat.toSeat 43 [.Shift, .Turn] [.int .i64, .int .i64] true (fun a => shortest a.1 a.2.1) (fun a x hx h h' => fn_contract (Z := iseat) (ats := [.Shift, .Turn]) (ts := [.int .i64, .int .i64]) (E := E43) (fn := Tryd.f43) (c := bodyOf Tryd.f43) Tryd.func43 (by kernel_rfl) (by kernel_rfl) (by kernel_rfl) (by kernel_rfl) rfl ((e43 itN a.1 a.2.1).trans ((shortest_eq a.1 a.2.1).symm.trans hx)) h h') (fun _ x => rfl)
def minutesL_L5 (a0 : Shift) (a1 : Shift) (x10 : Int) (kn_ : Int → Option (List (Int × Bool × Unit))) (drives : Bool) (x17 : Int) (kn_2 : Bool → Int → Option (List (Int × Bool × Unit))) : Option (List (Int × Bool × Unit)) :=
  bif (decide (x17 < (a0.Driver.Turns.length : Int))) then
    chk (decide (0 ≤ x17) && decide (x17 < (a0.Driver.Turns.length : Int))) <|
    (longest a1 (a0.Driver.Turns.getD x17.toNat dfltTurn)).bind fun r =>
    bif drives then
      kn_2 true (w64 (x17 + 1))
    else
      bif (decide (r.1 ≤ x10)) then
        kn_2 (decide (x10 < r.2)) (w64 (x17 + 1))
      else
        kn_2 false (w64 (x17 + 1))
  else
    consM (x10, drives, ())
      (some [])
      (kn_ (w64 (x10 + 1)))
def minutesL_L1 (it : It (List (Int × Bool × Unit))) (a0 : Shift) (a1 : Shift) (x10 : Int) (kn_ : Int → Option (List (Int × Bool × Unit))) : Option (List (Int × Bool × Unit)) :=
  bif (decide (x10 < 3000)) then
    it _ (fun (v_0 : (Unit × Bool × Int × Unit) × (Unit)) kn => minutesL_L5 a0 a1 x10 kn_ v_0.1.2.1 v_0.1.2.2.1 (fun y0 y1 => kn (((), y0, y1, ()), (())))) (((), false, 0, ()), (()))
  else
    some []
def minutesL' (it : It (List (Int × Bool × Unit))) (a0 : Shift) (a1 : Shift) : Option (List (Int × Bool × Unit)) :=
  it _ (fun (v_0 : (Unit × Int × Unit) × (Unit)) kn => minutesL_L1 it a0 a1 v_0.1.2.1 (fun y0 => kn (((), y0, ()), (())))) (((), 0, ()), (()))
def minutesL : Shift → Shift → Option (List (Int × Bool × Unit)) := (fun a0 a1 => minutesL' itN a0 a1)
theorem minutesL_eq (a0 : Shift) (a1 : Shift) : minutesL a0 a1 = minutesL' itN a0 a1 := rfl
def E57_24 : FEnv iseat := ⟨⟨45, [sp24], [], [], [], [], [], [], [], [], [], [], [YL], true⟩, [(1, ⟨⟨[(0, .yl YL), (10, .v (.int .i64))], []⟩, [1, 2], [], []⟩), (5, ⟨⟨[(0, .yl YL), (5, .v .bool), (17, .v (.int .i64))], []⟩, [4, 10, 15, 16], [], []⟩)]⟩
theorem e57_24 (it : It (List (Int × Bool × Unit))) (a0 : Shift) (a1 : Shift) : fnRunI [.int .i64, .bool] it E57_24 (bodyOf Tryd.f57) (encA [.ptr .Shift, .ptr (.mfn 24 .Shift)] (a0, a1, ())) = minutesL' it a0 a1 := by kernel_rfl
def it57_24 : ItSpec iseat.toSeat := mkItSpec iseat.toSeat 57 [.ptr .Shift, .ptr (.mfn 24 .Shift)] [.int .i64, .bool] rfl (fun a => minutesL a.1 a.2.1) (fun a x hx h => it_contract (Z := iseat) (cts := [.ptr .Shift, .ptr (.mfn 24 .Shift)]) (E := E57_24) (fn := Tryd.f57) (c := bodyOf Tryd.f57) Tryd.func57 (by kernel_rfl) (by kernel_rfl) (by kernel_rfl) (by kernel_rfl) rfl rfl ((e57_24 itN a.1 a.2.1).trans ((minutesL_eq a.1 a.2.1).symm.trans hx)) h)
def minutesS_L5 (a0 : Shift) (a1 : Shift) (x10 : Int) (kn_ : Int → Option (List (Int × Bool × Unit))) (drives : Bool) (x17 : Int) (kn_2 : Bool → Int → Option (List (Int × Bool × Unit))) : Option (List (Int × Bool × Unit)) :=
  bif (decide (x17 < (a0.Driver.Turns.length : Int))) then
    chk (decide (0 ≤ x17) && decide (x17 < (a0.Driver.Turns.length : Int))) <|
    (shortest a1 (a0.Driver.Turns.getD x17.toNat dfltTurn)).bind fun r =>
    bif drives then
      kn_2 true (w64 (x17 + 1))
    else
      bif (decide (r.1 ≤ x10)) then
        kn_2 (decide (x10 < r.2)) (w64 (x17 + 1))
      else
        kn_2 false (w64 (x17 + 1))
  else
    consM (x10, drives, ())
      (some [])
      (kn_ (w64 (x10 + 1)))
def minutesS_L1 (it : It (List (Int × Bool × Unit))) (a0 : Shift) (a1 : Shift) (x10 : Int) (kn_ : Int → Option (List (Int × Bool × Unit))) : Option (List (Int × Bool × Unit)) :=
  bif (decide (x10 < 3000)) then
    it _ (fun (v_0 : (Unit × Bool × Int × Unit) × (Unit)) kn => minutesS_L5 a0 a1 x10 kn_ v_0.1.2.1 v_0.1.2.2.1 (fun y0 y1 => kn (((), y0, y1, ()), (())))) (((), false, 0, ()), (()))
  else
    some []
def minutesS' (it : It (List (Int × Bool × Unit))) (a0 : Shift) (a1 : Shift) : Option (List (Int × Bool × Unit)) :=
  it _ (fun (v_0 : (Unit × Int × Unit) × (Unit)) kn => minutesS_L1 it a0 a1 v_0.1.2.1 (fun y0 => kn (((), y0, ()), (())))) (((), 0, ()), (()))
def minutesS : Shift → Shift → Option (List (Int × Bool × Unit)) := (fun a0 a1 => minutesS' itN a0 a1)
theorem minutesS_eq (a0 : Shift) (a1 : Shift) : minutesS a0 a1 = minutesS' itN a0 a1 := rfl
def E57_43 : FEnv iseat := ⟨⟨45, [sp43], [], [], [], [], [], [], [], [], [], [], [YL], true⟩, [(1, ⟨⟨[(0, .yl YL), (10, .v (.int .i64))], []⟩, [1, 2], [], []⟩), (5, ⟨⟨[(0, .yl YL), (5, .v .bool), (17, .v (.int .i64))], []⟩, [4, 10, 15, 16], [], []⟩)]⟩
theorem e57_43 (it : It (List (Int × Bool × Unit))) (a0 : Shift) (a1 : Shift) : fnRunI [.int .i64, .bool] it E57_43 (bodyOf Tryd.f57) (encA [.ptr .Shift, .ptr (.mfn 43 .Shift)] (a0, a1, ())) = minutesS' it a0 a1 := by kernel_rfl
def it57_43 : ItSpec iseat.toSeat := mkItSpec iseat.toSeat 57 [.ptr .Shift, .ptr (.mfn 43 .Shift)] [.int .i64, .bool] rfl (fun a => minutesS a.1 a.2.1) (fun a x hx h => it_contract (Z := iseat) (cts := [.ptr .Shift, .ptr (.mfn 43 .Shift)]) (E := E57_43) (fn := Tryd.f57) (c := bodyOf Tryd.f57) Tryd.func57 (by kernel_rfl) (by kernel_rfl) (by kernel_rfl) (by kernel_rfl) rfl rfl ((e57_43 itN a.1 a.2.1).trans ((minutesS_eq a.1 a.2.1).symm.trans hx)) h)
def it57 : ItSpec iseat.toSeat := (altIt 1 24 57 [.int .i64, .bool] it57_24 it57_43 rfl rfl rfl rfl)
def minL' (it : It (Shift × Shift)) (s : Shift) (turn : Shift) : Option (Shift × Shift) :=
  some (s, turn)
def minL : Shift → Shift → Option (Shift × Shift) := (fun s turn => minL' itN s turn)
theorem minL_eq (s : Shift) (turn : Shift) : minL s turn = minL' itN s turn := rfl
def E42_24 : FEnv iseat := ⟨⟨6, [], [], [], [], [], [], [], [], [], [], [], [], true⟩, []⟩
theorem e42_24 (it : It (Shift × Shift)) (s : Shift) (turn : Shift) : fnRunC2 57 .Shift (.mfn 24 .Shift) it E42_24 (bodyOf Tryd.f42) Tryd.f42.results.toList (encA [.Shift, .mfn 24 .Shift] (s, turn, ())) = minL' it s turn := by kernel_rfl
def sp42_24 : FnSpec iseat.toSeat := mkSpec iseat.toSeat 42 [.Shift, .mfn 24 .Shift] [.clo2 57 .Shift (.mfn 24 .Shift)] false (fun a => minL a.1 a.2.1) (fun a x hx h h' => fn_contractC2 (Z := iseat) (ats := [.Shift, .mfn 24 .Shift]) (E := E42_24) (fn := Tryd.f42) (c := bodyOf Tryd.f42) Tryd.func42 (by kernel_rfl) (by kernel_rfl) (by kernel_rfl) (by kernel_rfl) rfl ((e42_24 itN a.1 a.2.1).trans ((minL_eq a.1 a.2.1).symm.trans hx)) h h') (fun h => nomatch h)
def minS' (it : It (Shift × Shift)) (s : Shift) (turn : Shift) : Option (Shift × Shift) :=
  some (s, turn)
def minS : Shift → Shift → Option (Shift × Shift) := (fun s turn => minS' itN s turn)
theorem minS_eq (s : Shift) (turn : Shift) : minS s turn = minS' itN s turn := rfl
def E42_43 : FEnv iseat := ⟨⟨6, [], [], [], [], [], [], [], [], [], [], [], [], true⟩, []⟩
theorem e42_43 (it : It (Shift × Shift)) (s : Shift) (turn : Shift) : fnRunC2 57 .Shift (.mfn 43 .Shift) it E42_43 (bodyOf Tryd.f42) Tryd.f42.results.toList (encA [.Shift, .mfn 43 .Shift] (s, turn, ())) = minS' it s turn := by kernel_rfl
def sp42_43 : FnSpec iseat.toSeat := mkSpec iseat.toSeat 42 [.Shift, .mfn 43 .Shift] [.clo2 57 .Shift (.mfn 43 .Shift)] false (fun a => minS a.1 a.2.1) (fun a x hx h h' => fn_contractC2 (Z := iseat) (ats := [.Shift, .mfn 43 .Shift]) (E := E42_43) (fn := Tryd.f42) (c := bodyOf Tryd.f42) Tryd.func42 (by kernel_rfl) (by kernel_rfl) (by kernel_rfl) (by kernel_rfl) rfl ((e42_43 itN a.1 a.2.1).trans ((minS_eq a.1 a.2.1).symm.trans hx)) h h') (fun h => nomatch h)
def sp42 : FnSpec iseat.toSeat := (altSpec 1 24 42 false sp42_24 sp42_43 rfl rfl rfl rfl)
def brokenL_L11 (x14 : Int) (s : Shift) (since : Int) (kn_ : Int → Int → Int → Int → (List Int) → Option (Int × Int)) (rule : Int) (minute : Int) (driven2 : List Int) (kn_2 : (List Int) → Option (Int × Int)) : Option (Int × Int) :=
  chk (decide (0 ≤ 0) && decide (0 < (driven2.length : Int))) <|
  chk (decide (0 < driven2.length)) <|
  bif (decide ((driven2.getD 0 0) ≤ (w64 (x14 - s.rules.Day)))) then
    chk (decide (0 ≤ 1) && decide (1 ≤ (driven2.length : Int)) && decide ((driven2.length : Int) ≤ (driven2.length : Int))) <|
    kn_2 (subL driven2 1 (driven2.length : Int))
  else
    bif (decide ((w64 (since + 1)) > s.rules.Drive)) then
      some (1, x14)
    else
      bif (decide ((driven2.length : Int) > s.rules.Most)) then
        some (2, x14)
      else
        kn_ rule minute (w64 (since + 1)) 0 driven2
def brokenL_E4 (rule : Int) (minute : Int) (since : Int) (idle : Int) (driven : List Int) : Option (Int × Int) :=
  some (0, 0)
def brokenL_L4 (it : It (Int × Int)) (s : Shift) (rule : Int) (minute : Int) (since : Int) (idle : Int) (driven : List Int) (x14 : Int) (x15 : Bool) (kn_ : Int → Int → Int → Int → (List Int) → Option (Int × Int)) : Option (Int × Int) :=
  bif (!x15) then
    bif (decide ((w64 (idle + 1)) ≥ s.rules.Rest)) then
      kn_ rule minute 0 (w64 (idle + 1)) driven
    else
      kn_ rule minute since (w64 (idle + 1)) driven
  else
    chk (fitA (driven.length + [x14].length) 8) <|
    it _ (fun (v_0 : (Unit × Unit × Unit × Unit × Unit × Unit × Unit) × (((List Int) × Unit) × Unit)) kn => brokenL_L11 x14 s since kn_ rule minute v_0.2.1.1 (fun y0 => kn (((), (), (), (), (), (), ()), ((y0, ()), ())))) (((), (), (), (), (), (), ()), (((driven ++ [x14]), ()), ()))
def brokenL' (it : It (Int × Int)) (s : Shift) (turn : Shift) : Option (Int × Int) :=
  (minL s turn).bind fun r =>
  (minutesL r.1 r.2).bind fun items => it _ (fun (v_0 : ((Unit × Unit × Unit × Unit × Unit × Unit × Unit) × ((Int × Unit) × (Int × Unit) × (Int × Unit) × (Int × Unit) × ((List Int) × Unit) × Unit)) × List (Int × Bool × Unit)) kn => match v_0.2 with
    | [] => brokenL_E4 v_0.1.2.1.1 v_0.1.2.2.1.1 v_0.1.2.2.2.1.1 v_0.1.2.2.2.2.1.1 v_0.1.2.2.2.2.2.1.1
    | a :: l => brokenL_L4 it s v_0.1.2.1.1 v_0.1.2.2.1.1 v_0.1.2.2.2.1.1 v_0.1.2.2.2.2.1.1 v_0.1.2.2.2.2.2.1.1 a.1 a.2.1 (fun y0 y1 y2 y3 y4 => kn ((((), (), (), (), (), (), ()), ((y0, ()), (y1, ()), (y2, ()), (y3, ()), (y4, ()), ())), l))) ((((), (), (), (), (), (), ()), ((0, ()), (0, ()), (0, ()), (0, ()), ([], ()), ())), items)
def brokenL : Shift → Shift → Option (Int × Int) := (fun s turn => brokenL' itN s turn)
theorem brokenL_eq (s : Shift) (turn : Shift) : brokenL s turn = brokenL' itN s turn := rfl
def E23_24 : FEnv iseat := ⟨⟨57, [sp42], [], [], [], [it57], [], [], [], [], [], [29], [], true⟩, [(4, ⟨⟨[(2, .bx 2 0), (4, .bx 4 0), (5, .bx 5 0), (6, .bx 6 0), (7, .bx 7 0), (8, .bx 8 0)], [(4, [.v (.int .i64)]), (5, [.v (.int .i64)]), (6, [.v (.int .i64)]), (7, [.v (.int .i64)]), (8, [.os 30 3 (.int .i64)])]⟩, [13], [2], []⟩), (11, ⟨⟨[(2, .bx 2 0), (4, .bx 4 0), (5, .bx 5 0), (6, .bx 6 0), (7, .bx 7 0), (8, .bx 8 0)], [(8, [.os 30 3 (.int .i64)])]⟩, [9], [4, 5, 6, 7], []⟩)]⟩
theorem e23_24 (it : It (Int × Int)) (s : Shift) (turn : Shift) : fnRun (ts := [.int .i64, .int .i64]) it E23_24 (bodyOf Tryd.f23) Tryd.f23.results.toList (encA [.Shift, .mfn 24 .Shift] (s, turn, ())) = brokenL' it s turn := by kernel_rfl
def sp23_24 : FnSpec iseat.toSeat := mkSpec iseat.toSeat 23 [.Shift, .mfn 24 .Shift] [.int .i64, .int .i64] true (fun a => brokenL a.1 a.2.1) (fun a x hx h h' => fn_contract (Z := iseat) (ats := [.Shift, .mfn 24 .Shift]) (ts := [.int .i64, .int .i64]) (E := E23_24) (fn := Tryd.f23) (c := bodyOf Tryd.f23) Tryd.func23 (by kernel_rfl) (by kernel_rfl) (by kernel_rfl) (by kernel_rfl) rfl ((e23_24 itN a.1 a.2.1).trans ((brokenL_eq a.1 a.2.1).symm.trans hx)) h h') (fun _ x => rfl)
def brokenS_L11 (x14 : Int) (s : Shift) (since : Int) (kn_ : Int → Int → Int → Int → (List Int) → Option (Int × Int)) (rule : Int) (minute : Int) (driven2 : List Int) (kn_2 : (List Int) → Option (Int × Int)) : Option (Int × Int) :=
  chk (decide (0 ≤ 0) && decide (0 < (driven2.length : Int))) <|
  chk (decide (0 < driven2.length)) <|
  bif (decide ((driven2.getD 0 0) ≤ (w64 (x14 - s.rules.Day)))) then
    chk (decide (0 ≤ 1) && decide (1 ≤ (driven2.length : Int)) && decide ((driven2.length : Int) ≤ (driven2.length : Int))) <|
    kn_2 (subL driven2 1 (driven2.length : Int))
  else
    bif (decide ((w64 (since + 1)) > s.rules.Drive)) then
      some (1, x14)
    else
      bif (decide ((driven2.length : Int) > s.rules.Most)) then
        some (2, x14)
      else
        kn_ rule minute (w64 (since + 1)) 0 driven2
def brokenS_E4 (rule : Int) (minute : Int) (since : Int) (idle : Int) (driven : List Int) : Option (Int × Int) :=
  some (0, 0)
def brokenS_L4 (it : It (Int × Int)) (s : Shift) (rule : Int) (minute : Int) (since : Int) (idle : Int) (driven : List Int) (x14 : Int) (x15 : Bool) (kn_ : Int → Int → Int → Int → (List Int) → Option (Int × Int)) : Option (Int × Int) :=
  bif (!x15) then
    bif (decide ((w64 (idle + 1)) ≥ s.rules.Rest)) then
      kn_ rule minute 0 (w64 (idle + 1)) driven
    else
      kn_ rule minute since (w64 (idle + 1)) driven
  else
    chk (fitA (driven.length + [x14].length) 8) <|
    it _ (fun (v_0 : (Unit × Unit × Unit × Unit × Unit × Unit × Unit) × (((List Int) × Unit) × Unit)) kn => brokenS_L11 x14 s since kn_ rule minute v_0.2.1.1 (fun y0 => kn (((), (), (), (), (), (), ()), ((y0, ()), ())))) (((), (), (), (), (), (), ()), (((driven ++ [x14]), ()), ()))
def brokenS' (it : It (Int × Int)) (s : Shift) (turn : Shift) : Option (Int × Int) :=
  (minS s turn).bind fun r =>
  (minutesS r.1 r.2).bind fun items => it _ (fun (v_0 : ((Unit × Unit × Unit × Unit × Unit × Unit × Unit) × ((Int × Unit) × (Int × Unit) × (Int × Unit) × (Int × Unit) × ((List Int) × Unit) × Unit)) × List (Int × Bool × Unit)) kn => match v_0.2 with
    | [] => brokenS_E4 v_0.1.2.1.1 v_0.1.2.2.1.1 v_0.1.2.2.2.1.1 v_0.1.2.2.2.2.1.1 v_0.1.2.2.2.2.2.1.1
    | a :: l => brokenS_L4 it s v_0.1.2.1.1 v_0.1.2.2.1.1 v_0.1.2.2.2.1.1 v_0.1.2.2.2.2.1.1 v_0.1.2.2.2.2.2.1.1 a.1 a.2.1 (fun y0 y1 y2 y3 y4 => kn ((((), (), (), (), (), (), ()), ((y0, ()), (y1, ()), (y2, ()), (y3, ()), (y4, ()), ())), l))) ((((), (), (), (), (), (), ()), ((0, ()), (0, ()), (0, ()), (0, ()), ([], ()), ())), items)
def brokenS : Shift → Shift → Option (Int × Int) := (fun s turn => brokenS' itN s turn)
theorem brokenS_eq (s : Shift) (turn : Shift) : brokenS s turn = brokenS' itN s turn := rfl
def E23_43 : FEnv iseat := ⟨⟨57, [sp42], [], [], [], [it57], [], [], [], [], [], [29], [], true⟩, [(4, ⟨⟨[(2, .bx 2 0), (4, .bx 4 0), (5, .bx 5 0), (6, .bx 6 0), (7, .bx 7 0), (8, .bx 8 0)], [(4, [.v (.int .i64)]), (5, [.v (.int .i64)]), (6, [.v (.int .i64)]), (7, [.v (.int .i64)]), (8, [.os 30 3 (.int .i64)])]⟩, [13], [2], []⟩), (11, ⟨⟨[(2, .bx 2 0), (4, .bx 4 0), (5, .bx 5 0), (6, .bx 6 0), (7, .bx 7 0), (8, .bx 8 0)], [(8, [.os 30 3 (.int .i64)])]⟩, [9], [4, 5, 6, 7], []⟩)]⟩
theorem e23_43 (it : It (Int × Int)) (s : Shift) (turn : Shift) : fnRun (ts := [.int .i64, .int .i64]) it E23_43 (bodyOf Tryd.f23) Tryd.f23.results.toList (encA [.Shift, .mfn 43 .Shift] (s, turn, ())) = brokenS' it s turn := by kernel_rfl
def sp23_43 : FnSpec iseat.toSeat := mkSpec iseat.toSeat 23 [.Shift, .mfn 43 .Shift] [.int .i64, .int .i64] true (fun a => brokenS a.1 a.2.1) (fun a x hx h h' => fn_contract (Z := iseat) (ats := [.Shift, .mfn 43 .Shift]) (ts := [.int .i64, .int .i64]) (E := E23_43) (fn := Tryd.f23) (c := bodyOf Tryd.f23) Tryd.func23 (by kernel_rfl) (by kernel_rfl) (by kernel_rfl) (by kernel_rfl) rfl ((e23_43 itN a.1 a.2.1).trans ((brokenS_eq a.1 a.2.1).symm.trans hx)) h h') (fun _ x => rfl)
def sp23 : FnSpec iseat.toSeat := (altSpec 1 24 23 true sp23_24 sp23_43 rfl rfl rfl rfl)
def pVerdict' (it : It Int) (s : Shift) : Option Int :=
  (brokenL s s).bind fun r =>
  bif (r.1 == 0) then
    some 1
  else
    (brokenS s s).bind fun r2 =>
    bif (r2.1 != 0) then
      some 2
    else
      some 3
def pVerdict : Shift → Option Int := (fun s => pVerdict' itN s)
theorem pVerdict_eq (s : Shift) : pVerdict s = pVerdict' itN s := rfl
def E25 : FEnv iseat := ⟨⟨25, [sp23], [], [], [], [], [], [], [], [], [], [], [], true⟩, []⟩
theorem e25 (it : It Int) (s : Shift) : fnRun (ts := [.int .i64]) it E25 (bodyOf Tryd.f25) Tryd.f25.results.toList (encA [.Shift] (s, ())) = pVerdict' it s := by kernel_rfl
def pClashes_L2 (s : Shift) (at_ : Int) (long : Int) (x13 : Int) (kn_ : Int → Option Bool) : Option Bool :=
  bif (decide (x13 < (s.Driver.Turns.length : Int))) then
    chk (decide (0 ≤ x13) && decide (x13 < (s.Driver.Turns.length : Int))) <|
    bif (decide (at_ < (s.Driver.Turns.getD x13.toNat dfltTurn).To.Hi)) then
      bif (decide ((w64 (at_ + long)) > (s.Driver.Turns.getD x13.toNat dfltTurn).From.Lo)) then
        some true
      else
        kn_ (w64 (x13 + 1))
    else
      kn_ (w64 (x13 + 1))
  else
    some false
def pClashes' (it : It Bool) (s : Shift) (at_ : Int) (long : Int) : Option Bool :=
  it _ (fun (v_0 : (Int × Unit) × (Unit)) kn => pClashes_L2 s at_ long v_0.1.1 (fun y0 => kn ((y0, ()), (())))) ((0, ()), (()))
def pClashes : Shift → Int → Int → Option Bool := (fun s at_ long => pClashes' itN s at_ long)
theorem pClashes_eq (s : Shift) (at_ : Int) (long : Int) : pClashes s at_ long = pClashes' itN s at_ long := rfl
def E44 : FEnv iseat := ⟨⟨32, [], [], [], [], [], [], [], [], [], [], [], [], true⟩, [(2, ⟨⟨[(13, .v (.int .i64))], []⟩, [1, 2, 11, 12], [], []⟩)]⟩
theorem e44 (it : It Bool) (s : Shift) (at_ : Int) (long : Int) : fnRun (ts := [.bool]) it E44 (bodyOf Tryd.f44) Tryd.f44.results.toList (encA [.Shift, .int .i64, .int .i64] (s, at_, long, ())) = pClashes' it s at_ long := by kernel_rfl
def sp44 : FnSpec iseat.toSeat := mkSpec iseat.toSeat 44 [.Shift, .int .i64, .int .i64] [.bool] true (fun a => pClashes a.1 a.2.1 a.2.2.1) (fun a x hx h h' => fn_contract (Z := iseat) (ats := [.Shift, .int .i64, .int .i64]) (ts := [.bool]) (E := E44) (fn := Tryd.f44) (c := bodyOf Tryd.f44) Tryd.func44 (by kernel_rfl) (by kernel_rfl) (by kernel_rfl) (by kernel_rfl) rfl ((e44 itN a.1 a.2.1 a.2.2.1).trans ((pClashes_eq a.1 a.2.1 a.2.2.1).symm.trans hx)) h h') (fun _ x => rfl)
def more' (it : It Shift) (s : Shift) (at_ : Int) (long : Int) : Option Shift :=
  chk (fitM (w64 ((s.Driver.Turns.length : Int) + 1)) 32) <|
  chk (decide (0 ≤ (s.Driver.Turns.length : Int)) && decide ((s.Driver.Turns.length : Int) < ((cpL (List.replicate (w64 ((s.Driver.Turns.length : Int) + 1)).toNat ((⟨⟨0, 0⟩, ⟨0, 0⟩⟩ : Turn) : Turn)) s.Driver.Turns).length : Int))) <|
  chk (decide ((s.Driver.Turns.length : Int).toNat < (cpL (List.replicate (w64 ((s.Driver.Turns.length : Int) + 1)).toNat ((⟨⟨0, 0⟩, ⟨0, 0⟩⟩ : Turn) : Turn)) s.Driver.Turns).length)) <|
  some (⟨⟨s.Driver.Name, s.Driver.Skills, ((cpL (List.replicate (w64 ((s.Driver.Turns.length : Int) + 1)).toNat ((⟨⟨0, 0⟩, ⟨0, 0⟩⟩ : Turn) : Turn)) s.Driver.Turns).set (s.Driver.Turns.length : Int).toNat (⟨⟨at_, at_⟩, ⟨(w64 (at_ + long)), (w64 (at_ + long))⟩⟩ : Turn))⟩, s.rules⟩ : Shift)
def more : Shift → Int → Int → Option Shift := (fun s at_ long => more' itN s at_ long)
theorem more_eq (s : Shift) (at_ : Int) (long : Int) : more s at_ long = more' itN s at_ long := rfl
def E45 : FEnv iseat := ⟨⟨40, [], [], [], [], [], [], [], [], [], [], [], [], true⟩, []⟩
theorem e45 (it : It Shift) (s : Shift) (at_ : Int) (long : Int) : fnRun (ts := [.Shift]) it E45 (bodyOf Tryd.f45) Tryd.f45.results.toList (encA [.Shift, .int .i64, .int .i64] (s, at_, long, ())) = more' it s at_ long := by kernel_rfl
def sp45 : FnSpec iseat.toSeat := mkSpec iseat.toSeat 45 [.Shift, .int .i64, .int .i64] [.Shift] false (fun a => more a.1 a.2.1 a.2.2.1) (fun a x hx h h' => fn_contract (Z := iseat) (ats := [.Shift, .int .i64, .int .i64]) (ts := [.Shift]) (E := E45) (fn := Tryd.f45) (c := bodyOf Tryd.f45) Tryd.func45 (by kernel_rfl) (by kernel_rfl) (by kernel_rfl) (by kernel_rfl) rfl ((e45 itN a.1 a.2.1 a.2.2.1).trans ((more_eq a.1 a.2.1 a.2.2.1).symm.trans hx)) h h') (fun h => nomatch h)
def pMay1' (it : It Bool) (s : Shift) (at_ : Int) (long : Int) : Option Bool :=
  (pClashes s at_ long).bind fun r =>
  bif r then
    some false
  else
    (more s at_ long).bind fun r2 =>
    (brokenL r2 r2).bind fun r3 =>
    some (r3.1 == 0)
def pMay1 : Shift → Int → Int → Option Bool := (fun s at_ long => pMay1' itN s at_ long)
theorem pMay1_eq (s : Shift) (at_ : Int) (long : Int) : pMay1 s at_ long = pMay1' itN s at_ long := rfl
def E33 : FEnv iseat := ⟨⟨27, [sp44, sp45, sp23], [], [], [], [], [], [], [], [], [], [], [], true⟩, []⟩
theorem e33 (it : It Bool) (s : Shift) (at_ : Int) (long : Int) : fnRun (ts := [.bool]) it E33 (bodyOf Tryd.f33) Tryd.f33.results.toList (encA [.Shift, .int .i64, .int .i64] (s, at_, long, ())) = pMay1' it s at_ long := by kernel_rfl
def sp33 : FnSpec iseat.toSeat := mkSpec iseat.toSeat 33 [.Shift, .int .i64, .int .i64] [.bool] true (fun a => pMay1 a.1 a.2.1 a.2.2.1) (fun a x hx h h' => fn_contract (Z := iseat) (ats := [.Shift, .int .i64, .int .i64]) (ts := [.bool]) (E := E33) (fn := Tryd.f33) (c := bodyOf Tryd.f33) Tryd.func33 (by kernel_rfl) (by kernel_rfl) (by kernel_rfl) (by kernel_rfl) rfl ((e33 itN a.1 a.2.1 a.2.2.1).trans ((pMay1_eq a.1 a.2.1 a.2.2.1).symm.trans hx)) h h') (fun _ x => rfl)
def pCheck_L10 (d : Driver) (x33 : Int) (kn_ : Int → Option Int) : Option Int :=
  bif (decide (x33 < (d.Turns.length : Int))) then
    chk (decide (0 ≤ x33) && decide (x33 < (d.Turns.length : Int))) <|
    (moment ((d.Turns.getD x33.toNat dfltTurn).From)).bind fun r2 =>
    bif (r2 != 0) then
      some r2
    else
      (moment ((d.Turns.getD x33.toNat dfltTurn).To)).bind fun r3 =>
      bif (r3 != 0) then
        some r3
      else
        bif (decide ((d.Turns.getD x33.toNat dfltTurn).From.Hi > (d.Turns.getD x33.toNat dfltTurn).To.Lo)) then
          some 11
        else
          bif (decide (x33 > 0)) then
            chk (decide (0 ≤ (w64 (x33 - 1))) && decide ((w64 (x33 - 1)) < (d.Turns.length : Int))) <|
            bif (decide ((d.Turns.getD x33.toNat dfltTurn).From.Lo < (d.Turns.getD (w64 (x33 - 1)).toNat dfltTurn).To.Hi)) then
              some 12
            else
              kn_ (w64 (x33 + 1))
          else
            kn_ (w64 (x33 + 1))
  else
    some 0
def pCheck_L10__2 (d : Driver) (x332 : Int) (kn_2 : Int → Option Int) : Option Int :=
  bif (decide (x332 < (d.Turns.length : Int))) then
    chk (decide (0 ≤ x332) && decide (x332 < (d.Turns.length : Int))) <|
    (moment ((d.Turns.getD x332.toNat dfltTurn).From)).bind fun r5 =>
    bif (r5 != 0) then
      some r5
    else
      (moment ((d.Turns.getD x332.toNat dfltTurn).To)).bind fun r6 =>
      bif (r6 != 0) then
        some r6
      else
        bif (decide ((d.Turns.getD x332.toNat dfltTurn).From.Hi > (d.Turns.getD x332.toNat dfltTurn).To.Lo)) then
          some 11
        else
          bif (decide (x332 > 0)) then
            chk (decide (0 ≤ (w64 (x332 - 1))) && decide ((w64 (x332 - 1)) < (d.Turns.length : Int))) <|
            bif (decide ((d.Turns.getD x332.toNat dfltTurn).From.Lo < (d.Turns.getD (w64 (x332 - 1)).toNat dfltTurn).To.Hi)) then
              some 12
            else
              kn_2 (w64 (x332 + 1))
          else
            kn_2 (w64 (x332 + 1))
  else
    some 0
def pCheck_L10__3 (d : Driver) (x333 : Int) (kn_3 : Int → Option Int) : Option Int :=
  bif (decide (x333 < (d.Turns.length : Int))) then
    chk (decide (0 ≤ x333) && decide (x333 < (d.Turns.length : Int))) <|
    (moment ((d.Turns.getD x333.toNat dfltTurn).From)).bind fun r9 =>
    bif (r9 != 0) then
      some r9
    else
      (moment ((d.Turns.getD x333.toNat dfltTurn).To)).bind fun r10 =>
      bif (r10 != 0) then
        some r10
      else
        bif (decide ((d.Turns.getD x333.toNat dfltTurn).From.Hi > (d.Turns.getD x333.toNat dfltTurn).To.Lo)) then
          some 11
        else
          bif (decide (x333 > 0)) then
            chk (decide (0 ≤ (w64 (x333 - 1))) && decide ((w64 (x333 - 1)) < (d.Turns.length : Int))) <|
            bif (decide ((d.Turns.getD x333.toNat dfltTurn).From.Lo < (d.Turns.getD (w64 (x333 - 1)).toNat dfltTurn).To.Hi)) then
              some 12
            else
              kn_3 (w64 (x333 + 1))
          else
            kn_3 (w64 (x333 + 1))
  else
    some 0
def pCheck' (it : It Int) (d : Driver) : Option Int :=
  bif (decide ((d.Name.size : Int) < 1)) then
    bif (decide ((d.Name.size : Int) < 1)) then
      some 3
    else
      (within d.Skills 0 255).bind fun r =>
      bif (!r) then
        some 2
      else
        bif (decide ((d.Turns.length : Int) > 20)) then
          some 8
        else
          it _ (fun (v_0 : (Unit × Int × Unit) × (Unit)) kn => pCheck_L10 d v_0.1.2.1 (fun y0 => kn (((), y0, ()), (())))) (((), 0, ()), (()))
  else
    bif (decide ((d.Name.size : Int) > 8)) then
      bif (decide ((d.Name.size : Int) > 8)) then
        some 3
      else
        (within d.Skills 0 255).bind fun r4 =>
        bif (!r4) then
          some 2
        else
          bif (decide ((d.Turns.length : Int) > 20)) then
            some 8
          else
            it _ (fun (v_0 : (Unit × Int × Unit) × (Unit)) kn => pCheck_L10__2 d v_0.1.2.1 (fun y0 => kn (((), y0, ()), (())))) (((), 0, ()), (()))
    else
      (trim d.Name (⟨#[97, 98, 99, 100, 101, 102, 103, 104, 105, 106, 107, 108, 109, 110, 111, 112, 113, 114, 115, 116, 117, 118, 119, 120, 121, 122]⟩ : ByteArray)).bind fun r7 =>
      bif (!(r7.toList == (⟨#[]⟩ : ByteArray).toList)) then
        some 3
      else
        (within d.Skills 0 255).bind fun r8 =>
        bif (!r8) then
          some 2
        else
          bif (decide ((d.Turns.length : Int) > 20)) then
            some 8
          else
            it _ (fun (v_0 : (Unit × Int × Unit) × (Unit)) kn => pCheck_L10__3 d v_0.1.2.1 (fun y0 => kn (((), y0, ()), (())))) (((), 0, ()), (()))
def pCheck : Driver → Option Int := (fun d => pCheck' itN d)
theorem pCheck_eq (d : Driver) : pCheck d = pCheck' itN d := rfl
def E7 : FEnv iseat := ⟨⟨76, [sp20, sp21, sp19], [], [], [], [], [], [], [], [], [], [], [], true⟩, [(10, ⟨⟨[(1, .bx 1 0), (33, .v (.int .i64))], []⟩, [31, 32], [1], []⟩)]⟩
theorem e7 (it : It Int) (d : Driver) : fnRun (ts := [.int .i64]) it E7 (bodyOf Tryd.f7) Tryd.f7.results.toList (encA [.Driver] (d, ())) = pCheck' it d := by kernel_rfl
def sp7 : FnSpec iseat.toSeat := mkSpec iseat.toSeat 7 [.Driver] [.int .i64] true (fun a => pCheck a.1) (fun a x hx h h' => fn_contract (Z := iseat) (ats := [.Driver]) (ts := [.int .i64]) (E := E7) (fn := Tryd.f7) (c := bodyOf Tryd.f7) Tryd.func7 (by kernel_rfl) (by kernel_rfl) (by kernel_rfl) (by kernel_rfl) rfl ((e7 itN a.1).trans ((pCheck_eq a.1).symm.trans hx)) h h') (fun _ x => rfl)
def checkShift' (it : It Int) (u : Rules) (d : Driver) : Option Int :=
  (pCheckRules u).bind fun r =>
  bif (r != 0) then
    some r
  else
    (pCheck d).bind fun r2 =>
    some r2
def checkShift : Rules → Driver → Option Int := (fun u d => checkShift' itN u d)
theorem checkShift_eq (u : Rules) (d : Driver) : checkShift u d = checkShift' itN u d := rfl
def E22 : FEnv iseat := ⟨⟨13, [sp8, sp7], [], [], [], [], [], [], [], [], [], [], [], true⟩, []⟩
theorem e22 (it : It Int) (u : Rules) (d : Driver) : fnRun (ts := [.int .i64]) it E22 (bodyOf Tryd.f22) Tryd.f22.results.toList (encA [.Rules, .Driver] (u, d, ())) = checkShift' it u d := by kernel_rfl
def sp22 : FnSpec iseat.toSeat := mkSpec iseat.toSeat 22 [.Rules, .Driver] [.int .i64] true (fun a => checkShift a.1 a.2.1) (fun a x hx h h' => fn_contract (Z := iseat) (ats := [.Rules, .Driver]) (ts := [.int .i64]) (E := E22) (fn := Tryd.f22) (c := bodyOf Tryd.f22) Tryd.func22 (by kernel_rfl) (by kernel_rfl) (by kernel_rfl) (by kernel_rfl) rfl ((e22 itN a.1 a.2.1).trans ((checkShift_eq a.1 a.2.1).symm.trans hx)) h h') (fun _ x => rfl)
def pNext_L11 (long : Int) (d : Driver) (u : Rules) (at_ : Int) (kn_ : Int → Option (Int × Int)) : Option (Int × Int) :=
  bif (decide ((w64 (at_ + long)) ≤ 3000)) then
    (pMay1 (⟨d, u⟩ : Shift) at_ long).bind fun r3 =>
    bif r3 then
      some (at_, 0)
    else
      kn_ (w64 (at_ + 1))
  else
    some (0, 7)
def pNext_L11__2 (long : Int) (d : Driver) (u : Rules) (at_2 : Int) (kn_2 : Int → Option (Int × Int)) : Option (Int × Int) :=
  bif (decide ((w64 (at_2 + long)) ≤ 3000)) then
    (pMay1 (⟨d, u⟩ : Shift) at_2 long).bind fun r5 =>
    bif r5 then
      some (at_2, 0)
    else
      kn_2 (w64 (at_2 + 1))
  else
    some (0, 7)
def pNext' (it : It (Int × Int)) (u : Rules) (d : Driver) (from_ : Int) (long : Int) : Option (Int × Int) :=
  (checkShift u d).bind fun r =>
  bif (r != 0) then
    some (0, r)
  else
    (within from_ 0 3000).bind fun r2 =>
    bif (!r2) then
      bif (!r2) then
        some (0, 2)
      else
        bif ((d.Turns.length : Int) == 20) then
          some (0, 8)
        else
          it _ (fun (v_0 : (Unit × Int × Unit) × (Unit)) kn => pNext_L11 long d u v_0.1.2.1 (fun y0 => kn (((), y0, ()), (())))) (((), from_, ()), (()))
    else
      (within long 1 3000).bind fun r4 =>
      bif (!r4) then
        some (0, 2)
      else
        bif ((d.Turns.length : Int) == 20) then
          some (0, 8)
        else
          it _ (fun (v_0 : (Unit × Int × Unit) × (Unit)) kn => pNext_L11__2 long d u v_0.1.2.1 (fun y0 => kn (((), y0, ()), (())))) (((), from_, ()), (()))
def pNext : Rules → Driver → Int → Int → Option (Int × Int) := (fun u d from_ long => pNext' itN u d from_ long)
theorem pNext_eq (u : Rules) (d : Driver) (from_ : Int) (long : Int) : pNext u d from_ long = pNext' itN u d from_ long := rfl
def E27 : FEnv iseat := ⟨⟨46, [sp22, sp20, sp33], [], [], [], [], [], [], [], [], [], [], [], true⟩, [(11, ⟨⟨[(11, .bx 11 0), (12, .v (.int .i64))], []⟩, [3], [11], []⟩)]⟩
theorem e27 (it : It (Int × Int)) (u : Rules) (d : Driver) (from_ : Int) (long : Int) : fnRun (ts := [.int .i64, .int .i64]) it E27 (bodyOf Tryd.f27) Tryd.f27.results.toList (encA [.Rules, .Driver, .int .i64, .int .i64] (u, d, from_, long, ())) = pNext' it u d from_ long := by kernel_rfl
def CloneInts' (it : It (List Int)) (s : List Int) : Option (List Int) :=
  opNil s.isEmpty
    (some ([] : List Int))
    (chk (fitA (([] : List Int).length + s.length) 8) <|
    some (([] : List Int) ++ s))
def CloneInts : (List Int) → Option (List Int) := (fun s => CloneInts' itN s)
theorem CloneInts_eq (s : List Int) : CloneInts s = CloneInts' itN s := rfl
def E49 : FEnv iseat := ⟨⟨8, [], [], [], [], [], [], [], [], [], [], [], [], true⟩, []⟩
theorem e49 (it : It (List Int)) (s : List Int) : fnRunO (.sl (.int .i64)) 0 3 (.int .i64) it E49 (bodyOf Tryd.f49) Tryd.f49.results.toList (encA [.sl (.int .i64)] (s, ())) = CloneInts' it s := by kernel_rfl
end
end Go.Proofs.Crew
