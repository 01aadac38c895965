/- Walks by computing: what each function of the program that the laws reach gives for what it gets, as plain Lean, and that it is so; without a condition but those that stand in each theorem. -/
import Derived.Test.YthmgcjmoiilggaaDoorCards
import Derived.Test.YthmgcjmoiilggaaDoorTie
import Derived.WalkKit
import Derived.ProofKit
import Derived.OpenShut
import Derived.Deep.Slices
import Derived.Deep.DeepHandedRow
import Derived.Lib.LaidTab
import Derived.Test.YthmgcjmoiilggaaDoorW1
import Derived.Test.YthmgcjmoiilggaaDoorW2
import Derived.Test.YthmgcjmoiilggaaDoorW3
import Derived.Test.YthmgcjmoiilggaaDoorW4
import Derived.Test.YthmgcjmoiilggaaDoorW5
import Derived.Test.YthmgcjmoiilggaaDoorW6
import Derived.Test.YthmgcjmoiilggaaDoorW7
import Derived.Test.YthmgcjmoiilggaaDoorW8
import Derived.Test.YthmgcjmoiilggaaDoorW9
import Derived.Test.YthmgcjmoiilggaaDoorW10
import Derived.Test.YthmgcjmoiilggaaDoorW11
set_option linter.all false
namespace Go.Proofs.Crew
open Go Go.Ab
open Go.Proofs.YthmgcjmoiilggaaDoor (iseat)
set_option linter.all false
set_option maxRecDepth 100000
noncomputable section
def CloneInts' (it : It (List Int)) (s : List Int) : Option (List Int) :=
  opNil s.isEmpty
    (some ([] : List Int))
    (chk (fitA (([] : List Int).length + s.length) 8) <|
    some (([] : List Int) ++ s))
def CloneInts : (List Int) → Option (List Int) := opq (fun s => CloneInts' itN s)
theorem CloneInts_eq (s : List Int) : CloneInts s = CloneInts' itN s := by unfold CloneInts; rw [opq_eq]
def E87 : FEnv iseat := ⟨⟨8, [], [], [], [], [], [], [], [], [], [], [], [], true⟩, []⟩
theorem e87 (it : It (List Int)) (s : List Int) : fnRunO (.sl (.int .i64)) 0 3 (.int .i64) it E87 (bodyOf Tryd.f87) Tryd.f87.results.toList (encA [.sl (.int .i64)] (s, ())) = CloneInts' it s := by kernel_rfl
def sp87 : FnSpecO iseat.toSeat := mkSpecO iseat.toSeat 87 [.sl (.int .i64)] (.sl (.int .i64)) 0 3 (.int .i64) (fun a => CloneInts a.1) (fun a x hx l d hd h => fn_contractO (Z := iseat) (ats := [.sl (.int .i64)]) (E := E87) (fn := Tryd.f87) (c := bodyOf Tryd.f87) Tryd.func87 (by kernel_rfl) (by kernel_rfl) (by kernel_rfl) (by kernel_rfl) rfl ((e87 itN a.1).trans ((CloneInts_eq a.1).symm.trans hx)) hd h)
def tryA_L6 (x5 : List Shift) (x0 : List Haul) (now : List Int) (rec : ((List Haul) × Int × (List Int) × (List Shift) × Unit) → ((List Int) × Int × Unit) → Option ((Int × (List Int) × (List Shift) × Unit) × Unit)) (sum : Int) (x36 : Int) (x3 : List Shift) (sum2 : Int) (x22 : List Int) (kn_ : Int → (List Shift) → Int → (List Int) → Option ((Int × (List Int) × (List Shift) × Unit) × Unit)) : Option ((Int × (List Int) × (List Shift) × Unit) × Unit) :=
  bif (decide (x36 < (x5.length : Int))) then
    chk (decide (0 ≤ x36) && decide (x36 < (x3.length : Int))) <|
    chk (decide (x36.toNat < x3.length)) <|
    bif ((andNotI .i64 ((x0.getD (now.length : Int).toNat dfltHaul).Skills) ((x3.getD x36.toNat dfltShift).Driver.Skills)) != 0) then
      kn_ (w64 (x36 + 1)) x3 sum2 x22
    else
      bif ((((x3.getD x36.toNat dfltShift).Driver.Turns).length : Int) == 20) then
        kn_ (w64 (x36 + 1)) x3 sum2 x22
      else
        (pMay1 (x3.getD x36.toNat dfltShift) ((x0.getD (now.length : Int).toNat dfltHaul).From) ((x0.getD (now.length : Int).toNat dfltHaul).Long)).bind fun r2 =>
        bif (!r2) then
          kn_ (w64 (x36 + 1)) x3 sum2 x22
        else
          (more (x3.getD x36.toNat dfltShift) ((x0.getD (now.length : Int).toNat dfltHaul).From) ((x0.getD (now.length : Int).toNat dfltHaul).Long)).bind fun r3 =>
          chk (decide (0 ≤ x36) && decide (x36 < (x3.length : Int))) <|
          chk (decide (x36.toNat < x3.length)) <|
          (CloneInts now).bind fun r4 =>
          chk (fitA (r4.length + [x36].length) 8) <|
          (rec (x0, sum2, x22, (x3.set x36.toNat r3), ()) ((r4 ++ [x36]), (w64 (sum + 1)), ())).bind fun r5 =>
          chk (decide (0 ≤ x36) && decide (x36 < (r5.1.2.2.1.length : Int))) <|
          chk (decide (x36.toNat < r5.1.2.2.1.length)) <|
          kn_ (w64 (x36 + 1)) (r5.1.2.2.1.set x36.toNat (x3.getD x36.toNat dfltShift)) r5.1.1 r5.1.2.1
  else
    (CloneInts now).bind fun r6 =>
    chk (fitA (r6.length + [(-1)].length) 8) <|
    (rec (x0, sum2, x22, x3, ()) ((r6 ++ [(-1)]), sum, ())).bind fun r7 =>
    some ((r7.1.1, r7.1.2.1, r7.1.2.2.1, ()), ())
def tryA' (rec : ((List Haul) × Int × (List Int) × (List Shift) × Unit) → ((List Int) × Int × Unit) → Option ((Int × (List Int) × (List Shift) × Unit) × Unit)) (it : It ((Int × (List Int) × (List Shift) × Unit) × Unit)) (x0 : List Haul) (x1 : Int) (x2 : List Int) (x5 : List Shift) (now : List Int) (sum : Int) : Option ((Int × (List Int) × (List Shift) × Unit) × Unit) :=
  bif (decide ((w64 ((w64 (sum + (x0.length : Int))) - (now.length : Int))) ≤ x1)) then
    some ((x1, x2, x5, ()), ())
  else
    bif ((now.length : Int) == (x0.length : Int)) then
      (CloneInts now).bind fun r =>
      some ((sum, r, x5, ()), ())
    else
      chk (decide (0 ≤ (now.length : Int)) && decide ((now.length : Int) < (x0.length : Int))) <|
      it _ (fun (v_0 : (Unit × Unit × Unit × Int × Unit) × (((List Shift) × Unit) × (Unit × Unit) × (Int × Unit) × ((List Int) × Unit) × Unit)) kn => tryA_L6 x5 x0 now rec sum v_0.1.2.2.2.1 v_0.2.1.1 v_0.2.2.2.1.1 v_0.2.2.2.2.1.1 (fun y0 y1 y2 y3 => kn (((), (), (), y0, ()), ((y1, ()), ((), ()), (y2, ()), (y3, ()), ())))) (((), (), (), 0, ()), ((x5, ()), ((), ()), (x1, ()), (x2, ()), ()))
def E86 (rec : ((List Haul) × Int × (List Int) × (List Shift) × Unit) → ((List Int) × Int × Unit) → Option ((Int × (List Int) × (List Shift) × Unit) × Unit)) (hrec : ∀ x a y z, rec x a = some (y, z) → ConM iseat.toSeat 86 [.c (.sl .Haul), .w (.int .i64), .w (.sl (.int .i64)), .r 5, .k 86 [(0, 0), (1, 0), (2, 0), (3, 0), (4, 0)], .a 99 .Shift] [.d (.sl (.int .i64)), .d (.int .i64), .p 0, .p 1, .p 2, .p 3, .p 4] [] x a y z) : FEnv iseat := ⟨⟨96, [sp80, sp75], [], [], [sp87], [], [], [(mkSpecM iseat.toSeat 86 [.c (.sl .Haul), .w (.int .i64), .w (.sl (.int .i64)), .r 5, .k 86 [(0, 0), (1, 0), (2, 0), (3, 0), (4, 0)], .a 99 .Shift] [.d (.sl (.int .i64)), .d (.int .i64), .p 0, .p 1, .p 2, .p 3, .p 4] [] [] [3] rec hrec)], [], [], [], [79, 92], (rng 0 [.c (.sl .Haul), .w (.int .i64), .w (.sl (.int .i64)), .r 5, .k 86 [(0, 0), (1, 0), (2, 0), (3, 0), (4, 0)], .a 99 .Shift]), false⟩, [(6, ⟨⟨[(5, .bx 3 0), (6, .bx 4 0), (10, .bx 10 0), (36, .v (.int .i64))], [(3, [.os 900000005 99 .Shift]), (4, [.fnb 86 [(0, 0), (1, 0), (2, 0), (3, 0), (4, 0)]]), (1, [.v (.int .i64)]), (2, [.v (.sl (.int .i64))])]⟩, [0, 1, 35], [10], []⟩)]⟩
theorem e86 (rec : ((List Haul) × Int × (List Int) × (List Shift) × Unit) → ((List Int) × Int × Unit) → Option ((Int × (List Int) × (List Shift) × Unit) × Unit)) (hrec : ∀ x a y z, rec x a = some (y, z) → ConM iseat.toSeat 86 [.c (.sl .Haul), .w (.int .i64), .w (.sl (.int .i64)), .r 5, .k 86 [(0, 0), (1, 0), (2, 0), (3, 0), (4, 0)], .a 99 .Shift] [.d (.sl (.int .i64)), .d (.int .i64), .p 0, .p 1, .p 2, .p 3, .p 4] [] x a y z) (it : It ((Int × (List Int) × (List Shift) × Unit) × Unit)) (x0 : List Haul) (x1 : Int) (x2 : List Int) (x5 : List Shift) (now : List Int) (sum : Int) : fnRunM [.c (.sl .Haul), .w (.int .i64), .w (.sl (.int .i64)), .r 5, .k 86 [(0, 0), (1, 0), (2, 0), (3, 0), (4, 0)], .a 99 .Shift] (ts := []) it (E86 rec hrec ) (bodyOf Tryd.f86) Tryd.f86.results.toList (x0, x1, x2, x5, ()) (encAK [.d (.sl (.int .i64)), .d (.int .i64), .p 0, .p 1, .p 2, .p 3, .p 4] (now, sum, ())) = tryA' rec it x0 x1 x2 x5 now sum := by kernel_rfl
def tryAF : Nat → ((List Haul) × Int × (List Int) × (List Shift) × Unit) → ((List Int) × Int × Unit) → Option ((Int × (List Int) × (List Shift) × Unit) × Unit)
  | 0 => fun _ _ => none
  | n + 1 => fun x a => tryA' (tryAF n) itN x.1 x.2.1 x.2.2.1 x.2.2.2.1 a.1 a.2.1
theorem tryAF_ok : ∀ (n : Nat), ∀ x a y z, tryAF n x a = some (y, z) → ConM iseat.toSeat 86 [.c (.sl .Haul), .w (.int .i64), .w (.sl (.int .i64)), .r 5, .k 86 [(0, 0), (1, 0), (2, 0), (3, 0), (4, 0)], .a 99 .Shift] [.d (.sl (.int .i64)), .d (.int .i64), .p 0, .p 1, .p 2, .p 3, .p 4] [] x a y z
  | 0, x, a, y, z, hx => nomatch hx
  | n + 1, x, a, y, z, hx => fn_contractM (Z := iseat) (bks := [.c (.sl .Haul), .w (.int .i64), .w (.sl (.int .i64)), .r 5, .k 86 [(0, 0), (1, 0), (2, 0), (3, 0), (4, 0)], .a 99 .Shift]) (aks := [.d (.sl (.int .i64)), .d (.int .i64), .p 0, .p 1, .p 2, .p 3, .p 4]) (ts := []) (E := E86 (tryAF n) (tryAF_ok n) ) (fn := Tryd.f86) (c := bodyOf Tryd.f86) Tryd.func86 (by kernel_rfl) (by kernel_rfl) (by kernel_rfl) (by kernel_rfl) rfl rfl (by kernel_rfl) (by kernel_rfl) ((e86 (tryAF n) (tryAF_ok n) itN x.1 x.2.1 x.2.2.1 x.2.2.2.1 a.1 a.2.1).trans (show tryA' (tryAF n) itN x.1 x.2.1 x.2.2.1 x.2.2.2.1 a.1 a.2.1 = _ from hx))
def tryA : ((List Haul) × Int × (List Int) × (List Shift) × Unit) → ((List Int) × Int × Unit) → Option ((Int × (List Int) × (List Shift) × Unit) × Unit) := opq (tryAF FUELR)
theorem tryA_eq : tryA = tryAF FUELR := by unfold tryA; rw [opq_eq]
def sp86 : FnSpecM iseat.toSeat := mkSpecM iseat.toSeat 86 [.c (.sl .Haul), .w (.int .i64), .w (.sl (.int .i64)), .r 5, .k 86 [(0, 0), (1, 0), (2, 0), (3, 0), (4, 0)], .a 99 .Shift] [.d (.sl (.int .i64)), .d (.int .i64), .p 0, .p 1, .p 2, .p 3, .p 4] [] [] [3] tryA (fun x a y z hx => tryAF_ok FUELR x a y z (by rw [← tryA_eq]; exact hx))
def pAssign_L12 (l : List Driver) (u : Rules) (hauls : List Haul) (x36 : Int) (shifts : List Shift) (kn_ : Int → (List Shift) → Option ((List Int) × Int × Int)) : Option ((List Int) × Int × Int) :=
  bif (decide (x36 < (l.length : Int))) then
    chk (decide (0 ≤ x36) && decide (x36 < (l.length : Int))) <|
    chk (decide (0 ≤ x36) && decide (x36 < (shifts.length : Int))) <|
    chk (decide (x36.toNat < shifts.length)) <|
    kn_ (w64 (x36 + 1)) (shifts.set x36.toNat (⟨(l.getD x36.toNat dfltDriver), u⟩ : Shift))
  else
    (tryA (hauls, (-1), [], shifts, ()) ([], 0, ())).bind fun r4 =>
    some (r4.1.2.1, r4.1.1, 0)
def pAssign' (it : It ((List Int) × Int × Int)) (u : Rules) (l : List Driver) (hauls : List Haul) : Option ((List Int) × Int × Int) :=
  (pCheckRules u).bind fun r =>
  bif (r != 0) then
    some ([], 0, r)
  else
    (pCheckDrivers l).bind fun r2 =>
    bif (r2 != 0) then
      some ([], 0, r2)
    else
      (pCheckHauls hauls).bind fun r3 =>
      bif (r3 != 0) then
        some ([], 0, r3)
      else
        chk (fitM (l.length : Int) 80) <|
        it _ (fun (v_0 : (Unit × Unit × Unit × Unit × Unit × Int × Unit) × (((List Shift) × Unit) × Unit)) kn => pAssign_L12 l u hauls v_0.1.2.2.2.2.2.1 v_0.2.1.1 (fun y0 y1 => kn (((), (), (), (), (), y0, ()), ((y1, ()), ())))) (((), (), (), (), (), 0, ()), (((List.replicate (l.length : Int).toNat ((⟨⟨(⟨#[]⟩ : ByteArray), 0, []⟩, ⟨0, 0, 0, 0⟩⟩ : Shift) : Shift)), ()), ()))
def pAssign : Rules → (List Driver) → (List Haul) → Option ((List Int) × Int × Int) := opq (fun u l hauls => pAssign' itN u l hauls)
theorem pAssign_eq (u : Rules) (l : List Driver) (hauls : List Haul) : pAssign u l hauls = pAssign' itN u l hauls := by unfold pAssign; rw [opq_eq]
def E48 : FEnv iseat := ⟨⟨53, [sp23, sp84, sp85], [], [], [], [], [], [sp86], [], [], [], [], [], true⟩, [(12, ⟨⟨[(3, .bx 3 0), (5, .bx 5 0), (6, .bx 6 0), (7, .bx 7 0), (12, .bx 12 0), (36, .v (.int .i64))], [(12, [.os 33 99 .Shift])]⟩, [34, 35], [3, 5, 6, 7], []⟩)]⟩
theorem e48 (it : It ((List Int) × Int × Int)) (u : Rules) (l : List Driver) (hauls : List Haul) : fnRun (ts := [.sl (.int .i64), .int .i64, .int .i64]) it E48 (bodyOf Tryd.f48) Tryd.f48.results.toList (encA [.Rules, .sl .Driver, .sl .Haul] (u, l, hauls, ())) = pAssign' it u l hauls := by kernel_rfl
def sp48 : FnSpec iseat.toSeat := mkSpec iseat.toSeat 48 [.Rules, .sl .Driver, .sl .Haul] [.sl (.int .i64), .int .i64, .int .i64] false (fun a => pAssign a.1 a.2.1 a.2.2.1) (fun a x hx h h' => fn_contract (Z := iseat) (ats := [.Rules, .sl .Driver, .sl .Haul]) (ts := [.sl (.int .i64), .int .i64, .int .i64]) (E := E48) (fn := Tryd.f48) (c := bodyOf Tryd.f48) Tryd.func48 (by kernel_rfl) (by kernel_rfl) (by kernel_rfl) (by kernel_rfl) rfl ((e48 itN a.1 a.2.1 a.2.2.1).trans ((pAssign_eq a.1 a.2.1 a.2.2.1).symm.trans hx)) h h') (fun h => nomatch h)
def Does_L3 (who : List Int) (number : Int) (hauls : List Haul) (d : Driver) (u : Rules) (turns : List Turn) (i : Int) (kn_ : (List Turn) → Int → Option Bool) : Option Bool :=
  bif (decide (i < (who.length : Int))) then
    chk (decide (0 ≤ i) && decide (i < (who.length : Int))) <|
    bif ((who.getD i.toNat 0) != number) then
      kn_ turns (w64 (i + 1))
    else
      chk (decide (0 ≤ i) && decide (i < (hauls.length : Int))) <|
      bif ((andNotI .i64 ((hauls.getD i.toNat dfltHaul).Skills) d.Skills) != 0) then
        some false
      else
        (rClashes turns ((hauls.getD i.toNat dfltHaul).From) ((hauls.getD i.toNat dfltHaul).Long)).bind fun r =>
        bif r then
          some false
        else
          (withT turns ((hauls.getD i.toNat dfltHaul).From) ((hauls.getD i.toNat dfltHaul).Long)).bind fun r2 =>
          kn_ r2 (w64 (i + 1))
  else
    bif (decide ((turns.length : Int) ≤ 20)) then
      (rVerdict u turns).bind fun r3 =>
      some (r3 == 1)
    else
      some false
def Does' (it : It Bool) (u : Rules) (d : Driver) (hauls : List Haul) (who : List Int) (number : Int) : Option Bool :=
  it _ (fun (v_0 : (Unit × Unit × (List Turn) × Int × Unit) × (Unit)) kn => Does_L3 who number hauls d u v_0.1.2.2.1 v_0.1.2.2.2.1 (fun y0 y1 => kn (((), (), y0, y1, ()), (())))) (((), (), d.Turns, 0, ()), (()))
def Does : Rules → Driver → (List Haul) → (List Int) → Int → Option Bool := opq (fun u d hauls who number => Does' itN u d hauls who number)
theorem Does_eq (u : Rules) (d : Driver) (hauls : List Haul) (who : List Int) (number : Int) : Does u d hauls who number = Does' itN u d hauls who number := by unfold Does; rw [opq_eq]
def E52 : FEnv iseat := ⟨⟨61, [sp91, sp92, sp65], [], [], [], [], [], [], [], [], [], [], [], true⟩, [(3, ⟨⟨[(5, .bx 5 0), (6, .bx 6 0), (11, .v (.sl .Turn)), (12, .v (.int .i64))], []⟩, [2, 3, 4], [5, 6], []⟩)]⟩
theorem e52 (it : It Bool) (u : Rules) (d : Driver) (hauls : List Haul) (who : List Int) (number : Int) : fnRun (ts := [.bool]) it E52 (bodyOf Tryd.f52) Tryd.f52.results.toList (encA [.Rules, .Driver, .sl .Haul, .sl (.int .i64), .int .i64] (u, d, hauls, who, number, ())) = Does' it u d hauls who number := by kernel_rfl
def sp52 : FnSpec iseat.toSeat := mkSpec iseat.toSeat 52 [.Rules, .Driver, .sl .Haul, .sl (.int .i64), .int .i64] [.bool] true (fun a => Does a.1 a.2.1 a.2.2.1 a.2.2.2.1 a.2.2.2.2.1) (fun a x hx h h' => fn_contract (Z := iseat) (ats := [.Rules, .Driver, .sl .Haul, .sl (.int .i64), .int .i64]) (ts := [.bool]) (E := E52) (fn := Tryd.f52) (c := bodyOf Tryd.f52) Tryd.func52 (by kernel_rfl) (by kernel_rfl) (by kernel_rfl) (by kernel_rfl) rfl ((e52 itN a.1 a.2.1 a.2.2.1 a.2.2.2.1 a.2.2.2.2.1).trans ((Does_eq a.1 a.2.1 a.2.2.1 a.2.2.2.1 a.2.2.2.2.1).symm.trans hx)) h h') (fun _ x => rfl)
def goOn_L4 (who : List Int) (rec : Search → ((List Int) × Int × Unit) → Option (Search × Unit)) (done : Int) (i : Int) (x_u_Drive : Int) (x_u_Rest : Int) (x_u_Day : Int) (x_u_Most : Int) (x_l : List Driver) (x_hauls : List Haul) (x_best : List Int) (x_most : Int) (kn_ : Int → Int → Int → Int → Int → (List Driver) → (List Haul) → (List Int) → Int → Option (Search × Unit)) : Option (Search × Unit) :=
  bif (decide (i < (x_l.length : Int))) then
    chk (fitA (([] : List Int).length + who.length) 8) <|
    chk (fitA ((([] : List Int) ++ who).length + [i].length) 8) <|
    chk (decide (0 ≤ i) && decide (i < (x_l.length : Int))) <|
    (Does (⟨x_u_Drive, x_u_Rest, x_u_Day, x_u_Most⟩ : Rules) (x_l.getD i.toNat dfltDriver) x_hauls ((([] : List Int) ++ who) ++ [i]) i).bind fun r =>
    bif r then
      (rec (⟨⟨x_u_Drive, x_u_Rest, x_u_Day, x_u_Most⟩, x_l, x_hauls, x_best, x_most⟩ : Search) (((([] : List Int) ++ who) ++ [i]), (w64 (done + 1)), ())).bind fun r2 =>
      kn_ (w64 (i + 1)) r2.1.u.Drive r2.1.u.Rest r2.1.u.Day r2.1.u.Most r2.1.l r2.1.hauls r2.1.best r2.1.most
    else
      kn_ (w64 (i + 1)) x_u_Drive x_u_Rest x_u_Day x_u_Most x_l x_hauls x_best x_most
  else
    chk (fitA (([] : List Int).length + who.length) 8) <|
    chk (fitA ((([] : List Int) ++ who).length + [(-1)].length) 8) <|
    (rec (⟨⟨x_u_Drive, x_u_Rest, x_u_Day, x_u_Most⟩, x_l, x_hauls, x_best, x_most⟩ : Search) (((([] : List Int) ++ who) ++ [(-1)]), done, ())).bind fun r3 =>
    some (r3.1, ())
def goOn' (rec : Search → ((List Int) × Int × Unit) → Option (Search × Unit)) (it : It (Search × Unit)) (x : Search) (who : List Int) (done : Int) : Option (Search × Unit) :=
  bif (decide ((w64 ((w64 (done + (x.hauls.length : Int))) - (who.length : Int))) ≤ x.most)) then
    some (x, ())
  else
    bif ((who.length : Int) == (x.hauls.length : Int)) then
      chk (fitA (([] : List Int).length + who.length) 8) <|
      some ((⟨x.u, x.l, x.hauls, (([] : List Int) ++ who), done⟩ : Search), ())
    else
      it _ (fun (v_0 : (Unit × Int × Unit) × ((Int × Int × Int × Int × (List Driver) × (List Haul) × (List Int) × Int × Unit) × Unit)) kn => goOn_L4 who rec done v_0.1.2.1 v_0.2.1.1 v_0.2.1.2.1 v_0.2.1.2.2.1 v_0.2.1.2.2.2.1 v_0.2.1.2.2.2.2.1 v_0.2.1.2.2.2.2.2.1 v_0.2.1.2.2.2.2.2.2.1 v_0.2.1.2.2.2.2.2.2.2.1 (fun y0 y1 y2 y3 y4 y5 y6 y7 y8 => kn (((), y0, ()), ((y1, y2, y3, y4, y5, y6, y7, y8, ()), ())))) (((), 0, ()), ((x.u.Drive, x.u.Rest, x.u.Day, x.u.Most, x.l, x.hauls, x.best, x.most, ()), ()))
def E90 (rec : Search → ((List Int) × Int × Unit) → Option (Search × Unit)) (hrec : ∀ (x : Search) (a : argD [.sl (.int .i64), .int .i64]) (y : Search) (z : resD []), rec x a = some (y, z) → ∀ h, ContractR iseat.toSeat 90 (I.toDL h (encC .Search x)) (I.toDL h (encC .Search y)) (I.toDL h (encA [.sl (.int .i64), .int .i64] a)) ((encR [] z).toD h)) : FEnv iseat := ⟨⟨87, [sp52], [(mkSpecR iseat.toSeat 90 .Search [.sl (.int .i64), .int .i64] [] rec hrec)], [], [], [], [], [], [], [], [], [54, 83], [0], true⟩, [(4, ⟨⟨[(0, .bx 0 0), (6, .v (.int .i64))], [(0, [.v (.int .i64), .v (.int .i64), .v (.int .i64), .v (.int .i64), .v (.sl .Driver), .v (.sl .Haul), .v (.sl (.int .i64)), .v (.int .i64)])]⟩, [1, 2], [], []⟩)]⟩
theorem e90 (rec : Search → ((List Int) × Int × Unit) → Option (Search × Unit)) (hrec : ∀ (x : Search) (a : argD [.sl (.int .i64), .int .i64]) (y : Search) (z : resD []), rec x a = some (y, z) → ∀ h, ContractR iseat.toSeat 90 (I.toDL h (encC .Search x)) (I.toDL h (encC .Search y)) (I.toDL h (encA [.sl (.int .i64), .int .i64] a)) ((encR [] z).toD h)) (it : It (Search × Unit)) (x : Search) (who : List Int) (done : Int) : fnRunR (bt := .Search) (ts := []) it (E90 rec hrec ) (bodyOf Tryd.f90) Tryd.f90.results.toList (encC .Search x) (encA [.sl (.int .i64), .int .i64] (who, done, ())) = goOn' rec it x who done := by kernel_rfl
def goOnF : Nat → Search → ((List Int) × Int × Unit) → Option (Search × Unit)
  | 0 => fun _ _ => none
  | n + 1 => fun x a => goOn' (goOnF n) itN x a.1 a.2.1
theorem goOnF_ok : ∀ (n : Nat), ∀ (x : Search) (a : argD [.sl (.int .i64), .int .i64]) (y : Search) (z : resD []), goOnF n x a = some (y, z) → ∀ h, ContractR iseat.toSeat 90 (I.toDL h (encC .Search x)) (I.toDL h (encC .Search y)) (I.toDL h (encA [.sl (.int .i64), .int .i64] a)) ((encR [] z).toD h)
  | 0, x, a, y, z, hx, h => nomatch hx
  | n + 1, x, a, y, z, hx, h => fn_contractR (Z := iseat) (bt := .Search) (ats := [.sl (.int .i64), .int .i64]) (ts := []) (E := E90 (goOnF n) (goOnF_ok n) ) (fn := Tryd.f90) (c := bodyOf Tryd.f90) Tryd.func90 (by kernel_rfl) (by kernel_rfl) (by kernel_rfl) (by kernel_rfl) rfl ((e90 (goOnF n) (goOnF_ok n) itN x a.1 a.2.1).trans (show goOn' (goOnF n) itN x a.1 a.2.1 = _ from hx)) h
def goOn : Search → ((List Int) × Int × Unit) → Option (Search × Unit) := opq (goOnF FUELR)
theorem goOn_eq : goOn = goOnF FUELR := by unfold goOn; rw [opq_eq]
def sp90 : FnSpecR iseat.toSeat := mkSpecR iseat.toSeat 90 .Search [.sl (.int .i64), .int .i64] [] goOn (fun x a y z hx h => goOnF_ok FUELR x a y z (by rw [← goOn_eq]; exact hx) h)
def rAssign' (it : It ((List Int) × Int × Int)) (u : Rules) (l : List Driver) (hauls : List Haul) : Option ((List Int) × Int × Int) :=
  (rCheckRules u).bind fun r =>
  bif (r != 0) then
    some (([] : List Int), 0, r)
  else
    (rCheckDrivers l).bind fun r2 =>
    bif (r2 != 0) then
      some (([] : List Int), 0, r2)
    else
      (rCheckHauls hauls).bind fun r3 =>
      bif (r3 != 0) then
        some (([] : List Int), 0, r3)
      else
        (goOn (⟨u, l, hauls, [], (-1)⟩ : Search) ([], 0, ())).bind fun r4 =>
        some (r4.1.best, r4.1.most, 0)
def rAssign : Rules → (List Driver) → (List Haul) → Option ((List Int) × Int × Int) := opq (fun u l hauls => rAssign' itN u l hauls)
theorem rAssign_eq (u : Rules) (l : List Driver) (hauls : List Haul) : rAssign u l hauls = rAssign' itN u l hauls := by unfold rAssign; rw [opq_eq]
def E49 : FEnv iseat := ⟨⟨43, [sp24, sp88, sp89], [sp90], [], [], [], [], [], [], [], [], [], [], true⟩, []⟩
theorem e49 (it : It ((List Int) × Int × Int)) (u : Rules) (l : List Driver) (hauls : List Haul) : fnRun (ts := [.sl (.int .i64), .int .i64, .int .i64]) it E49 (bodyOf Tryd.f49) Tryd.f49.results.toList (encA [.Rules, .sl .Driver, .sl .Haul] (u, l, hauls, ())) = rAssign' it u l hauls := by kernel_rfl
def sp49 : FnSpec iseat.toSeat := mkSpec iseat.toSeat 49 [.Rules, .sl .Driver, .sl .Haul] [.sl (.int .i64), .int .i64, .int .i64] false (fun a => rAssign a.1 a.2.1 a.2.2.1) (fun a x hx h h' => fn_contract (Z := iseat) (ats := [.Rules, .sl .Driver, .sl .Haul]) (ts := [.sl (.int .i64), .int .i64, .int .i64]) (E := E49) (fn := Tryd.f49) (c := bodyOf Tryd.f49) Tryd.func49 (by kernel_rfl) (by kernel_rfl) (by kernel_rfl) (by kernel_rfl) rfl ((e49 itN a.1 a.2.1 a.2.2.1).trans ((rAssign_eq a.1 a.2.1 a.2.2.1).symm.trans hx)) h h') (fun h => nomatch h)
def CrewHauls_L20 (hauls : List Haul) (r8 : (Seed × List Haul)) (i2 : Int) (kn_2 : Int → Option Bool) (k : Int) (kn_3 : Int → Option Bool) : Option Bool :=
  bif (decide (k < ((([] : List Haul) ++ ([hauls, r8.2, hauls].getD i2.toNat [])).length : Int))) then
    chk (decide (0 ≤ k) && decide (k < ((([] : List Haul) ++ ([hauls, r8.2, hauls].getD i2.toNat [])).length : Int))) <|
    chk (decide (0 ≤ i2) && decide (i2 < ([hauls, r8.2, hauls].length : Int))) <|
    chk (decide (i2.toNat < [hauls, r8.2, hauls].length)) <|
    chk (decide (0 ≤ k) && decide (k < (([hauls, r8.2, hauls].getD i2.toNat []).length : Int))) <|
    bif (!(decide (((([] : List Haul) ++ ([hauls, r8.2, hauls].getD i2.toNat [])).getD k.toNat dfltHaul).From = (([hauls, r8.2, hauls].getD i2.toNat []).getD k.toNat dfltHaul).From) && (decide (((([] : List Haul) ++ ([hauls, r8.2, hauls].getD i2.toNat [])).getD k.toNat dfltHaul).Long = (([hauls, r8.2, hauls].getD i2.toNat []).getD k.toNat dfltHaul).Long) && (decide (((([] : List Haul) ++ ([hauls, r8.2, hauls].getD i2.toNat [])).getD k.toNat dfltHaul).Skills = (([hauls, r8.2, hauls].getD i2.toNat []).getD k.toNat dfltHaul).Skills) && true)))) then
      some false
    else
      kn_3 (w64 (k + 1))
  else
    kn_2 (w64 (i2 + 1))
def CrewHauls_L12 (it : It Bool) (u : Rules) (r6 : (Seed × Rules)) (hauls : List Haul) (r8 : (Seed × List Haul)) (l : List Driver) (r7 : (Seed × List Driver)) (i2 : Int) (kn_2 : Int → Option Bool) : Option Bool :=
  bif (decide (i2 < (([u, r6.2, r6.2] : List Rules).length : Int))) then
    chk (decide (0 ≤ i2) && decide (i2 < ([hauls, r8.2, hauls].length : Int))) <|
    chk (decide (i2.toNat < [hauls, r8.2, hauls].length)) <|
    chk (fitA (([] : List Haul).length + ([hauls, r8.2, hauls].getD i2.toNat []).length) 24) <|
    chk (decide (0 ≤ i2) && decide (i2 < (([u, r6.2, r6.2] : List Rules).length : Int))) <|
    chk (decide (i2.toNat < ([u, r6.2, r6.2] : List Rules).length)) <|
    chk (decide (0 ≤ i2) && decide (i2 < ([l, r7.2, r7.2].length : Int))) <|
    chk (decide (i2.toNat < [l, r7.2, r7.2].length)) <|
    (pAssign (([u, r6.2, r6.2] : List Rules).getD i2.toNat dfltRules) ([l, r7.2, r7.2].getD i2.toNat []) (([] : List Haul) ++ ([hauls, r8.2, hauls].getD i2.toNat []))).bind fun r9 =>
    chk (decide (0 ≤ i2) && decide (i2 < (([u, r6.2, r6.2] : List Rules).length : Int))) <|
    chk (decide (i2.toNat < ([u, r6.2, r6.2] : List Rules).length)) <|
    chk (decide (0 ≤ i2) && decide (i2 < ([l, r7.2, r7.2].length : Int))) <|
    chk (decide (i2.toNat < [l, r7.2, r7.2].length)) <|
    chk (decide (0 ≤ i2) && decide (i2 < ([hauls, r8.2, hauls].length : Int))) <|
    chk (decide (i2.toNat < [hauls, r8.2, hauls].length)) <|
    (rAssign (([u, r6.2, r6.2] : List Rules).getD i2.toNat dfltRules) ([l, r7.2, r7.2].getD i2.toNat []) ([hauls, r8.2, hauls].getD i2.toNat [])).bind fun r10 =>
    bif (r9.2.1 != r10.2.1) then
      some false
    else
      bif (r9.2.2 != r10.2.2) then
        some false
      else
        (Same r9.1 r10.1).bind fun r11 =>
        bif (!r11) then
          some false
        else
          it _ (fun (v_0 : (Unit × Unit × Unit × Int × Unit) × (Unit)) kn => CrewHauls_L20 hauls r8 i2 kn_2 v_0.1.2.2.2.1 (fun y0 => kn (((), (), (), y0, ()), (())))) (((), (), (), 0, ()), (()))
  else
    (awake).bind fun r12 =>
    some r12
def CrewHauls_L2 (it : It Bool) (l : List Driver) (hauls : List Haul) (nums : List Int) (u : Rules) (i : Int) (kn_ : Int → Option Bool) : Option Bool :=
  bif (decide (i < (l.length : Int))) then
    chk (decide (0 ≤ i) && decide (i < (l.length : Int))) <|
    (big (l.getD i.toNat dfltDriver)).bind fun r =>
    bif r then
      (awake).bind fun r2 =>
      some r2
    else
      kn_ (w64 (i + 1))
  else
    bif (decide ((l.length : Int) > 6)) then
      (awake).bind fun r3 =>
      some r3
    else
      bif (decide ((hauls.length : Int) > 8)) then
        (awake).bind fun r4 =>
        some r4
      else
        (NewSeed nums).bind fun r5 =>
        (RulesOf r5).bind fun r6 =>
        (CrewOf r6.1 3 3).bind fun r7 =>
        (HaulsOf r7.1 4).bind fun r8 =>
        it _ (fun (v_0 : (Unit × Unit × Unit × Int × Unit) × (Unit)) kn => CrewHauls_L12 it u r6 hauls r8 l r7 v_0.1.2.2.2.1 (fun y0 => kn (((), (), (), y0, ()), (())))) (((), (), (), 0, ()), (()))
def CrewHauls' (it : It Bool) (u : Rules) (l : List Driver) (hauls : List Haul) (nums : List Int) : Option Bool :=
  it _ (fun (v_0 : (Unit × Int × Unit) × (Unit)) kn => CrewHauls_L2 it l hauls nums u v_0.1.2.1 (fun y0 => kn (((), y0, ()), (())))) (((), 0, ()), (()))
def CrewHauls : Rules → (List Driver) → (List Haul) → (List Int) → Option Bool := opq (fun u l hauls nums => CrewHauls' itN u l hauls nums)
theorem CrewHauls_eq (u : Rules) (l : List Driver) (hauls : List Haul) (nums : List Int) : CrewHauls u l hauls nums = CrewHauls' itN u l hauls nums := by unfold CrewHauls; rw [opq_eq]
def E12 : FEnv iseat := ⟨⟨143, [sp14, sp15, sp48, sp49, sp50], [sp17, sp46, sp47], [sp16], [], [], [], [], [], [], [], [], [], true⟩, [(2, ⟨⟨[(4, .bx 4 0), (9, .v (.int .i64))], []⟩, [1, 2, 3], [4], []⟩), (12, ⟨⟨[(14, .osr 58), (15, .osr 62), (16, .osr 66), (17, .v (.int .i64))], []⟩, [], [58, 62, 66], []⟩), (20, ⟨⟨[(14, .osr 58), (15, .osr 62), (16, .osr 66), (25, .v (.int .i64))], []⟩, [17, 18], [], []⟩), (1000015, ⟨⟨[], []⟩, [], [73], []⟩)]⟩
theorem e12 (it : It Bool) (u : Rules) (l : List Driver) (hauls : List Haul) (nums : List Int) : fnRun (ts := [.bool]) it E12 (bodyOf Tryd.f12) Tryd.f12.results.toList (encA [.Rules, .sl .Driver, .sl .Haul, .sl (.int .i64)] (u, l, hauls, nums, ())) = CrewHauls' it u l hauls nums := by kernel_rfl
end
end Go.Proofs.Crew
namespace Go.Proofs.Crew
open Go Go.Ab
set_option linter.all false
theorem range_set {α : Type} {f g : Nat → α} {n k : Nat} {x : α} (hx : g k = x) (h : ∀ i, i ≠ k → g i = f i) : ((List.range n).map f).set k x = (List.range n).map g := by
  apply List.ext_getElem (by simp)
  intro i h1 h2
  rw [List.getElem_set]
  split
  · rename_i e; subst e; simp [hx]
  · rename_i e; simp [h i (fun q => e q.symm)]
theorem range_ext {α : Type} {f g : Nat → α} {n : Nat} (h : ∀ i, i < n → f i = g i) : (List.range n).map f = (List.range n).map g :=
  List.map_congr_left fun i hi => h i (List.mem_range.1 hi)
theorem opNil_eq {R : Type} {z : Bool} {a b : Option R} (h : z = true → a = b) : opNil z a b = b := by unfold opNil; rw [if_pos h]
theorem CloneInts_sp {l : List Int} (h : l.length ≤ 1000) : CloneInts l = some l := by
  apply ok_eq
  rw [CloneInts_eq]; unfold CloneInts'
  first
    | exact Ok.chk (fitA_ok (by simp; omega) (by omega)) (Ok.some (by simp))
    | (rw [opNil_eq (fun hz => ?_)]
       · exact Ok.chk (fitA_ok (by simp; omega) (by omega)) (Ok.some (by simp))
       · have : l = [] := by simpa using hz
         subst this; rfl)
theorem getD_app {α : Type} (l : List α) (x d : α) (j : Nat) : (l ++ [x]).getD j d = if j < l.length then l.getD j d else if j = l.length then x else d := by
  simp only [List.getD_eq_getElem?_getD]
  split
  · rename_i h; rw [List.getElem?_append_left h]
  · rename_i h
    rw [List.getElem?_append_right (by omega)]
    split
    · rename_i e; subst e; simp
    · rw [List.getElem?_eq_none (by simp; omega)]; rfl
def hG (hs : List Haul) (k : Nat) : Haul := hs.getD k dfltHaul
def dOf (l : List Driver) (hs : List Haul) (now : List Int) (i : Nat) : Nat → Driver
  | 0 => l.getD i dfltDriver
  | n + 1 => if now.getD n (-1) = (i : Int) then addT (dOf l hs now i n) (hG hs n).From (hG hs n).Long else dOf l hs now i n
structure AOk (u : Rules) (l : List Driver) (hs : List Haul) : Prop where
  u : RulesIn u
  n : l.length ≤ 4
  m : hs.length ≤ 5
  d : ∀ i, i < l.length → DOk (l.getD i dfltDriver)
  h : ∀ k, k < hs.length → 0 ≤ (hG hs k).From ∧ 1 ≤ (hG hs k).Long ∧ (hG hs k).From + (hG hs k).Long ≤ 3000
def Held (l : List Driver) (hs : List Haul) (now : List Int) (i : Nat) : Prop :=
  (∀ k, k < now.length → now.getD k (-1) = (i : Int) → (andNotI .i64 (hG hs k).Skills (l.getD i dfltDriver).Skills != 0) = false ∧ clashB (dOf l hs now i k).Turns (hG hs k).From (hG hs k).Long = false) ∧ (dOf l hs now i now.length).Turns.length ≤ 20
def canDo (u : Rules) (l : List Driver) (hs : List Haul) (now : List Int) (i : Nat) : Bool :=
  !(andNotI .i64 (hG hs now.length).Skills (l.getD i dfltDriver).Skills != 0) && !(decide ((dOf l hs now i now.length).Turns.length = 20)) && mayB u (dOf l hs now i now.length) (hG hs now.length).From (hG hs now.length).Long
section
variable {u : Rules} {l : List Driver} {hs : List Haul} {now : List Int} {i : Nat}
theorem app_lt {x : Int} {k : Nat} (h : k < now.length) : (now ++ [x]).getD k (-1) = now.getD k (-1) := by rw [getD_app, if_pos h]
theorem app_at {x : Int} : (now ++ [x]).getD now.length (-1) = x := by rw [getD_app, if_neg (Nat.lt_irrefl _), if_pos rfl]
theorem dOf_skills : ∀ n, (dOf l hs now i n).Skills = (l.getD i dfltDriver).Skills
  | 0 => rfl
  | n + 1 => by
    simp only [dOf]
    split
    · exact dOf_skills n
    · exact dOf_skills n
theorem dOf_app (x : Int) : ∀ n, n ≤ now.length → dOf l hs (now ++ [x]) i n = dOf l hs now i n
  | 0, _ => rfl
  | n + 1, h => by
    simp only [dOf]
    rw [dOf_app x n (by omega), app_lt (by omega)]
theorem dOf_next (x : Int) : dOf l hs (now ++ [x]) i (now.length + 1) = if x = (i : Int) then addT (dOf l hs now i now.length) (hG hs now.length).From (hG hs now.length).Long else dOf l hs now i now.length := by
  show (if (now ++ [x]).getD now.length (-1) = (i : Int) then _ else _) = _
  rw [dOf_app x _ (Nat.le_refl _), app_at]
theorem dOf_LV (ha : AOk u l hs) (hi : i < l.length) : ∀ n, n ≤ hs.length → LV (dOf l hs now i n).Turns ∧ (dOf l hs now i n).Turns.length ≤ 20 + n
  | 0, _ => by
    have := ha.d i hi
    exact ⟨⟨by have := this.len; show (l.getD i dfltDriver).Turns.length ≤ 1000; omega, this.tv⟩, by have := this.len; exact this⟩
  | n + 1, hn => by
    obtain ⟨h1, h2⟩ := dOf_LV ha hi n (by omega)
    have hm := ha.m
    obtain ⟨a1, a2, a3⟩ := ha.h n (by omega)
    simp only [dOf]
    split
    · refine ⟨⟨by simp only [addT, List.length_append, List.length_cons, List.length_nil]; omega, fun t ht => ?_⟩, by simp only [addT, List.length_append, List.length_cons, List.length_nil]; omega⟩
      simp only [addT, List.mem_append, List.mem_singleton] at ht
      rcases ht with ht | rfl
      · exact h1.2 t ht
      · simp only [newT, TV]; omega
    · exact ⟨h1, by omega⟩
theorem held_app (x : Int) (hd : Held l hs now i) (hx : x = (i : Int) → canDo u l hs now i = true) : Held l hs (now ++ [x]) i := by
  have hlen : (now ++ [x]).length = now.length + 1 := by simp
  constructor
  · intro k hk he
    rw [hlen] at hk
    rw [dOf_app x k (by omega)]
    by_cases e : k < now.length
    · rw [app_lt e] at he; exact hd.1 k e he
    · have : k = now.length := by omega
      subst this
      rw [app_at] at he
      have hc := hx he
      unfold canDo mayB at hc
      simp only [Bool.and_eq_true, Bool.not_eq_true'] at hc
      exact ⟨hc.1.1, hc.2.1⟩
  · rw [hlen, dOf_next]
    split
    · rename_i e
      have hc := hx e
      unfold canDo at hc
      simp only [Bool.and_eq_true, Bool.not_eq_true', decide_eq_false_iff_not] at hc
      have := hd.2
      simp only [addT, List.length_append, List.length_cons, List.length_nil]; omega
    · exact hd.2
theorem Does_ok (ha : AOk u l hs) (hi : i < l.length) (hn : now.length ≤ hs.length) : Ok (fun b => b = true ↔ (∀ k, k < now.length → now.getD k (-1) = (i : Int) → (andNotI .i64 (hG hs k).Skills (l.getD i dfltDriver).Skills != 0) = false ∧ clashB (dOf l hs now i k).Turns (hG hs k).From (hG hs k).Long = false) ∧ (dOf l hs now i now.length).Turns.length ≤ 20 ∧ verdictS u (dOf l hs now i now.length) = 1) (Does u (l.getD i dfltDriver) hs now (i : Int)) := by
  rw [Does_eq]
  have hm := ha.m
  refine Ok.rounds (fun v => ∃ k : Nat, k ≤ now.length ∧ v.1.2.2.2.1 = (k : Int) ∧ v.1.2.2.1 = (dOf l hs now i k).Turns ∧ ∀ j, j < k → now.getD j (-1) = (i : Int) → (andNotI .i64 (hG hs j).Skills (l.getD i dfltDriver).Skills != 0) = false ∧ clashB (dOf l hs now i j).Turns (hG hs j).From (hG hs j).Long = false) (fun v => ((now.length : Int) - v.1.2.2.2.1).toNat) ?_ ?_ ?_
  · show ((now.length : Int) - 0).toNat < 18446744073709551616
    omega
  · exact ⟨0, Nat.zero_le _, rfl, rfl, fun j hj => by omega⟩
  rintro ⟨⟨_, _, ts, x, _⟩, _⟩ kn ⟨k, k1, k2, k3, k4⟩ hk
  simp only at k2 k3 ⊢
  subst k2 k3
  have ek : w64 ((k : Int) + 1) = ((k + 1 : Nat) : Int) := by rw [w64_id (by omega) (by omega)]; push_cast; rfl
  refine Ok.ite (fun hlt => ?_) fun hge => ?_
  · have hlt : k < now.length := by have := of_decide_eq_true hlt; omega
    obtain ⟨a1, a2, a3⟩ := ha.h k (by omega)
    obtain ⟨hlv, _⟩ := dOf_LV (now := now) ha hi k (by omega)
    have e0 : now.getD k 0 = now.getD k (-1) := by
      simp only [List.getD_eq_getElem?_getD, List.getElem?_eq_getElem hlt]; rfl
    simp only [Int.toNat_natCast, e0]
    have eh : hs.getD k dfltHaul = hG hs k := rfl
    rw [eh]
    refine Ok.chk (ib (by omega) (by omega)) (Ok.ite (fun hne => hk _ ⟨k + 1, hlt, ek, ?_, fun j hj he => ?_⟩ ?_) fun heq => Ok.chk (ib (by omega) (by omega)) ?_)
    · have hne : now.getD k (-1) ≠ (i : Int) := by simpa using hne
      simp only [dOf]; rw [if_neg hne]
    · have hne : now.getD k (-1) ≠ (i : Int) := by simpa using hne
      by_cases e : j = k
      · subst e; exact absurd he hne
      · exact k4 j (by omega) he
    · simp only [ek]; omega
    · have heq : now.getD k (-1) = (i : Int) := by simpa using heq
      refine Ok.ite (fun hsk => Ok.some ?_) fun hsk => Ok.beq (rClashes_sp _ hlv.1 (by omega) (by omega)) (Ok.ite (fun hcl => Ok.some ?_) fun hcl => Ok.beq (withT_sp _ hlv.1 (by omega) (by omega)) (hk _ ⟨k + 1, hlt, ek, ?_, fun j hj he => ?_⟩ ?_))
      · refine ⟨fun q => (by cases q), fun q => ?_⟩
        have := (q.1 k hlt heq).1
        rw [this] at hsk; cases hsk
      · refine ⟨fun q => (by cases q), fun q => ?_⟩
        have := (q.1 k hlt heq).2
        rw [this] at hcl; cases hcl
      · simp only [dOf]; rw [if_pos heq]; rfl
      · by_cases e : j = k
        · subst e; exact ⟨hsk, hcl⟩
        · exact k4 j (by omega) he
      · simp only [ek]; omega
  · have hge : k = now.length := by have := of_decide_eq_false hge; omega
    subst hge
    obtain ⟨hlv, _⟩ := dOf_LV (now := now) ha hi now.length hn
    refine Ok.ite (fun hle => Ok.beq (rVerdict_sp (dOf l hs now i now.length) hlv ha.u) (Ok.some ?_)) fun hle => Ok.some ?_
    · have hle := of_decide_eq_true hle
      constructor
      · intro q; exact ⟨k4, by omega, by simpa using q⟩
      · intro q; simpa using q.2.2
    · have hle := of_decide_eq_false hle
      exact ⟨fun q => (by cases q), fun q => by have := q.2.1; omega⟩
theorem Does_can (ha : AOk u l hs) (hi : i < l.length) (hn : now.length < hs.length) (hd : Held l hs now i) : Does u (l.getD i dfltDriver) hs (now ++ [(i : Int)]) (i : Int) = some (canDo u l hs now i) := by
  obtain ⟨b, hb, hbi⟩ := Does_ok (now := now ++ [(i : Int)]) ha hi (by simp; omega)
  rw [hb]
  refine congrArg some (Bool.eq_iff_iff.2 ?_)
  rw [hbi]
  have hlen : (now ++ [(i : Int)]).length = now.length + 1 := by simp
  rw [hlen, dOf_next, if_pos rfl]
  have hd2 := hd.2
  have hal : (addT (dOf l hs now i now.length) (hG hs now.length).From (hG hs now.length).Long).Turns.length = (dOf l hs now i now.length).Turns.length + 1 := by simp [addT]
  have hver : verdictS u (addT (dOf l hs now i now.length) (hG hs now.length).From (hG hs now.length).Long) = 1 ↔ ((firstB u (DL (addT (dOf l hs now i now.length) (hG hs now.length).From (hG hs now.length).Long)) 0 3000).1 == 0) = true := by
    unfold verdictS
    cases ((firstB u (DL (addT (dOf l hs now i now.length) (hG hs now.length).From (hG hs now.length).Long)) 0 3000).1 == 0) with
    | true => simp
    | false =>
      simp only [cond_false]
      cases ((firstB u (DS (addT (dOf l hs now i now.length) (hG hs now.length).From (hG hs now.length).Long)) 0 3000).1 != 0) <;> simp
  rw [hver, hal]
  unfold canDo mayB
  simp only [Bool.and_eq_true, Bool.not_eq_true', decide_eq_false_iff_not]
  constructor
  · rintro ⟨h1, h2, h3⟩
    have := h1 now.length (by omega) app_at
    rw [dOf_app _ _ (Nat.le_refl _)] at this
    exact ⟨⟨this.1, by omega⟩, this.2, h3⟩
  · rintro ⟨⟨h1, h2⟩, h3, h4⟩
    refine ⟨fun k hk he => ?_, by omega, h4⟩
    rw [dOf_app _ k (by omega)]
    by_cases e : k < now.length
    · rw [app_lt e] at he; exact hd.1 k e he
    · have : k = now.length := by omega
      subst this
      exact ⟨h1, h3⟩
end
def goS (u : Rules) (l : List Driver) (hs : List Haul) : Nat → List Int → Int → List Int × Int → List Int × Int
  | 0, now, sum, st => if sum ≤ st.2 then st else (now, sum)
  | r + 1, now, sum, st => if sum + ((r + 1 : Nat) : Int) ≤ st.2 then st else
    goS u l hs r (now ++ [-1]) sum ((List.range l.length).foldl (fun st i => if canDo u l hs now i then goS u l hs r (now ++ [(i : Int)]) (sum + 1) st else st) st)
end Go.Proofs.Crew
namespace Go.Proofs.Crew
open Go Go.Ab
set_option linter.all false
def shiftsOf (u : Rules) (l : List Driver) (hs : List Haul) (now : List Int) : List Shift := (List.range l.length).map fun i => (⟨dOf l hs now i now.length, u⟩ : Shift)
theorem fold_succ {α : Type} (f : α → Nat → α) (a : α) (n : Nat) : (List.range (n + 1)).foldl f a = f ((List.range n).foldl f a) n := by
  rw [List.range_succ, List.foldl_append]; rfl
section
variable {u : Rules} {l : List Driver} {hs : List Haul}
theorem shifts_app {now : List Int} (x : Int) : shiftsOf u l hs (now ++ [x]) = (List.range l.length).map fun (i : Nat) => (⟨if x = (i : Int) then addT (dOf l hs now i now.length) (hG hs now.length).From (hG hs now.length).Long else dOf l hs now i now.length, u⟩ : Shift) := by
  unfold shiftsOf
  refine range_ext fun i _ => ?_
  rw [show (now ++ [x]).length = now.length + 1 by simp, dOf_next]
theorem shifts_no {now : List Int} : shiftsOf u l hs (now ++ [-1]) = shiftsOf u l hs now := by
  rw [shifts_app]
  refine range_ext fun i _ => ?_
  rw [if_neg (by omega)]
theorem shifts_get {now : List Int} {i : Nat} (hi : i < l.length) : (shiftsOf u l hs now).getD i dfltShift = ⟨dOf l hs now i now.length, u⟩ := getD_range _ _ hi
theorem shifts_len {now : List Int} : (shiftsOf u l hs now).length = l.length := len_range _ _
theorem shifts_set {now : List Int} {i : Nat} : (shiftsOf u l hs now).set i ⟨addT (dOf l hs now i now.length) (hG hs now.length).From (hG hs now.length).Long, u⟩ = shiftsOf u l hs (now ++ [(i : Int)]) := by
  rw [shifts_app]
  unfold shiftsOf
  refine range_set (g := fun (j : Nat) => (⟨if (i : Int) = (j : Int) then addT (dOf l hs now j now.length) (hG hs now.length).From (hG hs now.length).Long else dOf l hs now j now.length, u⟩ : Shift)) (by simp only [if_true]) fun j hj => ?_
  rw [if_neg (by omega)]
theorem shifts_back {now : List Int} {i : Nat} : (shiftsOf u l hs (now ++ [(i : Int)])).set i ⟨dOf l hs now i now.length, u⟩ = shiftsOf u l hs now := by
  rw [shifts_app]
  unfold shiftsOf
  refine range_set (g := fun (j : Nat) => (⟨dOf l hs now j now.length, u⟩ : Shift)) rfl fun j hj => ?_
  rw [if_neg (by omega)]
theorem held_in {now : List Int} {k : Nat} (hd : ∀ i, i < l.length → Held l hs now i) (hc : canDo u l hs now k = true) : ∀ i, i < l.length → Held l hs (now ++ [(k : Int)]) i := fun i hi => held_app (u := u) _ (hd i hi) (fun e => (show k = i by omega) ▸ hc)
theorem held_no (u : Rules) {now : List Int} (hd : ∀ i, i < l.length → Held l hs now i) : ∀ i, i < l.length → Held l hs (now ++ [-1]) i := fun i hi => held_app (u := u) _ (hd i hi) (fun e => by omega)
theorem fold_yes {G : List Int × Int → Nat → List Int × Int} {c : Nat → Bool} {F : List Int × Int → Nat → List Int × Int} (hF : ∀ st i, F st i = if c i then G st i else st) {k : Nat} (hc : c k = true) (st : List Int × Int) : (List.range (k + 1)).foldl F st = G ((List.range k).foldl F st) k := by
  rw [fold_succ, hF, if_pos hc]
theorem fold_no {G : List Int × Int → Nat → List Int × Int} {c : Nat → Bool} {F : List Int × Int → Nat → List Int × Int} (hF : ∀ st i, F st i = if c i then G st i else st) {k : Nat} (hc : c k = false) (st : List Int × Int) : (List.range (k + 1)).foldl F st = (List.range k).foldl F st := by
  rw [fold_succ, hF, hc]; rfl
theorem try_sp (ha : AOk u l hs) : ∀ (r f : Nat) (now : List Int) (sum : Int) (st : List Int × Int), r < f → now.length + r = hs.length → 0 ≤ sum → sum ≤ now.length → (∀ i, i < l.length → Held l hs now i) →
    tryAF f (hs, st.2, st.1, shiftsOf u l hs now, ()) (now, sum, ()) = some (((goS u l hs r now sum st).2, (goS u l hs r now sum st).1, shiftsOf u l hs now, ()), ()) := by
  intro r
  induction r with
  | zero =>
    intro f now sum st hf hr s0 s1 hd
    obtain ⟨f, rfl⟩ : ∃ g, f = g + 1 := ⟨f - 1, by omega⟩
    have hm := ha.m
    apply ok_eq
    show Ok _ (tryA' (tryAF f) itN hs st.2 st.1 (shiftsOf u l hs now) now sum)
    have e1 : w64 (sum + (hs.length : Int)) = sum + hs.length := w64_id (by omega) (by omega)
    have e2 : w64 (sum + (hs.length : Int) - (now.length : Int)) = sum := by rw [w64_id (by omega) (by omega)]; omega
    unfold tryA'
    rw [e1, e2]
    refine Ok.ite (fun h => Ok.some ?_) fun h => Ok.yes (by simp; omega) (Ok.beq (CloneInts_sp (by omega)) (Ok.some ?_))
    · have h := of_decide_eq_true h
      simp only [goS]; rw [if_pos h]
    · have h := of_decide_eq_false h
      simp only [goS]; rw [if_neg h]
  | succ r ih =>
    intro f now sum st hf hr s0 s1 hd
    obtain ⟨f, rfl⟩ : ∃ g, f = g + 1 := ⟨f - 1, by omega⟩
    have hm := ha.m
    have hL := ha.n
    apply ok_eq
    show Ok _ (tryA' (tryAF f) itN hs st.2 st.1 (shiftsOf u l hs now) now sum)
    have e1 : w64 (sum + (hs.length : Int)) = sum + hs.length := w64_id (by omega) (by omega)
    have e2 : w64 (sum + (hs.length : Int) - (now.length : Int)) = sum + ((r + 1 : Nat) : Int) := by rw [w64_id (by omega) (by omega)]; omega
    unfold tryA'
    rw [e1, e2]
    refine Ok.ite (fun h => Ok.some ?_) fun h => Ok.no (by simp; omega) (Ok.chk (ib (by omega) (by omega)) ?_)
    · have h := of_decide_eq_true h
      simp only [goS]; rw [if_pos h]
    · have h := of_decide_eq_false h
      obtain ⟨a1, a2, a3⟩ := ha.h now.length (by omega)
      let F : List Int × Int → Nat → List Int × Int := fun st i => if canDo u l hs now i then goS u l hs r (now ++ [(i : Int)]) (sum + 1) st else st
      refine Ok.rounds (fun v => ∃ k : Nat, k ≤ l.length ∧ v.1.2.2.2.1 = (k : Int) ∧ v.2.1.1 = shiftsOf u l hs now ∧ v.2.2.2.1.1 = ((List.range k).foldl F st).2 ∧ v.2.2.2.2.1.1 = ((List.range k).foldl F st).1) (fun v => ((l.length : Int) - v.1.2.2.2.1).toNat) ?_ ?_ ?_
      · show ((l.length : Int) - 0).toNat < 18446744073709551616
        omega
      · exact ⟨0, Nat.zero_le _, rfl, rfl, rfl, rfl⟩
      rintro ⟨⟨_, _, _, x, _⟩, ⟨⟨sh, _⟩, _, ⟨q1, _⟩, ⟨q2, _⟩, _⟩⟩ kn ⟨k, k1, k2, k3, k4, k5⟩ hk
      simp only at k2 k3 k4 k5 ⊢
      subst k2 k3 k4 k5
      have ek : w64 ((k : Int) + 1) = ((k + 1 : Nat) : Int) := by rw [w64_id (by omega) (by omega)]; push_cast; rfl
      refine Ok.ite (fun hlt => ?_) fun hge => ?_
      · have hlt : k < l.length := by have := of_decide_eq_true hlt; rw [shifts_len] at this; omega
        obtain ⟨hlv, hl20⟩ := dOf_LV (now := now) ha hlt now.length (by omega)
        have hh : hs.getD now.length dfltHaul = hG hs now.length := rfl
        simp only [Int.toNat_natCast, shifts_get hlt, hh, dOf_skills]
        have cs1 : (decide (0 ≤ (k : Int)) && decide ((k : Int) < ((shiftsOf u l hs now).length : Int))) = true := by rw [shifts_len]; exact ib (by omega) (by omega)
        have cs2 : decide (k < (shiftsOf u l hs now).length) = true := by rw [shifts_len]; simpa using hlt
        have skip : canDo u l hs now k = false → Ok _ (kn (((), (), (), w64 ((k : Int) + 1), ()), ((shiftsOf u l hs now, ()), ((), ()), (((List.range k).foldl F st).2, ()), (((List.range k).foldl F st).1, ()), ()))) := fun hc => by
          refine hk _ ⟨k + 1, hlt, ek, rfl, ?_, ?_⟩ ?_
          · rw [(fold_no (c := fun i => canDo u l hs now i) (G := fun st i => goS u l hs r (now ++ [(i : Int)]) (sum + 1) st) (F := F) (fun _ _ => rfl) hc st)]
          · rw [(fold_no (c := fun i => canDo u l hs now i) (G := fun st i => goS u l hs r (now ++ [(i : Int)]) (sum + 1) st) (F := F) (fun _ _ => rfl) hc st)]
          · simp only [ek]; omega
        refine Ok.chk cs1 (Ok.chk cs2 (Ok.ite (fun hsk => skip ?_) fun hsk => Ok.ite (fun h20 => skip ?_) fun h20 => Ok.beq (pMay1_sp ⟨dOf l hs now k now.length, u⟩ (by show (dOf l hs now k now.length).Turns.length ≤ 500; omega) ha.u (by omega) (by omega)) (Ok.ite (fun hmay => skip ?_) fun hmay => Ok.beq (more_sp ⟨dOf l hs now k now.length, u⟩ (by show (dOf l hs now k now.length).Turns.length ≤ 1000; omega) (by omega) (by omega)) (Ok.chk cs1 (Ok.chk cs2 (Ok.beq (CloneInts_sp (by omega)) (Ok.chk (fitA_ok (by simp; omega) (by omega)) ?_)))))))
        · unfold canDo; rw [hsk]; rfl
        · have h20 : (dOf l hs now k now.length).Turns.length = 20 := by have := of_decide_eq_true h20; omega
          unfold canDo; rw [h20]; simp
        · simp only [Bool.not_eq_true'] at hmay
          unfold canDo; rw [hmay]; simp
        · have hmay : mayB u (dOf l hs now k now.length) (hG hs now.length).From (hG hs now.length).Long = true := by simpa using hmay
          have hc : canDo u l hs now k = true := by
            unfold canDo
            rw [hsk, hmay]
            have : (dOf l hs now k now.length).Turns.length ≠ 20 := fun e => by rw [e] at h20; exact absurd h20 (by decide)
            simp [this]
          have es : w64 (sum + 1) = sum + 1 := w64_id (by omega) (by omega)
          rw [es]
          show Ok _ ((tryAF f (hs, _, _, (shiftsOf u l hs now).set k ⟨addT (dOf l hs now k now.length) (hG hs now.length).From (hG hs now.length).Long, u⟩, ()) _).bind _)
          rw [shifts_set]
          refine Ok.beq (ih f (now ++ [(k : Int)]) (sum + 1) ((List.range k).foldl F st) (by omega) (by simp; omega) (by omega) (by simp; omega) (held_in hd hc)) ?_
          simp only
          have cs3 : (decide (0 ≤ (k : Int)) && decide ((k : Int) < ((shiftsOf u l hs (now ++ [(k : Int)])).length : Int))) = true := by rw [shifts_len]; exact ib (by omega) (by omega)
          have cs4 : decide (k < (shiftsOf u l hs (now ++ [(k : Int)])).length) = true := by rw [shifts_len]; simpa using hlt
          rw [shifts_back]
          refine Ok.chk cs3 (Ok.chk cs4 (hk _ ⟨k + 1, hlt, ek, rfl, ?_, ?_⟩ ?_))
          · rw [(fold_yes (c := fun i => canDo u l hs now i) (G := fun st i => goS u l hs r (now ++ [(i : Int)]) (sum + 1) st) (F := F) (fun _ _ => rfl) hc st)]
          · rw [(fold_yes (c := fun i => canDo u l hs now i) (G := fun st i => goS u l hs r (now ++ [(i : Int)]) (sum + 1) st) (F := F) (fun _ _ => rfl) hc st)]
          · simp only [ek]; omega
      · have hge : k = l.length := by have := of_decide_eq_false hge; rw [shifts_len] at this; omega
        subst hge
        refine Ok.beq (CloneInts_sp (by omega)) (Ok.chk (fitA_ok (by simp; omega) (by omega)) ?_)
        have key := ih f (now ++ [-1]) sum ((List.range l.length).foldl F st) (by omega) (by simp; omega) s0 (by simp; omega) (held_no u hd)
        rw [shifts_no] at key
        refine Ok.beq key (Ok.some ?_)
        simp only [goS]
        rw [if_neg h]
theorem goOn_sp (ha : AOk u l hs) : ∀ (r f : Nat) (now : List Int) (sum : Int) (st : List Int × Int), r < f → now.length + r = hs.length → 0 ≤ sum → sum ≤ now.length → (∀ i, i < l.length → Held l hs now i) →
    goOnF f ⟨u, l, hs, st.1, st.2⟩ (now, sum, ()) = some (⟨u, l, hs, (goS u l hs r now sum st).1, (goS u l hs r now sum st).2⟩, ()) := by
  intro r
  induction r with
  | zero =>
    intro f now sum st hf hr s0 s1 hd
    obtain ⟨f, rfl⟩ : ∃ g, f = g + 1 := ⟨f - 1, by omega⟩
    have hm := ha.m
    apply ok_eq
    show Ok _ (goOn' (goOnF f) itN ⟨u, l, hs, st.1, st.2⟩ now sum)
    have e1 : w64 (sum + (hs.length : Int)) = sum + hs.length := w64_id (by omega) (by omega)
    have e2 : w64 (sum + (hs.length : Int) - (now.length : Int)) = sum := by rw [w64_id (by omega) (by omega)]; omega
    unfold goOn'
    simp only [e1, e2]
    refine Ok.ite (fun h => Ok.some ?_) fun h => Ok.yes (by simp; omega) (Ok.chk (fitA_ok (by simp; omega) (by omega)) (Ok.some ?_))
    · have h := of_decide_eq_true h
      simp only [goS]; rw [if_pos h]
    · have h := of_decide_eq_false h
      simp only [goS]; rw [if_neg h]; rfl
  | succ r ih =>
    intro f now sum st hf hr s0 s1 hd
    obtain ⟨f, rfl⟩ : ∃ g, f = g + 1 := ⟨f - 1, by omega⟩
    have hm := ha.m
    have hL := ha.n
    apply ok_eq
    show Ok _ (goOn' (goOnF f) itN ⟨u, l, hs, st.1, st.2⟩ now sum)
    have e1 : w64 (sum + (hs.length : Int)) = sum + hs.length := w64_id (by omega) (by omega)
    have e2 : w64 (sum + (hs.length : Int) - (now.length : Int)) = sum + ((r + 1 : Nat) : Int) := by rw [w64_id (by omega) (by omega)]; omega
    unfold goOn'
    simp only [e1, e2]
    refine Ok.ite (fun h => Ok.some ?_) fun h => Ok.no (by simp; omega) ?_
    · have h := of_decide_eq_true h
      simp only [goS]; rw [if_pos h]
    · have h := of_decide_eq_false h
      let F : List Int × Int → Nat → List Int × Int := fun st i => if canDo u l hs now i then goS u l hs r (now ++ [(i : Int)]) (sum + 1) st else st
      refine Ok.rounds (fun v => ∃ k : Nat, k ≤ l.length ∧ v.1.2.1 = (k : Int) ∧ v.2.1 = (u.Drive, u.Rest, u.Day, u.Most, l, hs, ((List.range k).foldl F st).1, ((List.range k).foldl F st).2, ())) (fun v => ((l.length : Int) - v.1.2.1).toNat) ?_ ?_ ?_
      · show ((l.length : Int) - 0).toNat < 18446744073709551616
        omega
      · exact ⟨0, Nat.zero_le _, rfl, rfl⟩
      rintro ⟨⟨_, x, _⟩, ⟨q, _⟩⟩ kn ⟨k, k1, k2, k3⟩ hk
      simp only at k2 k3 ⊢
      subst k2 k3
      simp only
      have ek : w64 ((k : Int) + 1) = ((k + 1 : Nat) : Int) := by rw [w64_id (by omega) (by omega)]; push_cast; rfl
      refine Ok.ite (fun hlt => ?_) fun hge => ?_
      · have hlt : k < l.length := by have := of_decide_eq_true hlt; omega
        simp only [Int.toNat_natCast, List.nil_append]
        refine Ok.chk (fitA_ok (by simp; omega) (by omega)) (Ok.chk (fitA_ok (by simp; omega) (by omega)) (Ok.chk (ib (by omega) (by omega)) (Ok.beq (Does_can ha hlt (by omega) (hd k hlt)) (Ok.ite (fun hc => ?_) fun hc => hk _ ⟨k + 1, hlt, ek, ?_⟩ ?_))))
        · have es : w64 (sum + 1) = sum + 1 := w64_id (by omega) (by omega)
          rw [es]
          refine Ok.beq (ih f (now ++ [(k : Int)]) (sum + 1) ((List.range k).foldl F st) (by omega) (by simp; omega) (by omega) (by simp; omega) (held_in hd hc)) (hk _ ⟨k + 1, hlt, ek, ?_⟩ ?_)
          · rw [(fold_yes (c := fun i => canDo u l hs now i) (G := fun st i => goS u l hs r (now ++ [(i : Int)]) (sum + 1) st) (F := F) (fun _ _ => rfl) hc st)]
          · simp only [ek]; omega
        · rw [(fold_no (c := fun i => canDo u l hs now i) (G := fun st i => goS u l hs r (now ++ [(i : Int)]) (sum + 1) st) (F := F) (fun _ _ => rfl) hc st)]
        · simp only [ek]; omega
      · have hge : k = l.length := by have := of_decide_eq_false hge; omega
        subst hge
        simp only [List.nil_append]
        refine Ok.chk (fitA_ok (by simp; omega) (by omega)) (Ok.chk (fitA_ok (by simp; omega) (by omega)) ?_)
        refine Ok.beq (ih f (now ++ [-1]) sum ((List.range l.length).foldl F st) (by omega) (by simp; omega) s0 (by simp; omega) (held_no u hd)) (Ok.some ?_)
        simp only [goS]
        rw [if_neg h]
end
end Go.Proofs.Crew
namespace Go.Proofs.Crew
open Go Go.Ab
set_option linter.all false
def HOk (h : Haul) : Prop := 0 ≤ h.From ∧ h.From ≤ 3000 ∧ 1 ≤ h.Long ∧ h.Long ≤ 3000 ∧ h.From + h.Long ≤ 3000 ∧ 0 ≤ h.Skills ∧ h.Skills ≤ 255
def IsHE (l : List Haul) (e : Int) : Prop := if l.length > 5 then e = 8 else (e = 2 ∧ ∃ i, i < l.length ∧ ¬ HOk (hG l i)) ∨ (e = 0 ∧ ∀ i, i < l.length → HOk (hG l i))
theorem isHE_det {l : List Haul} {e f : Int} (h1 : IsHE l e) (h2 : IsHE l f) : e = f := by
  unfold IsHE at h1 h2
  split at h1
  · rename_i h; rw [if_pos h] at h2; rw [h1, h2]
  · rename_i h; rw [if_neg h] at h2
    rcases h1 with ⟨a, i, hi, hb⟩ | ⟨a, ha⟩ <;> rcases h2 with ⟨b, j, hj, hc⟩ | ⟨b, hb'⟩
    · rw [a, b]
    · exact absurd (hb' i hi) hb
    · exact absurd (ha j hj) hc
    · rw [a, b]
theorem hauls_loop {l : List Haul} (hl : ¬ (l.length : Int) > 5) {F : Int → (Int → Option Int) → Option Int}
    (hF : ∀ (k : Nat) (kn : Int → Option Int) (P : Int → Prop), k < l.length → (¬ HOk (hG l k) → P 2) → (HOk (hG l k) → Ok P (kn (w64 ((k : Int) + 1)))) → Ok P (F (k : Int) kn))
    (hE : ∀ (kn : Int → Option Int), F (l.length : Int) kn = some 0) :
    Ok (IsHE l) (itN _ (fun (v_0 : (Int × Unit) × (Unit)) kn => F v_0.1.1 (fun y0 => kn ((y0, ()), (())))) ((0, ()), (()))) := by
  refine Ok.rounds (fun v => ∃ k : Nat, k ≤ l.length ∧ v.1.1 = (k : Int) ∧ ∀ i, i < k → HOk (hG l i)) (fun v => ((l.length : Int) - v.1.1).toNat) ?_ ?_ ?_
  · show ((l.length : Int) - 0).toNat < 18446744073709551616
    omega
  · exact ⟨0, Nat.zero_le _, rfl, fun i hi => by omega⟩
  rintro ⟨⟨x, _⟩, _⟩ kn ⟨k, k1, rfl, k3⟩ hk
  simp only
  have ek : w64 ((k : Int) + 1) = ((k + 1 : Nat) : Int) := by rw [w64_id (by omega) (by omega)]; push_cast; rfl
  by_cases hlt : k < l.length
  · refine hF k _ _ hlt (fun hb => ?_) fun hg => hk _ ⟨k + 1, hlt, ek, fun i hi => ?_⟩ ?_
    · unfold IsHE; rw [if_neg (by omega)]; exact .inl ⟨rfl, k, hlt, hb⟩
    · by_cases e : i = k
      · rw [e]; exact hg
      · exact k3 i (by omega)
    · simp only [ek]; omega
  · have : k = l.length := by omega
    subst this
    rw [hE]
    refine Ok.some ?_
    unfold IsHE; rw [if_neg (by omega)]; exact .inr ⟨rfl, k3⟩
theorem pCheckHauls_ok (l : List Haul) : Ok (IsHE l) (pCheckHauls l) := by
  rw [pCheckHauls_eq]
  refine Ok.ite (fun h => Ok.some ?_) fun h => hauls_loop (of_decide_eq_false h) (fun k kn P hk hb hg => ?_) fun kn => ?_
  · have := of_decide_eq_true h
    unfold IsHE; rw [if_pos (by omega)]
  · refine Ok.yes (decide_eq_true (by omega)) (Ok.chk (ib (by omega) (by omega)) (Ok.beq (within_in _ _ _) ?_))
    have e : l.getD k dfltHaul = hG l k := rfl
    simp only [Int.toNat_natCast, e]
    refine Ok.ite (fun q => Ok.some (hb fun ⟨a1, a2, _⟩ => ?_)) fun q1 => Ok.beq (within_in _ _ _) (Ok.ite (fun q => Ok.some (hb fun ⟨_, _, a1, a2, _⟩ => ?_)) fun q2 => Ok.ite (fun q => Ok.some (hb fun ⟨_, _, _, _, a1, _⟩ => ?_)) fun q3 => Ok.beq (within_in _ _ _) (Ok.ite (fun q => Ok.some (hb fun ⟨_, _, _, _, _, a1, a2⟩ => ?_)) fun q4 => hg ?_))
    · rw [inB_iff.2 ⟨a1, a2⟩] at q; cases q
    · rw [inB_iff.2 ⟨a1, a2⟩] at q; cases q
    · have h1 := inB_iff.1 (by simpa using q1)
      have h2 := inB_iff.1 (by simpa using q2)
      have := of_decide_eq_true q
      rw [w64_id (by omega) (by omega)] at this; omega
    · rw [inB_iff.2 ⟨a1, a2⟩] at q; cases q
    · have h1 := inB_iff.1 (by simpa using q1)
      have h2 := inB_iff.1 (by simpa using q2)
      have h4 := inB_iff.1 (by simpa using q4)
      have := of_decide_eq_false q3
      rw [w64_id (by omega) (by omega)] at this
      unfold HOk; omega
  · exact bif_f (decide_eq_false (by omega)) _ _
theorem rCheckHauls_ok (l : List Haul) : Ok (IsHE l) (rCheckHauls l) := by
  rw [rCheckHauls_eq]
  refine Ok.ite (fun h => Ok.some ?_) fun h => hauls_loop (of_decide_eq_false h) (fun k kn P hk hb hg => ?_) fun kn => ?_
  · have := of_decide_eq_true h
    unfold IsHE; rw [if_pos (by omega)]
  · refine Ok.yes (decide_eq_true (by omega)) (Ok.chk (ib (by omega) (by omega)) (Ok.beq (outside_in _ _ _) ?_))
    have e : l.getD k dfltHaul = hG l k := rfl
    simp only [Int.toNat_natCast, e]
    refine Ok.ite (fun q => Ok.some (hb fun ⟨a1, a2, _⟩ => ?_)) fun q1 => Ok.beq (outside_in _ _ _) (Ok.ite (fun q => Ok.some (hb fun ⟨_, _, a1, a2, _⟩ => ?_)) fun q2 => Ok.ite (fun q => Ok.some (hb fun ⟨_, _, _, _, a1, _⟩ => ?_)) fun q3 => Ok.beq (outside_in _ _ _) (Ok.ite (fun q => Ok.some (hb fun ⟨_, _, _, _, _, a1, a2⟩ => ?_)) fun q4 => hg ?_))
    · rw [inB_iff.2 ⟨a1, a2⟩] at q; cases q
    · rw [inB_iff.2 ⟨a1, a2⟩] at q; cases q
    · have h1 := inB_iff.1 (by simpa using q1)
      have h2 := inB_iff.1 (by simpa using q2)
      have := of_decide_eq_true q
      rw [w64_id (by omega) (by omega)] at this; omega
    · rw [inB_iff.2 ⟨a1, a2⟩] at q; cases q
    · have h1 := inB_iff.1 (by simpa using q1)
      have h2 := inB_iff.1 (by simpa using q2)
      have h4 := inB_iff.1 (by simpa using q4)
      have := of_decide_eq_false q3
      rw [w64_id (by omega) (by omega)] at this
      unfold HOk; omega
  · exact bif_f (decide_eq_false (by omega)) _ _
def dG (l : List Driver) (k : Nat) : Driver := l.getD k dfltDriver
def IsDE (l : List Driver) (e : Int) : Prop := if l.length > 4 then e = 8 else (e ≠ 0 ∧ ∃ i, i < l.length ∧ e = checkE (dG l i) ∧ ∀ j, j < i → checkE (dG l j) = 0) ∨ (e = 0 ∧ ∀ i, i < l.length → checkE (dG l i) = 0)
theorem isDE_det {l : List Driver} {e f : Int} (h1 : IsDE l e) (h2 : IsDE l f) : e = f := by
  unfold IsDE at h1 h2
  split at h1
  · rename_i h; rw [if_pos h] at h2; rw [h1, h2]
  · rename_i h; rw [if_neg h] at h2
    rcases h1 with ⟨a, i, hi, hb, hb2⟩ | ⟨a, ha⟩ <;> rcases h2 with ⟨b, j, hj, hc, hc2⟩ | ⟨b, hb'⟩
    · by_cases q : i < j
      · exact absurd (hc2 i q) (by rw [← hb]; exact a)
      · by_cases q2 : j < i
        · exact absurd (hb2 j q2) (by rw [← hc]; exact b)
        · have : i = j := by omega
          rw [hb, hc, this]
    · exact absurd (hb' i hi) (by rw [← hb]; exact a)
    · exact absurd (ha j hj) (by rw [← hc]; exact b)
    · rw [a, b]
def DFit (l : List Driver) : Prop := ∀ d ∈ l, d.Name.size ≤ 1000 ∧ d.Turns.length ≤ 1000
theorem drivers_loop {l : List Driver} (hl : ¬ (l.length : Int) > 4) {F : Int → (Int → Option Int) → Option Int}
    (hF : ∀ (k : Nat) (kn : Int → Option Int) (P : Int → Prop), k < l.length → (checkE (dG l k) ≠ 0 → P (checkE (dG l k))) → (checkE (dG l k) = 0 → Ok P (kn (w64 ((k : Int) + 1)))) → Ok P (F (k : Int) kn))
    (hE : ∀ (kn : Int → Option Int), F (l.length : Int) kn = some 0) :
    Ok (IsDE l) (itN _ (fun (v_0 : (Int × Unit) × (Unit)) kn => F v_0.1.1 (fun y0 => kn ((y0, ()), (())))) ((0, ()), (()))) := by
  refine Ok.rounds (fun v => ∃ k : Nat, k ≤ l.length ∧ v.1.1 = (k : Int) ∧ ∀ i, i < k → checkE (dG l i) = 0) (fun v => ((l.length : Int) - v.1.1).toNat) ?_ ?_ ?_
  · show ((l.length : Int) - 0).toNat < 18446744073709551616
    omega
  · exact ⟨0, Nat.zero_le _, rfl, fun i hi => by omega⟩
  rintro ⟨⟨x, _⟩, _⟩ kn ⟨k, k1, rfl, k3⟩ hk
  simp only
  have ek : w64 ((k : Int) + 1) = ((k + 1 : Nat) : Int) := by rw [w64_id (by omega) (by omega)]; push_cast; rfl
  by_cases hlt : k < l.length
  · refine hF k _ _ hlt (fun hb => ?_) fun hg => hk _ ⟨k + 1, hlt, ek, fun i hi => ?_⟩ ?_
    · unfold IsDE; rw [if_neg (by omega)]; exact .inl ⟨hb, k, hlt, rfl, k3⟩
    · by_cases e : i = k
      · rw [e]; exact hg
      · exact k3 i (by omega)
    · simp only [ek]; omega
  · have : k = l.length := by omega
    subst this
    rw [hE]
    refine Ok.some ?_
    unfold IsDE; rw [if_neg (by omega)]; exact .inr ⟨rfl, k3⟩
theorem pCheckDrivers_ok {l : List Driver} (hf : DFit l) : Ok (IsDE l) (pCheckDrivers l) := by
  rw [pCheckDrivers_eq]
  refine Ok.ite (fun h => Ok.some ?_) fun h => drivers_loop (of_decide_eq_false h) (fun k kn P hk hb hg => ?_) fun kn => ?_
  · have := of_decide_eq_true h
    unfold IsDE; rw [if_pos (by omega)]
  · have hm := hf _ (getD_mem (d := dfltDriver) hk)
    refine Ok.yes (decide_eq_true (by omega)) (Ok.chk (ib (by omega) (by omega)) (Ok.beq (pCheck_any _ hm.1 hm.2) ?_))
    exact Ok.ite (fun q => Ok.some (hb (bne_iff_ne.1 q))) fun q => hg (bne_eq_false_iff_eq.1 q)
  · exact bif_f (decide_eq_false (by omega)) _ _
theorem rCheckDrivers_ok {l : List Driver} (hf : DFit l) : Ok (IsDE l) (rCheckDrivers l) := by
  rw [rCheckDrivers_eq]
  refine Ok.ite (fun h => Ok.some ?_) fun h => drivers_loop (of_decide_eq_false h) (fun k kn P hk hb hg => ?_) fun kn => ?_
  · have := of_decide_eq_true h
    unfold IsDE; rw [if_pos (by omega)]
  · have hm := hf _ (getD_mem (d := dfltDriver) hk)
    refine Ok.yes (decide_eq_true (by omega)) (Ok.chk (ib (by omega) (by omega)) (Ok.beq (rCheck_any _ hm.1 hm.2) ?_))
    exact Ok.ite (fun q => Ok.some (hb (bne_iff_ne.1 q))) fun q => hg (bne_eq_false_iff_eq.1 q)
  · exact bif_f (decide_eq_false (by omega)) _ _
end Go.Proofs.Crew
namespace Go.Proofs.Crew
open Go Go.Ab
open Go.Proofs.YthmgcjmoiilggaaDoor (iseat)
set_option linter.all false
set_option maxRecDepth 100000
noncomputable section
end
end Go.Proofs.Crew
namespace Go.Proofs.Crew
open Go Go.Ab
set_option linter.all false
theorem big_sp (d : Driver) : big d = some (bif decide ((d.Name.size : Int) > 40) then true else decide ((d.Turns.length : Int) > 30)) := by
  rw [big_eq]; unfold big'
  cases decide ((d.Name.size : Int) > 40) <;> rfl
end Go.Proofs.Crew
namespace Go.Proofs.Crew
open Go Go.Ab
set_option linter.all false
def IsAs (u : Rules) (l : List Driver) (hs : List Haul) (r : List Int × Int × Int) : Prop :=
  if (bif rulesB u then (0 : Int) else 2) ≠ 0 then r = ([], 0, bif rulesB u then (0 : Int) else 2) else
    ∃ e2, IsDE l e2 ∧ if e2 ≠ 0 then r = ([], 0, e2) else ∃ e3, IsHE hs e3 ∧ if e3 ≠ 0 then r = ([], 0, e3) else
      AOk u l hs ∧ r = ((goS u l hs hs.length [] 0 ([], -1)).1, (goS u l hs hs.length [] 0 ([], -1)).2, 0)
theorem isAs_det {u : Rules} {l : List Driver} {hs : List Haul} {r s : List Int × Int × Int} (h1 : IsAs u l hs r) (h2 : IsAs u l hs s) : r = s := by
  unfold IsAs at h1 h2
  split at h1
  · rename_i h; rw [if_pos h] at h2; rw [h1, h2]
  · rename_i h; rw [if_neg h] at h2
    obtain ⟨e, d1, h1⟩ := h1
    obtain ⟨e', d2, h2⟩ := h2
    cases isDE_det d1 d2
    split at h1
    · rename_i h; rw [if_pos h] at h2; rw [h1, h2]
    · rename_i h; rw [if_neg h] at h2
      obtain ⟨f, d3, h1⟩ := h1
      obtain ⟨f', d4, h2⟩ := h2
      cases isHE_det d3 d4
      split at h1
      · rename_i h; rw [if_pos h] at h2; rw [h1, h2]
      · rename_i h; rw [if_neg h] at h2
        rw [h1.2, h2.2]
theorem foldl_inv {α : Type} {P : α → Prop} {f : α → Nat → α} (hf : ∀ a i, P a → P (f a i)) : ∀ (n : Nat) (a : α), P a → P ((List.range n).foldl f a)
  | 0, _, h => h
  | n + 1, a, h => by rw [fold_succ]; exact hf _ _ (foldl_inv hf n a h)
theorem goS_len {u : Rules} {l : List Driver} {hs : List Haul} : ∀ (r : Nat) (now : List Int) (sum : Int) (st : List Int × Int), now.length + r = hs.length → st.1.length ≤ hs.length → (goS u l hs r now sum st).1.length ≤ hs.length
  | 0, now, sum, st, h1, h2 => by
    simp only [goS]
    split
    · exact h2
    · show now.length ≤ _; omega
  | r + 1, now, sum, st, h1, h2 => by
    simp only [goS]
    split
    · exact h2
    · refine goS_len r _ _ _ (by simp; omega) (foldl_inv (P := fun st : List Int × Int => st.1.length ≤ hs.length) (fun st i h => ?_) _ _ h2)
      split
      · exact goS_len r _ _ _ (by simp; omega) h
      · exact h
theorem isAs_len {u : Rules} {l : List Driver} {hs : List Haul} {r : List Int × Int × Int} (h : IsAs u l hs r) : r.1.length ≤ hs.length := by
  unfold IsAs at h
  split at h
  · rw [h]; exact Nat.zero_le _
  · obtain ⟨e, _, h⟩ := h
    split at h
    · rw [h]; exact Nat.zero_le _
    · obtain ⟨e, _, h⟩ := h
      split at h
      · rw [h]; exact Nat.zero_le _
      · rw [h.2]; exact goS_len _ _ _ _ (by simp) (Nat.zero_le _)
theorem held_nil {l : List Driver} {hs : List Haul} (hd : ∀ i, i < l.length → DOk (l.getD i dfltDriver)) : ∀ i, i < l.length → Held l hs [] i := fun i hi => ⟨fun k hk _ => absurd hk (Nat.not_lt_zero _), (hd i hi).len⟩
section
variable {u : Rules} {l : List Driver} {hs : List Haul}
theorem aok_of (hf : DFit l) (h1 : ¬ (bif rulesB u then (0 : Int) else 2) ≠ 0) (h2 : IsDE l 0) (h3 : IsHE hs 0) : AOk u l hs := by
  have hu : rulesB u = true := by
    cases h : rulesB u with
    | true => rfl
    | false => rw [h] at h1; exact absurd (by decide) h1
  unfold IsDE at h2
  unfold IsHE at h3
  split at h2
  · cases h2
  split at h3
  · cases h3
  have h2 := h2.resolve_left fun q => q.1 rfl
  have h3 := h3.resolve_left fun q => by cases q.1
  refine ⟨rulesB_in hu, by omega, by omega, fun i hi => checkE_ok (hf _ (getD_mem hi)).1 (h2.2 i hi), fun k hk => ?_⟩
  have := h3.2 k hk
  unfold HOk at this
  omega
theorem pAssign_ok (hf : DFit l) : Ok (IsAs u l hs) (pAssign u l hs) := by
  rw [pAssign_eq]
  refine Ok.beq (pCheckRules_any u) (Ok.ite (fun h => Ok.some ?_) fun h => Ok.bind (pCheckDrivers_ok hf) fun e2 d2 => Ok.ite (fun h2 => Ok.some ?_) fun h2 => Ok.bind (pCheckHauls_ok hs) fun e3 d3 => Ok.ite (fun h3 => Ok.some ?_) fun h3 => ?_)
  · unfold IsAs; rw [if_pos (bne_iff_ne.1 h)]
  · unfold IsAs; rw [if_neg (fun q => q (bne_eq_false_iff_eq.1 h))]
    exact ⟨e2, d2, by rw [if_pos (bne_iff_ne.1 h2)]⟩
  · unfold IsAs; rw [if_neg (fun q => q (bne_eq_false_iff_eq.1 h))]
    exact ⟨e2, d2, by rw [if_neg (fun q => q (bne_eq_false_iff_eq.1 h2))]; exact ⟨e3, d3, by rw [if_pos (bne_iff_ne.1 h3)]⟩⟩
  · have z2 := bne_eq_false_iff_eq.1 h2
    have z3 := bne_eq_false_iff_eq.1 h3
    subst z2 z3
    have h1 : ¬ (bif rulesB u then (0 : Int) else 2) ≠ 0 := fun q => q (bne_eq_false_iff_eq.1 h)
    have ha := aok_of hf h1 d2 d3
    have hn := ha.n
    have hm := ha.m
    refine Ok.chk (by simp [fitM]; omega) ?_
    refine Ok.rounds (fun v => ∃ k : Nat, k ≤ l.length ∧ v.1.2.2.2.2.2.1 = (k : Int) ∧ v.2.1.1 = (List.range l.length).map fun i => if i < k then (⟨l.getD i dfltDriver, u⟩ : Shift) else (⟨⟨(⟨#[]⟩ : ByteArray), 0, []⟩, ⟨0, 0, 0, 0⟩⟩ : Shift)) (fun v => ((l.length : Int) - v.1.2.2.2.2.2.1).toNat) ?_ ?_ ?_
    · show ((l.length : Int) - 0).toNat < 18446744073709551616
      omega
    · refine ⟨0, Nat.zero_le _, rfl, ?_⟩
      show List.replicate l.length _ = _
      rw [eq_range (l := List.replicate l.length (⟨⟨(⟨#[]⟩ : ByteArray), 0, []⟩, ⟨0, 0, 0, 0⟩⟩ : Shift)) (⟨⟨(⟨#[]⟩ : ByteArray), 0, []⟩, ⟨0, 0, 0, 0⟩⟩ : Shift), List.length_replicate]
      refine range_ext fun i hi => ?_
      rw [if_neg (by omega), List.getD_eq_getElem?_getD, List.getElem?_replicate, if_pos hi]; rfl
    rintro ⟨⟨_, _, _, _, _, x, _⟩, ⟨⟨sh, _⟩, _⟩⟩ kn ⟨k, k1, k2, k3⟩ hk
    simp only at k2 k3 ⊢
    subst k2 k3
    have ek : w64 ((k : Int) + 1) = ((k + 1 : Nat) : Int) := by rw [w64_id (by omega) (by omega)]; push_cast; rfl
    refine Ok.ite (fun hlt => ?_) fun hge => ?_
    · have hlt : k < l.length := by have := of_decide_eq_true hlt; omega
      refine Ok.chk (ib (by omega) (by omega)) (Ok.chk ?_ (Ok.chk ?_ (hk _ ⟨k + 1, hlt, ek, ?_⟩ ?_)))
      · rw [len_range]; exact ib (by omega) (by omega)
      · simp only [Int.toNat_natCast, len_range]; simpa using hlt
      · simp only [Int.toNat_natCast]
        refine range_set (by rw [if_pos (by omega)]) fun i hi => ?_
        by_cases e : i < k
        · rw [if_pos e, if_pos (by omega)]
        · rw [if_neg e, if_neg (by omega)]
      · simp only [ek]; omega
    · have hge : k = l.length := by have := of_decide_eq_false hge; omega
      subst hge
      have es : ((List.range l.length).map fun i => if i < l.length then (⟨l.getD i dfltDriver, u⟩ : Shift) else (⟨⟨(⟨#[]⟩ : ByteArray), 0, []⟩, ⟨0, 0, 0, 0⟩⟩ : Shift)) = shiftsOf u l hs [] := by
        unfold shiftsOf
        refine range_ext fun i hi => ?_
        rw [if_pos hi]; rfl
      rw [es]
      have key := try_sp ha hs.length FUELR [] 0 ([], -1) (by show hs.length < 64; omega) (by simp) (Int.le_refl _) (by simp) (held_nil ha.d)
      rw [← tryA_eq] at key
      refine Ok.beq key (Ok.some ?_)
      unfold IsAs; rw [if_neg h1]
      exact ⟨0, d2, by rw [if_neg (fun q => q rfl)]; exact ⟨0, d3, by rw [if_neg (fun q => q rfl)]; exact ⟨ha, rfl⟩⟩⟩
theorem rAssign_ok (hf : DFit l) : Ok (IsAs u l hs) (rAssign u l hs) := by
  rw [rAssign_eq]
  refine Ok.beq (rCheckRules_any u) (Ok.ite (fun h => Ok.some ?_) fun h => Ok.bind (rCheckDrivers_ok hf) fun e2 d2 => Ok.ite (fun h2 => Ok.some ?_) fun h2 => Ok.bind (rCheckHauls_ok hs) fun e3 d3 => Ok.ite (fun h3 => Ok.some ?_) fun h3 => ?_)
  · unfold IsAs; rw [if_pos (bne_iff_ne.1 h)]
  · unfold IsAs; rw [if_neg (fun q => q (bne_eq_false_iff_eq.1 h))]
    exact ⟨e2, d2, by rw [if_pos (bne_iff_ne.1 h2)]⟩
  · unfold IsAs; rw [if_neg (fun q => q (bne_eq_false_iff_eq.1 h))]
    exact ⟨e2, d2, by rw [if_neg (fun q => q (bne_eq_false_iff_eq.1 h2))]; exact ⟨e3, d3, by rw [if_pos (bne_iff_ne.1 h3)]⟩⟩
  · have z2 := bne_eq_false_iff_eq.1 h2
    have z3 := bne_eq_false_iff_eq.1 h3
    subst z2 z3
    have h1 : ¬ (bif rulesB u then (0 : Int) else 2) ≠ 0 := fun q => q (bne_eq_false_iff_eq.1 h)
    have ha := aok_of hf h1 d2 d3
    have hm := ha.m
    have key := goOn_sp ha hs.length FUELR [] 0 ([], -1) (by show hs.length < 64; omega) (by simp) (Int.le_refl _) (by simp) (held_nil ha.d)
    rw [← goOn_eq] at key
    refine Ok.beq key (Ok.some ?_)
    unfold IsAs; rw [if_neg h1]
    exact ⟨0, d2, by rw [if_neg (fun q => q rfl)]; exact ⟨0, d3, by rw [if_neg (fun q => q rfl)]; exact ⟨ha, rfl⟩⟩⟩
end
theorem CrewOf_ok (s : Seed) {most turns : Int} (h0 : 0 ≤ most) (h1 : most ≤ 100) (t0 : 0 ≤ turns) (t1 : turns ≤ 20) : Ok (fun r => r.2.length ≤ 100 ∧ ∀ d ∈ r.2, ∃ name : ByteArray, name.size ≤ 1000 ∧ DMade name turns d) (CrewOf s most turns) := by
  rw [CrewOf_eq]
  have e0 : w64 (most + 1) = most + 1 := w64_id (by omega) (by omega)
  refine Ok.bind (Below_ok s (by rw [e0]; omega)) fun r hr => ?_
  rw [e0] at hr
  refine Ok.rounds (fun v => 0 ≤ v.1.2.2.2.1 ∧ (v.1.2.2.1.length : Int) + v.1.2.2.2.1 ≤ 100 ∧ ∀ d ∈ v.1.2.2.1, ∃ name : ByteArray, name.size ≤ 1000 ∧ DMade name turns d) (fun v => v.1.2.2.2.1.toNat) ?_ ?_ ?_
  · show r.2.toNat < 18446744073709551616
    omega
  · exact ⟨hr.1, by show ((0 : Nat) : Int) + r.2 ≤ 100; omega, fun d hd => by cases hd⟩
  rintro ⟨⟨_, _, out, i, _⟩, ⟨⟨w, _⟩, _⟩⟩ kn ⟨i0, i1, i2⟩ hk
  simp only at i0 i1 i2 ⊢
  refine Ok.ite (fun hlt => ?_) fun _ => Ok.some ⟨by simp only; omega, i2⟩
  have hlt := of_decide_eq_true hlt
  have e : w64 (i - 1) = i - 1 := w64_id (by omega) (by omega)
  have et : ((out.length : Int).tmod 4) = ((out.length % 4 : Nat) : Int) := by
    rw [Int.tmod_eq_emod_of_nonneg (by omega)]; omega
  have hm4 : out.length % 4 < 4 := Nat.mod_lt _ (by omega)
  rw [et]
  simp only [Int.toNat_natCast]
  have hname : ∀ k, k < 4 → ((([(⟨#[97, 110, 110]⟩ : ByteArray), (⟨#[98, 111, 98]⟩ : ByteArray), (⟨#[99, 97, 116]⟩ : ByteArray), (⟨#[100, 97, 110]⟩ : ByteArray)] : List ByteArray).getD k ⟨#[]⟩).size ≤ 1000) := by
    intro k hk
    match k, hk with
    | 0, _ => decide
    | 1, _ => decide
    | 2, _ => decide
    | 3, _ => decide
  refine Ok.chk (by simp; omega) (Ok.chk (by simp; omega) (Ok.bind (DriverOf_ok _ _ t0 t1) fun r2 h2 => Ok.chk (fitA_ok (by simp; omega) (by omega)) (hk _ ?_ ?_)))
  · simp only [e, List.length_append, List.length_singleton]
    refine ⟨by omega, by push_cast; omega, fun d hd => ?_⟩
    rcases List.mem_append.1 hd with hd | hd
    · exact i2 d hd
    · simp only [List.mem_singleton] at hd; subst hd
      exact ⟨_, hname _ hm4, h2⟩
  · simp only [e]; omega
theorem HaulsOf_ok (s : Seed) {most : Int} (h0 : 0 ≤ most) (h1 : most ≤ 100) : Ok (fun r => (r.2.length : Int) ≤ most ∧ ∀ h ∈ r.2, HOk h) (HaulsOf s most) := by
  rw [HaulsOf_eq]
  have e0 : w64 (most + 1) = most + 1 := w64_id (by omega) (by omega)
  refine Ok.bind (Below_ok s (by rw [e0]; omega)) fun r hr => ?_
  rw [e0] at hr
  refine Ok.rounds (fun v => 0 ≤ v.1.2.2.1 ∧ (v.1.2.1.length : Int) + v.1.2.2.1 ≤ most ∧ ∀ h ∈ v.1.2.1, HOk h) (fun v => v.1.2.2.1.toNat) ?_ ?_ ?_
  · show r.2.toNat < 18446744073709551616
    omega
  · exact ⟨hr.1, by show ((0 : Nat) : Int) + r.2 ≤ most; omega, fun d hd => by cases hd⟩
  rintro ⟨⟨_, out, i, _⟩, ⟨⟨w, _⟩, _⟩⟩ kn ⟨i0, i1, i2⟩ hk
  simp only at i0 i1 i2 ⊢
  refine Ok.ite (fun hlt => ?_) fun _ => Ok.some ⟨by simp only; omega, i2⟩
  have hlt := of_decide_eq_true hlt
  have e : w64 (i - 1) = i - 1 := w64_id (by omega) (by omega)
  refine Ok.bind (Below_ok _ (by omega)) fun r2 q2 => Ok.bind (From_ok _ (by omega) (by omega) (by omega) (by omega)) fun r3 q3 => Ok.bind (Below_ok _ (by omega)) fun r4 q4 => Ok.bind (Of_ok _ (by simp) (by simp)) fun r5 q5 => Ok.chk (fitA_ok (by simp; omega) (by omega)) (hk _ ?_ ?_)
  · simp only [e, List.length_append, List.length_singleton]
    refine ⟨by omega, by push_cast; omega, fun d hd => ?_⟩
    rcases List.mem_append.1 hd with hd | hd
    · exact i2 d hd
    · simp only [List.mem_singleton] at hd; subst hd
      simp only [List.mem_cons, List.not_mem_nil, or_false] at q5
      unfold HOk
      simp only
      omega
  · simp only [e]; omega
theorem Same_self {l : List Int} (hl : l.length ≤ 1000000) : Same l l = some true := by
  rw [Same_eq]; apply ok_eq
  refine Ok.no (by simp) ?_
  refine Ok.rounds (fun v => 0 ≤ v.1.1 ∧ v.1.1 ≤ l.length) (fun v => ((l.length : Int) - v.1.1).toNat) ?_ ?_ ?_
  · show ((l.length : Int) - 0).toNat < 18446744073709551616
    omega
  · exact ⟨Int.le_refl _, by show (0 : Int) ≤ l.length; omega⟩
  rintro ⟨⟨i, _⟩, _⟩ kn ⟨i0, i1⟩ hk
  simp only at i0 i1 ⊢
  refine Ok.ite (fun hlt => ?_) fun _ => Ok.some rfl
  have hlt := of_decide_eq_true hlt
  have e : w64 (i + 1) = i + 1 := w64_id (by omega) (by omega)
  refine Ok.chk (by simp; omega) (Ok.chk (by simp; omega) (Ok.no (by simp) (hk _ ?_ ?_)))
  · simp only [e]; omega
  · simp only [e]; omega
end Go.Proofs.Crew
namespace Go.Proofs.Crew
open Go Go.Ab
set_option linter.all false
theorem hauls_l12 (hw : awake = some true) {u : Rules} {r6 : Seed × Rules} {hauls : List Haul} {r8 : Seed × List Haul} {l : List Driver} {r7 : Seed × List Driver} {kn : Int → Option Bool}
    (f1 : DFit l) (f2 : DFit r7.2) (h1 : hauls.length ≤ 1000) (h2 : r8.2.length ≤ 1000) :
    Ok (fun b => b = true) (itN _ (fun (v_0 : (Unit × Unit × Unit × Int × Unit) × (Unit)) kn => CrewHauls_L12 itN u r6 hauls r8 l r7 v_0.1.2.2.2.1 (fun y0 => kn (((), (), (), y0, ()), (())))) (((), (), (), 0, ()), (()))) := by
  refine Ok.rounds (fun v => 0 ≤ v.1.2.2.2.1 ∧ v.1.2.2.2.1 ≤ 3) (fun v => (3 - v.1.2.2.2.1).toNat) ?_ ?_ ?_
  · show (3 - (0 : Int)).toNat < 18446744073709551616
    omega
  · simp
  rintro ⟨⟨_, _, _, i, _⟩, _⟩ kn hi' hk
  simp only at hi' ⊢
  refine Ok.ite (fun hlt => ?_) fun _ => Ok.beq hw (Ok.some rfl)
  have hlt3 : i < 3 := by have := of_decide_eq_true hlt; simpa using this
  have e : w64 (i + 1) = i + 1 := w64_id (by omega) (by omega)
  have b1 : (decide (0 ≤ i) && decide (i < ((([hauls, r8.2, hauls] : List (List Haul)).length : Nat) : Int))) = true := by simp; omega
  have b2 : (decide (i.toNat < ([hauls, r8.2, hauls] : List (List Haul)).length)) = true := by simp; omega
  have d1 : (decide (0 ≤ i) && decide (i < ((([u, r6.2, r6.2] : List Rules).length : Nat) : Int))) = true := by simp; omega
  have d2 : (decide (i.toNat < ([u, r6.2, r6.2] : List Rules).length)) = true := by simp; omega
  have g1 : (decide (0 ≤ i) && decide (i < ((([l, r7.2, r7.2] : List (List Driver)).length : Nat) : Int))) = true := by simp; omega
  have g2 : (decide (i.toNat < ([l, r7.2, r7.2] : List (List Driver)).length)) = true := by simp; omega
  have hH : ∀ x ∈ ([hauls, r8.2, hauls] : List (List Haul)), x.length ≤ 1000 := fun x hx => by
    simp only [List.mem_cons, List.not_mem_nil, or_false] at hx
    rcases hx with rfl | rfl | rfl <;> assumption
  have hy := hH (([hauls, r8.2, hauls] : List (List Haul)).getD i.toNat []) (getD_mem (by simp; omega))
  have hD : ∀ x ∈ ([l, r7.2, r7.2] : List (List Driver)), DFit x := fun x hx => by
    simp only [List.mem_cons, List.not_mem_nil, or_false] at hx
    rcases hx with rfl | rfl | rfl <;> assumption
  have hx := hD (([l, r7.2, r7.2] : List (List Driver)).getD i.toNat []) (getD_mem (by simp; omega))
  refine Ok.chk b1 (Ok.chk b2 (Ok.chk (fitA_ok (by simp only [List.length_nil]; omega) (by omega)) (Ok.chk d1 (Ok.chk d2 (Ok.chk g1 (Ok.chk g2 (Ok.bind (pAssign_ok hx) fun p hp => Ok.chk d1 (Ok.chk d2 (Ok.chk g1 (Ok.chk g2 (Ok.chk b1 (Ok.chk b2 (Ok.bind (rAssign_ok hx) fun q hq => ?_)))))))))))))
  simp only [List.nil_append] at hp
  have hpq := isAs_det hp hq
  subst hpq
  have hlen := isAs_len hp
  refine Ok.no (by simp) (Ok.no (by simp) (Ok.beq (Same_self (by omega)) (Ok.no rfl ?_)))
  generalize hy0 : ([hauls, r8.2, hauls] : List (List Haul)).getD i.toNat [] = y at hy
  refine Ok.rounds (fun v => 0 ≤ v.1.2.2.2.1 ∧ v.1.2.2.2.1 ≤ y.length) (fun v => ((y.length : Int) - v.1.2.2.2.1).toNat) ?_ ?_ ?_
  · show ((y.length : Int) - 0).toNat < 18446744073709551616
    omega
  · exact ⟨Int.le_refl _, by show (0 : Int) ≤ y.length; omega⟩
  rintro ⟨⟨_, _, _, k, _⟩, _⟩ kn2 hk' hk2
  simp only at hk' ⊢
  unfold CrewHauls_L20
  simp only [List.nil_append, hy0]
  refine Ok.ite (fun hlt2 => ?_) fun _ => hk _ ?_ ?_
  · have hlt2 := of_decide_eq_true hlt2
    have ek : w64 (k + 1) = k + 1 := w64_id (by omega) (by omega)
    refine Ok.chk (by simp; omega) (Ok.chk b1 (Ok.chk b2 (Ok.chk (by simp; omega) (Ok.no (by simp) (hk2 _ ?_ ?_)))))
    · simp only [ek]; omega
    · simp only [ek]; omega
  · simp only [e]; omega
  · simp only [e]; omega
theorem CrewHauls_true (hw : awake = some true) (u : Rules) (l : List Driver) (hauls : List Haul) {nums : List Int} (hl : l.length ≤ 9223372036854775807) (hh : hauls.length ≤ 9223372036854775807) (hn : nums.length ≤ 9223372036854775807) : CrewHauls u l hauls nums = some true := by
  rw [CrewHauls_eq]; apply ok_eq
  have hawake : Ok (fun b => b = true) ((awake).bind fun r7 => some r7) := Ok.beq hw (Ok.some rfl)
  refine Ok.rounds (fun v => ∃ k : Nat, k ≤ l.length ∧ v.1.2.1 = (k : Int) ∧ ∀ i, i < k → (l.getD i dfltDriver).Name.size ≤ 40 ∧ (l.getD i dfltDriver).Turns.length ≤ 30) (fun v => ((l.length : Int) - v.1.2.1).toNat) ?_ ?_ ?_
  · show ((l.length : Int) - 0).toNat < 18446744073709551616
    omega
  · exact ⟨0, Nat.zero_le _, rfl, fun i hi => by omega⟩
  rintro ⟨⟨_, x, _⟩, _⟩ kn ⟨k, k1, k2, k3⟩ hk
  simp only at k2 ⊢
  subst k2
  have ek : w64 ((k : Int) + 1) = ((k + 1 : Nat) : Int) ∨ k = l.length := by
    by_cases h : k = l.length
    · exact .inr h
    · exact .inl (by rw [w64_id (by omega) (by omega)]; push_cast; rfl)
  refine Ok.ite (fun hlt => ?_) fun hge => ?_
  · have hlt : k < l.length := by have := of_decide_eq_true hlt; omega
    have ek : w64 ((k : Int) + 1) = ((k + 1 : Nat) : Int) := ek.resolve_right (by omega)
    refine Ok.chk (ib (by omega) (by omega)) (Ok.beq (big_sp _) ?_)
    simp only [Int.toNat_natCast]
    refine Ok.ite (fun _ => hawake) fun hb => hk _ ⟨k + 1, hlt, ek, fun i hi => ?_⟩ ?_
    · by_cases e : i = k
      · subst e
        cases h1 : decide (((l.getD i dfltDriver).Name.size : Int) > 40) with
        | true => rw [h1] at hb; cases hb
        | false =>
          rw [h1] at hb
          have := of_decide_eq_false h1
          have := of_decide_eq_false (show decide (((l.getD i dfltDriver).Turns.length : Int) > 30) = false from hb)
          omega
      · exact k3 i (by omega)
    · simp only [ek]; omega
  · have hge : k = l.length := by have := of_decide_eq_false hge; omega
    subst hge
    refine Ok.ite (fun _ => hawake) fun h6 => Ok.ite (fun _ => hawake) fun h8 => ?_
    have h6 := of_decide_eq_false h6
    have h8 := of_decide_eq_false h8
    have f1 : DFit l := fun d hd => by
      obtain ⟨i, hi, rfl⟩ := List.getElem_of_mem hd
      have := k3 i hi
      rw [List.getD_eq_getElem?_getD, List.getElem?_eq_getElem hi] at this
      simp only [Option.getD_some] at this
      omega
    refine Ok.bind (NewSeed_ok hn) fun r5 _ => Ok.bind (RulesOf_ok r5) fun r6 _ => Ok.bind (CrewOf_ok _ (by decide) (by decide) (by decide) (by decide)) fun r7 h7 => Ok.bind (HaulsOf_ok _ (by decide) (by decide)) fun r8 hr8 => ?_
    refine hauls_l12 hw (kn := fun _ => none) f1 (fun d hd => ?_) (by omega) (by have := hr8.1; omega)
    obtain ⟨name, hs, hd2⟩ := h7.2 d hd
    have := hd2.len
    rw [hd2.nm]
    omega
end Go.Proofs.Crew
namespace Go.Proofs.YthmgcjmoiilggaaDoor
open Go Go.Ab Go.ChangeShapes Go.WideShapes Go.ChangeAt Go.RowKit
set_option maxRecDepth 100000
def allK (w : World) : Nat → Nat → Option Value := fun b o => w.cell? ⟨b, o, none⟩
theorem allK_fits (w : World) : Fits (allK w) w := fun _ _ _ h => h
theorem cells3 : Tryd.prog.cellsOf 3 = 1 := by kernel_rfl
section
variable {H : Type} {enc : TypeId × Value → H} {W : World}
def Rd {α : Type} (enc : TypeId × Value → H) (W : World) (t : TypeId) (ec : α → List D) : Prop :=
  ∀ n cs x, DataW.trod enc Tryd.prog W 0 (fun _ => true) true n t cs = some x → ∃ a : α, RepL (allK W) γ0 sv0 (ec a) cs
theorem rd_int : Rd enc W 3 encI := by
  intro n cs x h
  obtain ⟨a, rfl, _⟩ := DataW.trod_int Tryd.underlying3 h
  exact ⟨a, .cons _ _ _ _ (.int _ _) .nil⟩
theorem rd_slice {α : Type} [Inhabited α] {t e z : Nat} {ec : α → List D} (ht : Tryd.prog.underlying t = some (.slice e)) (hz : Tryd.prog.cellsOf e = z) (hz0 : 0 < z) (hl : ∀ a, (ec a).length = z)
    (hc : ∀ a, allCell (ec a) = true) (hr : Rd enc W e ec) : Rd enc W t (fun l : List α => [slOf z ec l]) := by
  intro n cs x h
  rcases Deep.open_slice ht h with ⟨rfl, rfl⟩ | ⟨a, len, cap, m, n', D, Pl, rfl, _, hlc, _, hm, rfl, hx⟩
  · exact ⟨[], .cons _ _ _ _ (.sl0 _ _) .nil⟩
  · simp only [if_true] at hm
    subst hm
    rw [hz] at hx
    rcases Nat.eq_zero_or_pos len with rfl | hpos
    · exact ⟨[], .cons _ _ _ _ (.slE _ _ _ _) .nil⟩
    · have hx' : ∀ i, i < len → ∃ p : α × List Value, W.cells? 0 (a.add (i * z)) z = some p.2 ∧ RepL (allK W) γ0 sv0 (ec p.1) p.2 := fun i hi => by
        obtain ⟨cs', h1, h2⟩ := hx i (by omega)
        obtain ⟨b, hb⟩ := hr _ _ _ h2
        exact ⟨(b, cs'), h1, hb⟩
      obtain ⟨F, hF⟩ := Deep.choose_lt hx'
      have hsp : a.spot = none := by
        obtain ⟨_, h1, h2⟩ := World.cells?_some (hF 0 hpos).1
        have h3 := h2 0 hz0
        rw [List.getElem?_eq_getElem (by omega)] at h3
        simpa [Addr.add] using World.cell?_spot h3
      obtain ⟨b, off, sp⟩ := a
      simp only at hsp
      subst hsp
      refine ⟨(List.range len).map (fun i => (F i).1), .cons _ _ _ _ ?_ .nil⟩
      have hlen : ((List.range len).map (fun i => (F i).1)).length = len := by simp
      have hg : ∀ i, i < len → ((List.range len).map (fun i => (F i).1)).getD i default = (F i).1 := fun i hi => by simp [List.getD, hi]
      unfold slOf
      rw [hlen]
      refine .sl z len _ b off m (fun i => (F i).2) hlc (fun i _ => hl _) (fun i _ => hc _) (fun i hi => by rw [hg i hi]; exact (hF i hi).2) (fun i j v hi hj => ?_)
      obtain ⟨_, h1, h2⟩ := World.cells?_some (hF i hi).1
      have hjl := (List.getElem?_eq_some_iff.1 hj).1
      have h3 := h2 j (by omega)
      rw [add_plain, add_plain, hj] at h3
      exact h3
theorem arg_ints {v : Value} {d : DataW H} {ps : List MemPlace} {base : Nat} (hv : Value.okWide Tryd.prog W .any base 31 v) (h : DataW.Trod enc Tryd.prog W 0 (fun _ => true) true 31 v d ps) :
    ∃ l : List Int, Rep (allK W) γ0 sv0 (slOf 1 encI l) v := by
  obtain ⟨n, hn⟩ := h
  obtain ⟨l, hl⟩ := rd_slice (ec := encI) Tryd.underlying31 cells3 (by decide) (fun _ => rfl) (fun _ => rfl) rd_int _ _ _ hn
  obtain ⟨a0, len, cap, rfl⟩ := okWide_slice Tryd.underlying31 hv
  cases hl with
  | cons _ _ _ _ k _ => exact ⟨l, k⟩
end
theorem glob_of {W : World} : GlobOk seat (allK W) := fun g l h => by cases h
theorem laidOut : laidOutB Tryd.prog = true := by kernel_rfl
theorem own : ownKnob Tryd.prog.godebug = none := by kernel_rfl
theorem trodAll_stays {H : Type} {enc : TypeId × Value → H} {W W' : World} {sp' : Nat → Bool} (hb : Below W.heap.size W W') : ∀ {ts : List TypeId} {vs : List Value} {ds : List (DataW H)} {ps : List MemPlace},
    (∀ t ∈ ts, Tryd.prog.readableRec t = true ∧ t < Tryd.prog.types.size) → DataW.TrodAll enc Tryd.prog W 0 (fun _ => true) true ts vs ds ps → (∀ p ∈ ps, p.block < W.heap.size) → (∀ p ∈ ps, sp' p.block = true) →
    DataW.TrodAll enc Tryd.prog W' 0 sp' true ts vs ds ps
  | [], [], [], _, _, h, _, _ => h
  | _ :: _, _ :: _, _ :: _, _, hT, ⟨p, q, h1, h2, e⟩, hlt, hs => ⟨p, q,
      WideElems.Trod_stays laidOut (hT _ (List.mem_cons_self ..)).1 (hT _ (List.mem_cons_self ..)).2 h1 (fun x hx => hb.same (hlt x (by rw [e]; exact List.mem_append_left _ hx))) (fun x hx => hs x (by rw [e]; exact List.mem_append_left _ hx)),
      trodAll_stays hb (fun t ht => hT t (List.mem_cons_of_mem _ ht)) h2 (fun x hx => hlt x (by rw [e]; exact List.mem_append_right _ hx)) (fun x hx => hs x (by rw [e]; exact List.mem_append_right _ hx)), e⟩
theorem post_yes {H : Type} {enc : TypeId × Value → H} {f : Func} {s : ChangeSpec} {W W' : World} {args : Array Value} {ds gs : List (DataW H)} {before : List MemPlace}
    (hW : DataW.Whole enc Tryd.prog f.params.toList s.vars false W args.toList ds gs before) (hv : s.vars = []) (hb : Below W.heap.size W W')
    (hT : ∀ t ∈ f.params.toList, Tryd.prog.readableRec t = true ∧ t < Tryd.prog.types.size) (hrt : f.resultTypes = #[4])
    (hr : (s.fn H (ds ++ gs)).results = [.lit (.bool true)]) (ha : (s.fn H (ds ++ gs)).args = ds) (hvs : (s.fn H (ds ++ gs)).vars = []) :
    s.post enc Tryd.prog f false true false false W args (.bool true) W' := by
  have hlt := hW.lt
  have hW2 := hW
  obtain ⟨p, q, hA, hV, rfl, _, _⟩ := hW
  rw [hv] at hV
  obtain ⟨rfl, rfl⟩ := trodVars_none hV
  refine ⟨ds, [], p ++ [], [], p, [], hW2, ?_, ?_, ?_, hb.frame _, fun h => by cases h⟩
  · rw [hr, hrt]
    exact trodAll_mk1 (shut_bool Tryd.underlying4 _)
  · rw [ha]
    exact trodAll_stays hb hT hA (fun x hx => hlt x (by simpa using hx)) (fun x hx => by simpa using hlt x (by simpa using hx))
  · rw [hvs, hv]; rfl
def layObj (l : List Nat) : Obj → Obj
  | .cells _ t frozen => .cells (l.map fun (n : Nat) => Value.int .u8 (n : Int)).toArray t frozen
  | o => o
noncomputable def laidWorld (os : Os) : World :=
  { World.holding Tryd.prog os ⟨#[], #[], []⟩ with heap := ((World.holding Tryd.prog os ⟨#[], #[], []⟩).heap.modify 1 (layObj [128, 191, 160, 191, 128, 159, 144, 191, 128, 143, 0, 0, 0, 0, 0, 0, 0, 0, 0, 0, 0, 0, 0, 0, 0, 0, 0, 0, 0, 0, 0, 0])).modify 0 (layObj Go.Pinned.utf8FirstZ) }
theorem ints_len {κ : Nat → Nat → Option Value} {γ : Nat → Nat} {sv : Nat → Value} {W : World} {base : Nat} {v : Value} {l : List Int} (hv : Value.okWide Tryd.prog W .any base 31 v) (h : Rep κ γ sv (slOf 1 encI l) v) : l.length ≤ 9223372036854775807 := by
  unfold slOf at h
  generalize hn : l.length = n at h
  cases h with
  | sl0 => omega
  | slE => omega
  | sl _ _ _ b off cap u hc =>
    simp only [Value.okWide, Cell.okWide, Cell.ok, Tryd.underlying31] at hv
    have h1 := hv.2.1
    have h2 : IntKind.i64.max = 9223372036854775807 := by decide
    rw [h2] at h1
    omega
section
variable {H : Type} {enc : TypeId × Value → H} {W : World}
end
end Go.Proofs.YthmgcjmoiilggaaDoor
namespace Go.Proofs.YthmgcjmoiilggaaDoor
open Go Go.Ab Go.ChangeShapes Go.WideShapes Go.ChangeAt Go.RowKit
set_option linter.all false
set_option maxRecDepth 100000
theorem cells9 : Tryd.prog.cellsOf 9 = 1 := by kernel_rfl
theorem cells23 : Tryd.prog.cellsOf 23 = 4 := by kernel_rfl
theorem cells24 : Tryd.prog.cellsOf 24 = 1 := by kernel_rfl
theorem cells26 : Tryd.prog.cellsOf 26 = 3 := by kernel_rfl
theorem cells28 : Tryd.prog.cellsOf 28 = 2 := by kernel_rfl
theorem cells30 : Tryd.prog.cellsOf 30 = 4 := by kernel_rfl
section
variable {H : Type} {enc : TypeId × Value → H} {W : World}
theorem fld {fs : Array Field} {xs : List (DataW H × List MemPlace)} {cs : List Value} {n : Nat}
    (hf : ∀ (i : Nat) (f : Field), fs[i]? = some f → DataW.trod enc Tryd.prog W 0 (fun _ => true) true n f.type ((cs.drop f.offset).take (Tryd.prog.cellsOf f.type)) = xs[i]?)
    (hl : xs.length = fs.size) (i : Nat) (f : Field) (hi : fs[i]? = some f) : ∃ y, DataW.trod enc Tryd.prog W 0 (fun _ => true) true n f.type ((cs.drop f.offset).take (Tryd.prog.cellsOf f.type)) = some y := by
  have h1 := (Array.getElem?_eq_some_iff.1 hi).1
  rw [← hl] at h1
  exact ⟨xs[i], by rw [hf i f hi]; exact List.getElem?_eq_getElem h1⟩
theorem rd_span : Rd enc W 28 encDSpan := by
  intro n cs x h
  obtain ⟨xs, m, rfl, rfl, hlen, hxl, hf⟩ := DataW.trod_struct Tryd.underlying28 h
  obtain ⟨y0, h0⟩ := fld hf hxl 0 _ rfl
  obtain ⟨y1, h1⟩ := fld hf hxl 1 _ rfl
  obtain ⟨a0, e0, _⟩ := DataW.trod_int Tryd.underlying3 h0
  obtain ⟨a1, e1, _⟩ := DataW.trod_int Tryd.underlying3 h1
  rw [cells28] at hlen
  rcases cs with _ | ⟨c0, _ | ⟨c1, _ | ⟨c2, cs⟩⟩⟩ <;> simp at hlen
  simp [cells3] at e0 e1
  subst e0 e1
  exact ⟨⟨a0, a1⟩, .cons _ _ _ _ (.int _ _) (.cons _ _ _ _ (.int _ _) .nil)⟩
theorem rd_turn : Rd enc W 30 encDTurn := by
  intro n cs x h
  obtain ⟨xs, m, rfl, rfl, hlen, hxl, hf⟩ := DataW.trod_struct Tryd.underlying30 h
  obtain ⟨y0, h0⟩ := fld hf hxl 0 _ rfl
  obtain ⟨y1, h1⟩ := fld hf hxl 1 _ rfl
  obtain ⟨a0, e0⟩ := rd_span _ _ _ h0
  obtain ⟨a1, e1⟩ := rd_span _ _ _ h1
  rw [cells30] at hlen
  rcases cs with _ | ⟨c0, _ | ⟨c1, _ | ⟨c2, _ | ⟨c3, _ | ⟨c4, cs⟩⟩⟩⟩⟩ <;> simp at hlen
  simp [cells28] at e0 e1
  cases e0 with
  | cons _ _ _ _ k0 r0 =>
    cases r0 with
    | cons _ _ _ _ k1 _ =>
      cases e1 with
      | cons _ _ _ _ k2 r2 =>
        cases r2 with
        | cons _ _ _ _ k3 _ => exact ⟨⟨a0, a1⟩, .cons _ _ _ _ k0 (.cons _ _ _ _ k1 (.cons _ _ _ _ k2 (.cons _ _ _ _ k3 .nil)))⟩
theorem rd_rules : Rd enc W 23 encDRules := by
  intro n cs x h
  obtain ⟨xs, m, rfl, rfl, hlen, hxl, hf⟩ := DataW.trod_struct Tryd.underlying23 h
  obtain ⟨y0, h0⟩ := fld hf hxl 0 _ rfl
  obtain ⟨y1, h1⟩ := fld hf hxl 1 _ rfl
  obtain ⟨y2, h2⟩ := fld hf hxl 2 _ rfl
  obtain ⟨y3, h3⟩ := fld hf hxl 3 _ rfl
  obtain ⟨a0, e0, _⟩ := DataW.trod_int Tryd.underlying3 h0
  obtain ⟨a1, e1, _⟩ := DataW.trod_int Tryd.underlying3 h1
  obtain ⟨a2, e2, _⟩ := DataW.trod_int Tryd.underlying3 h2
  obtain ⟨a3, e3, _⟩ := DataW.trod_int Tryd.underlying3 h3
  rw [cells23] at hlen
  rcases cs with _ | ⟨c0, _ | ⟨c1, _ | ⟨c2, _ | ⟨c3, _ | ⟨c4, cs⟩⟩⟩⟩⟩ <;> simp at hlen
  simp [cells3] at e0 e1 e2 e3
  subst e0 e1 e2 e3
  exact ⟨⟨a0, a1, a2, a3⟩, .cons _ _ _ _ (.int _ _) (.cons _ _ _ _ (.int _ _) (.cons _ _ _ _ (.int _ _) (.cons _ _ _ _ (.int _ _) .nil)))⟩
theorem rd_driver : Rd enc W 26 encDDriver := by
  intro n cs x h
  obtain ⟨xs, m, rfl, rfl, hlen, hxl, hf⟩ := DataW.trod_struct Tryd.underlying26 h
  obtain ⟨y0, h0⟩ := fld hf hxl 0 _ rfl
  obtain ⟨y1, h1⟩ := fld hf hxl 1 _ rfl
  obtain ⟨y2, h2⟩ := fld hf hxl 2 _ rfl
  obtain ⟨a0, e0, _⟩ := DataW.trod_string Tryd.underlying9 h0
  obtain ⟨a1, e1, _⟩ := DataW.trod_int Tryd.underlying3 h1
  obtain ⟨l, e2⟩ := rd_slice (ec := encDTurn) Tryd.underlying24 cells30 (by decide) (fun _ => rfl) (fun _ => rfl) rd_turn _ _ _ h2
  rw [cells26] at hlen
  rcases cs with _ | ⟨c0, _ | ⟨c1, _ | ⟨c2, _ | ⟨c3, cs⟩⟩⟩⟩ <;> simp at hlen
  simp [cells3, cells9, cells24] at e0 e1 e2
  subst e0 e1
  cases e2 with
  | cons _ _ _ _ k2 _ => exact ⟨⟨a0, a1, l⟩, .cons _ _ _ _ (.str _) (.cons _ _ _ _ (.int _ _) (.cons _ _ _ _ k2 .nil))⟩
theorem arg_struct {α : Type} {ec : α → List D} {t : TypeId} {fs : Array Field} (hu : Tryd.prog.underlying t = some (.struct fs)) (hr : Rd enc W t ec) {v : Value} {d : DataW H} {ps : List MemPlace} {base : Nat} (hv : Value.okWide Tryd.prog W .any base t v) (h : DataW.Trod enc Tryd.prog W 0 (fun _ => true) true t v d ps) :
    ∃ c : α, Rep (allK W) γ0 sv0 (.agg (ec c)) v := by
  simp only [Value.okWide, hu] at hv
  obtain ⟨cs, rfl, _⟩ := hv
  obtain ⟨n, hn⟩ := h
  obtain ⟨c, hc⟩ := hr _ _ _ hn
  have := Rep.agg _ _ hc
  simp [Value.cells] at this
  exact ⟨c, this⟩
end
end Go.Proofs.YthmgcjmoiilggaaDoor
namespace Go.Proofs.YthmgcjmoiilggaaDoor
open Go Go.Ab Go.ChangeShapes Go.WideShapes Go.ChangeAt Go.RowKit
set_option linter.all false
set_option maxRecDepth 100000
theorem cells84 : Tryd.prog.cellsOf 84 = 3 := by kernel_rfl
theorem sl_len {α : Type} [Inhabited α] {t e z : Nat} {ec : α → List D} (ht : Tryd.prog.underlying t = some (.slice e)) {κ : Nat → Nat → Option Value} {γ : Nat → Nat} {sv : Nat → Value} {W : World} {base : Nat} {v : Value} {l : List α} (hv : Value.okWide Tryd.prog W .any base t v) (h : Rep κ γ sv (slOf z ec l) v) : l.length ≤ 9223372036854775807 := by
  unfold slOf at h
  generalize hn : l.length = n at h
  cases h with
  | sl0 => omega
  | slE => omega
  | sl _ _ _ b off cap u hc =>
    simp only [Value.okWide, Cell.okWide, Cell.ok, ht] at hv
    have h1 := hv.2.1
    have h2 : IntKind.i64.max = 9223372036854775807 := by decide
    rw [h2] at h1
    omega
section
variable {H : Type} {enc : TypeId × Value → H} {W : World}
theorem rd_haul : Rd enc W 84 encDHaul := by
  intro n cs x h
  obtain ⟨xs, m, rfl, rfl, hlen, hxl, hf⟩ := DataW.trod_struct Tryd.underlying84 h
  obtain ⟨y0, h0⟩ := fld hf hxl 0 _ rfl
  obtain ⟨y1, h1⟩ := fld hf hxl 1 _ rfl
  obtain ⟨y2, h2⟩ := fld hf hxl 2 _ rfl
  obtain ⟨a0, e0, _⟩ := DataW.trod_int Tryd.underlying3 h0
  obtain ⟨a1, e1, _⟩ := DataW.trod_int Tryd.underlying3 h1
  obtain ⟨a2, e2, _⟩ := DataW.trod_int Tryd.underlying3 h2
  rw [cells84] at hlen
  rcases cs with _ | ⟨c0, _ | ⟨c1, _ | ⟨c2, _ | ⟨c3, cs⟩⟩⟩⟩ <;> simp at hlen
  simp [cells3] at e0 e1 e2
  subst e0 e1 e2
  exact ⟨⟨a0, a1, a2⟩, .cons _ _ _ _ (.int _ _) (.cons _ _ _ _ (.int _ _) (.cons _ _ _ _ (.int _ _) .nil))⟩
theorem arg_sl {α : Type} [Inhabited α] {t e z : Nat} {ec : α → List D} (ht : Tryd.prog.underlying t = some (.slice e)) (hz : Tryd.prog.cellsOf e = z) (hz0 : 0 < z) (hl : ∀ a, (ec a).length = z)
    (hc : ∀ a, allCell (ec a) = true) (hr : Rd enc W e ec) {v : Value} {d : DataW H} {ps : List MemPlace} {base : Nat} (hv : Value.okWide Tryd.prog W .any base t v) (h : DataW.Trod enc Tryd.prog W 0 (fun _ => true) true t v d ps) :
    ∃ l : List α, Rep (allK W) γ0 sv0 (slOf z ec l) v := by
  obtain ⟨n, hn⟩ := h
  obtain ⟨l, hl⟩ := rd_slice ht hz hz0 hl hc hr _ _ _ hn
  obtain ⟨a0, len, cap, rfl⟩ := okWide_slice ht hv
  cases hl with
  | cons _ _ _ _ k _ => exact ⟨l, k⟩
theorem arg_drivers {v : Value} {d : DataW H} {ps : List MemPlace} {base : Nat} (hv : Value.okWide Tryd.prog W .any base 41 v) (h : DataW.Trod enc Tryd.prog W 0 (fun _ => true) true 41 v d ps) :
    ∃ l : List Driver, Rep (allK W) γ0 sv0 (slOf 3 encDDriver l) v := arg_sl Tryd.underlying41 cells26 (by decide) (fun _ => rfl) (fun _ => rfl) rd_driver hv h
theorem arg_hauls {v : Value} {d : DataW H} {ps : List MemPlace} {base : Nat} (hv : Value.okWide Tryd.prog W .any base 75 v) (h : DataW.Trod enc Tryd.prog W 0 (fun _ => true) true 75 v d ps) :
    ∃ l : List Haul, Rep (allK W) γ0 sv0 (slOf 3 encDHaul l) v := arg_sl Tryd.underlying75 cells84 (by decide) (fun _ => rfl) (fun _ => rfl) rd_haul hv h
end
end Go.Proofs.YthmgcjmoiilggaaDoor
