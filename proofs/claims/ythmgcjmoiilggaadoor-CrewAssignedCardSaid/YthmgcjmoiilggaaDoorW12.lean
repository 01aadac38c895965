/- Walks by computing: what each function of the program that the laws reach gives for what it gets, as plain Lean, and that it is so; without a condition but those that stand in each theorem. -/
import Derived.Test.YthmgcjmoiilggaaDoorCards
import Derived.Test.YthmgcjmoiilggaaDoorTie
import Derived.WalkKit
import Derived.ProofKit
import Derived.OpenShut
import Derived.Deep.Slices
import Derived.Deep.DeepHandedRow
import Derived.Lib.LaidTab
import Derived.Test.YthmgcjmoiilggaaDoorW1
import Derived.Test.YthmgcjmoiilggaaDoorW2
import Derived.Test.YthmgcjmoiilggaaDoorW3
import Derived.Test.YthmgcjmoiilggaaDoorW4
import Derived.Test.YthmgcjmoiilggaaDoorW5
import Derived.Test.YthmgcjmoiilggaaDoorW6
import Derived.Test.YthmgcjmoiilggaaDoorW7
import Derived.Test.YthmgcjmoiilggaaDoorW8
import Derived.Test.YthmgcjmoiilggaaDoorW9
import Derived.Test.YthmgcjmoiilggaaDoorW10
import Derived.Test.YthmgcjmoiilggaaDoorW11
set_option linter.all false
namespace Go.Proofs.Crew
open Go Go.Ab
open Go.Proofs.YthmgcjmoiilggaaDoor (iseat)
set_option linter.all false
set_option maxRecDepth 100000
noncomputable section
def CloneInts' (it : It (List Int)) (s : List Int) : Option (List Int) :=
  opNil s.isEmpty
    (some ([] : List Int))
    (chk (fitA (([] : List Int).length + s.length) 8) <|
    some (([] : List Int) ++ s))
def CloneInts : (List Int) → Option (List Int) := opq (fun s => CloneInts' itN s)
theorem CloneInts_eq (s : List Int) : CloneInts s = CloneInts' itN s := by unfold CloneInts; rw [opq_eq]
def E87 : FEnv iseat := ⟨⟨8, [], [], [], [], [], [], [], [], [], [], [], [], true⟩, []⟩
theorem e87 (it : It (List Int)) (s : List Int) : fnRunO (.sl (.int .i64)) 0 3 (.int .i64) it E87 (bodyOf Tryd.f87) Tryd.f87.results.toList (encA [.sl (.int .i64)] (s, ())) = CloneInts' it s := by kernel_rfl
def sp87 : FnSpecO iseat.toSeat := mkSpecO iseat.toSeat 87 [.sl (.int .i64)] (.sl (.int .i64)) 0 3 (.int .i64) (fun a => CloneInts a.1) (fun a x hx l d hd h => fn_contractO (Z := iseat) (ats := [.sl (.int .i64)]) (E := E87) (fn := Tryd.f87) (c := bodyOf Tryd.f87) Tryd.func87 (by kernel_rfl) (by kernel_rfl) (by kernel_rfl) (by kernel_rfl) rfl ((e87 itN a.1).trans ((CloneInts_eq a.1).symm.trans hx)) hd h)
def tryA_L6 (x5 : List Shift) (x0 : List Haul) (now : List Int) (rec : ((List Haul) × Int × (List Int) × (List Shift) × Unit) → ((List Int) × Int × Unit) → Option ((Int × (List Int) × (List Shift) × Unit) × Unit)) (sum : Int) (x36 : Int) (x3 : List Shift) (sum2 : Int) (x22 : List Int) (kn_ : Int → (List Shift) → Int → (List Int) → Option ((Int × (List Int) × (List Shift) × Unit) × Unit)) : Option ((Int × (List Int) × (List Shift) × Unit) × Unit) :=
  bif (decide (x36 < (x5.length : Int))) then
    chk (decide (0 ≤ x36) && decide (x36 < (x3.length : Int))) <|
    chk (decide (x36.toNat < x3.length)) <|
    bif ((andNotI .i64 ((x0.getD (now.length : Int).toNat dfltHaul).Skills) ((x3.getD x36.toNat dfltShift).Driver.Skills)) != 0) then
      kn_ (w64 (x36 + 1)) x3 sum2 x22
    else
      bif ((((x3.getD x36.toNat dfltShift).Driver.Turns).length : Int) == 20) then
        kn_ (w64 (x36 + 1)) x3 sum2 x22
      else
        (pMay1 (x3.getD x36.toNat dfltShift) ((x0.getD (now.length : Int).toNat dfltHaul).From) ((x0.getD (now.length : Int).toNat dfltHaul).Long)).bind fun r2 =>
        bif (!r2) then
          kn_ (w64 (x36 + 1)) x3 sum2 x22
        else
          (more (x3.getD x36.toNat dfltShift) ((x0.getD (now.length : Int).toNat dfltHaul).From) ((x0.getD (now.length : Int).toNat dfltHaul).Long)).bind fun r3 =>
          chk (decide (0 ≤ x36) && decide (x36 < (x3.length : Int))) <|
          chk (decide (x36.toNat < x3.length)) <|
          (CloneInts now).bind fun r4 =>
          chk (fitA (r4.length + [x36].length) 8) <|
          (rec (x0, sum2, x22, (x3.set x36.toNat r3), ()) ((r4 ++ [x36]), (w64 (sum + 1)), ())).bind fun r5 =>
          chk (decide (0 ≤ x36) && decide (x36 < (r5.1.2.2.1.length : Int))) <|
          chk (decide (x36.toNat < r5.1.2.2.1.length)) <|
          kn_ (w64 (x36 + 1)) (r5.1.2.2.1.set x36.toNat (x3.getD x36.toNat dfltShift)) r5.1.1 r5.1.2.1
  else
    (CloneInts now).bind fun r6 =>
    chk (fitA (r6.length + [(-1)].length) 8) <|
    (rec (x0, sum2, x22, x3, ()) ((r6 ++ [(-1)]), sum, ())).bind fun r7 =>
    some ((r7.1.1, r7.1.2.1, r7.1.2.2.1, ()), ())
def tryA' (rec : ((List Haul) × Int × (List Int) × (List Shift) × Unit) → ((List Int) × Int × Unit) → Option ((Int × (List Int) × (List Shift) × Unit) × Unit)) (it : It ((Int × (List Int) × (List Shift) × Unit) × Unit)) (x0 : List Haul) (x1 : Int) (x2 : List Int) (x5 : List Shift) (now : List Int) (sum : Int) : Option ((Int × (List Int) × (List Shift) × Unit) × Unit) :=
  bif (decide ((w64 ((w64 (sum + (x0.length : Int))) - (now.length : Int))) ≤ x1)) then
    some ((x1, x2, x5, ()), ())
  else
    bif ((now.length : Int) == (x0.length : Int)) then
      (CloneInts now).bind fun r =>
      some ((sum, r, x5, ()), ())
    else
      chk (decide (0 ≤ (now.length : Int)) && decide ((now.length : Int) < (x0.length : Int))) <|
      it _ (fun (v_0 : (Unit × Unit × Unit × Int × Unit) × (((List Shift) × Unit) × (Unit × Unit) × (Int × Unit) × ((List Int) × Unit) × Unit)) kn => tryA_L6 x5 x0 now rec sum v_0.1.2.2.2.1 v_0.2.1.1 v_0.2.2.2.1.1 v_0.2.2.2.2.1.1 (fun y0 y1 y2 y3 => kn (((), (), (), y0, ()), ((y1, ()), ((), ()), (y2, ()), (y3, ()), ())))) (((), (), (), 0, ()), ((x5, ()), ((), ()), (x1, ()), (x2, ()), ()))
def E86 (rec : ((List Haul) × Int × (List Int) × (List Shift) × Unit) → ((List Int) × Int × Unit) → Option ((Int × (List Int) × (List Shift) × Unit) × Unit)) (hrec : ∀ x a y z, rec x a = some (y, z) → ConM iseat.toSeat 86 [.c (.sl .Haul), .w (.int .i64), .w (.sl (.int .i64)), .r 5, .k 86 [(0, 0), (1, 0), (2, 0), (3, 0), (4, 0)], .a 99 .Shift] [.d (.sl (.int .i64)), .d (.int .i64), .p 0, .p 1, .p 2, .p 3, .p 4] [] x a y z) : FEnv iseat := ⟨⟨96, [sp80, sp75], [], [], [sp87], [], [], [(mkSpecM iseat.toSeat 86 [.c (.sl .Haul), .w (.int .i64), .w (.sl (.int .i64)), .r 5, .k 86 [(0, 0), (1, 0), (2, 0), (3, 0), (4, 0)], .a 99 .Shift] [.d (.sl (.int .i64)), .d (.int .i64), .p 0, .p 1, .p 2, .p 3, .p 4] [] [] [3] rec hrec)], [], [], [], [79, 92], (rng 0 [.c (.sl .Haul), .w (.int .i64), .w (.sl (.int .i64)), .r 5, .k 86 [(0, 0), (1, 0), (2, 0), (3, 0), (4, 0)], .a 99 .Shift]), false⟩, [(6, ⟨⟨[(5, .bx 3 0), (6, .bx 4 0), (10, .bx 10 0), (36, .v (.int .i64))], [(3, [.os 900000005 99 .Shift]), (4, [.fnb 86 [(0, 0), (1, 0), (2, 0), (3, 0), (4, 0)]]), (1, [.v (.int .i64)]), (2, [.v (.sl (.int .i64))])]⟩, [0, 1, 35], [10], []⟩)]⟩
theorem e86 (rec : ((List Haul) × Int × (List Int) × (List Shift) × Unit) → ((List Int) × Int × Unit) → Option ((Int × (List Int) × (List Shift) × Unit) × Unit)) (hrec : ∀ x a y z, rec x a = some (y, z) → ConM iseat.toSeat 86 [.c (.sl .Haul), .w (.int .i64), .w (.sl (.int .i64)), .r 5, .k 86 [(0, 0), (1, 0), (2, 0), (3, 0), (4, 0)], .a 99 .Shift] [.d (.sl (.int .i64)), .d (.int .i64), .p 0, .p 1, .p 2, .p 3, .p 4] [] x a y z) (it : It ((Int × (List Int) × (List Shift) × Unit) × Unit)) (x0 : List Haul) (x1 : Int) (x2 : List Int) (x5 : List Shift) (now : List Int) (sum : Int) : fnRunM [.c (.sl .Haul), .w (.int .i64), .w (.sl (.int .i64)), .r 5, .k 86 [(0, 0), (1, 0), (2, 0), (3, 0), (4, 0)], .a 99 .Shift] (ts := []) it (E86 rec hrec ) (bodyOf Tryd.f86) Tryd.f86.results.toList (x0, x1, x2, x5, ()) (encAK [.d (.sl (.int .i64)), .d (.int .i64), .p 0, .p 1, .p 2, .p 3, .p 4] (now, sum, ())) = tryA' rec it x0 x1 x2 x5 now sum := by kernel_rfl
def tryAF : Nat → ((List Haul) × Int × (List Int) × (List Shift) × Unit) → ((List Int) × Int × Unit) → Option ((Int × (List Int) × (List Shift) × Unit) × Unit)
  | 0 => fun _ _ => none
  | n + 1 => fun x a => tryA' (tryAF n) itN x.1 x.2.1 x.2.2.1 x.2.2.2.1 a.1 a.2.1
theorem tryAF_ok : ∀ (n : Nat), ∀ x a y z, tryAF n x a = some (y, z) → ConM iseat.toSeat 86 [.c (.sl .Haul), .w (.int .i64), .w (.sl (.int .i64)), .r 5, .k 86 [(0, 0), (1, 0), (2, 0), (3, 0), (4, 0)], .a 99 .Shift] [.d (.sl (.int .i64)), .d (.int .i64), .p 0, .p 1, .p 2, .p 3, .p 4] [] x a y z
  | 0, x, a, y, z, hx => nomatch hx
  | n + 1, x, a, y, z, hx => fn_contractM (Z := iseat) (bks := [.c (.sl .Haul), .w (.int .i64), .w (.sl (.int .i64)), .r 5, .k 86 [(0, 0), (1, 0), (2, 0), (3, 0), (4, 0)], .a 99 .Shift]) (aks := [.d (.sl (.int .i64)), .d (.int .i64), .p 0, .p 1, .p 2, .p 3, .p 4]) (ts := []) (E := E86 (tryAF n) (tryAF_ok n) ) (fn := Tryd.f86) (c := bodyOf Tryd.f86) Tryd.func86 (by kernel_rfl) (by kernel_rfl) (by kernel_rfl) (by kernel_rfl) rfl rfl (by kernel_rfl) (by kernel_rfl) ((e86 (tryAF n) (tryAF_ok n) itN x.1 x.2.1 x.2.2.1 x.2.2.2.1 a.1 a.2.1).trans (show tryA' (tryAF n) itN x.1 x.2.1 x.2.2.1 x.2.2.2.1 a.1 a.2.1 = _ from hx))
def tryA : ((List Haul) × Int × (List Int) × (List Shift) × Unit) → ((List Int) × Int × Unit) → Option ((Int × (List Int) × (List Shift) × Unit) × Unit) := opq (tryAF FUELR)
theorem tryA_eq : tryA = tryAF FUELR := by unfold tryA; rw [opq_eq]
def sp86 : FnSpecM iseat.toSeat := mkSpecM iseat.toSeat 86 [.c (.sl .Haul), .w (.int .i64), .w (.sl (.int .i64)), .r 5, .k 86 [(0, 0), (1, 0), (2, 0), (3, 0), (4, 0)], .a 99 .Shift] [.d (.sl (.int .i64)), .d (.int .i64), .p 0, .p 1, .p 2, .p 3, .p 4] [] [] [3] tryA (fun x a y z hx => tryAF_ok FUELR x a y z (by rw [← tryA_eq]; exact hx))
def pAssign_L12 (l : List Driver) (u : Rules) (hauls : List Haul) (x36 : Int) (shifts : List Shift) (kn_ : Int → (List Shift) → Option ((List Int) × Int × Int)) : Option ((List Int) × Int × Int) :=
  bif (decide (x36 < (l.length : Int))) then
    chk (decide (0 ≤ x36) && decide (x36 < (l.length : Int))) <|
    chk (decide (0 ≤ x36) && decide (x36 < (shifts.length : Int))) <|
    chk (decide (x36.toNat < shifts.length)) <|
    kn_ (w64 (x36 + 1)) (shifts.set x36.toNat (⟨(l.getD x36.toNat dfltDriver), u⟩ : Shift))
  else
    (tryA (hauls, (-1), [], shifts, ()) ([], 0, ())).bind fun r4 =>
    some (r4.1.2.1, r4.1.1, 0)
def pAssign' (it : It ((List Int) × Int × Int)) (u : Rules) (l : List Driver) (hauls : List Haul) : Option ((List Int) × Int × Int) :=
  (pCheckRules u).bind fun r =>
  bif (r != 0) then
    some ([], 0, r)
  else
    (pCheckDrivers l).bind fun r2 =>
    bif (r2 != 0) then
      some ([], 0, r2)
    else
      (pCheckHauls hauls).bind fun r3 =>
      bif (r3 != 0) then
        some ([], 0, r3)
      else
        chk (fitM (l.length : Int) 80) <|
        it _ (fun (v_0 : (Unit × Unit × Unit × Unit × Unit × Int × Unit) × (((List Shift) × Unit) × Unit)) kn => pAssign_L12 l u hauls v_0.1.2.2.2.2.2.1 v_0.2.1.1 (fun y0 y1 => kn (((), (), (), (), (), y0, ()), ((y1, ()), ())))) (((), (), (), (), (), 0, ()), (((List.replicate (l.length : Int).toNat ((⟨⟨(⟨#[]⟩ : ByteArray), 0, []⟩, ⟨0, 0, 0, 0⟩⟩ : Shift) : Shift)), ()), ()))
def pAssign : Rules → (List Driver) → (List Haul) → Option ((List Int) × Int × Int) := opq (fun u l hauls => pAssign' itN u l hauls)
theorem pAssign_eq (u : Rules) (l : List Driver) (hauls : List Haul) : pAssign u l hauls = pAssign' itN u l hauls := by unfold pAssign; rw [opq_eq]
def E48 : FEnv iseat := ⟨⟨53, [sp23, sp84, sp85], [], [], [], [], [], [sp86], [], [], [], [], [], true⟩, [(12, ⟨⟨[(3, .bx 3 0), (5, .bx 5 0), (6, .bx 6 0), (7, .bx 7 0), (12, .bx 12 0), (36, .v (.int .i64))], [(12, [.os 33 99 .Shift])]⟩, [34, 35], [3, 5, 6, 7], []⟩)]⟩
theorem e48 (it : It ((List Int) × Int × Int)) (u : Rules) (l : List Driver) (hauls : List Haul) : fnRun (ts := [.sl (.int .i64), .int .i64, .int .i64]) it E48 (bodyOf Tryd.f48) Tryd.f48.results.toList (encA [.Rules, .sl .Driver, .sl .Haul] (u, l, hauls, ())) = pAssign' it u l hauls := by kernel_rfl
def sp48 : FnSpec iseat.toSeat := mkSpec iseat.toSeat 48 [.Rules, .sl .Driver, .sl .Haul] [.sl (.int .i64), .int .i64, .int .i64] false (fun a => pAssign a.1 a.2.1 a.2.2.1) (fun a x hx h h' => fn_contract (Z := iseat) (ats := [.Rules, .sl .Driver, .sl .Haul]) (ts := [.sl (.int .i64), .int .i64, .int .i64]) (E := E48) (fn := Tryd.f48) (c := bodyOf Tryd.f48) Tryd.func48 (by kernel_rfl) (by kernel_rfl) (by kernel_rfl) (by kernel_rfl) rfl ((e48 itN a.1 a.2.1 a.2.2.1).trans ((pAssign_eq a.1 a.2.1 a.2.2.1).symm.trans hx)) h h') (fun h => nomatch h)
def Does_L3 (who : List Int) (number : Int) (hauls : List Haul) (d : Driver) (u : Rules) (turns : List Turn) (i : Int) (kn_ : (List Turn) → Int → Option Bool) : Option Bool :=
  bif (decide (i < (who.length : Int))) then
    chk (decide (0 ≤ i) && decide (i < (who.length : Int))) <|
    bif ((who.getD i.toNat 0) != number) then
      kn_ turns (w64 (i + 1))
    else
      chk (decide (0 ≤ i) && decide (i < (hauls.length : Int))) <|
      bif ((andNotI .i64 ((hauls.getD i.toNat dfltHaul).Skills) d.Skills) != 0) then
        some false
      else
        (rClashes turns ((hauls.getD i.toNat dfltHaul).From) ((hauls.getD i.toNat dfltHaul).Long)).bind fun r =>
        bif r then
          some false
        else
          (withT turns ((hauls.getD i.toNat dfltHaul).From) ((hauls.getD i.toNat dfltHaul).Long)).bind fun r2 =>
          kn_ r2 (w64 (i + 1))
  else
    bif (decide ((turns.length : Int) ≤ 20)) then
      (rVerdict u turns).bind fun r3 =>
      some (r3 == 1)
    else
      some false
def Does' (it : It Bool) (u : Rules) (d : Driver) (hauls : List Haul) (who : List Int) (number : Int) : Option Bool :=
  it _ (fun (v_0 : (Unit × Unit × (List Turn) × Int × Unit) × (Unit)) kn => Does_L3 who number hauls d u v_0.1.2.2.1 v_0.1.2.2.2.1 (fun y0 y1 => kn (((), (), y0, y1, ()), (())))) (((), (), d.Turns, 0, ()), (()))
def Does : Rules → Driver → (List Haul) → (List Int) → Int → Option Bool := opq (fun u d hauls who number => Does' itN u d hauls who number)
theorem Does_eq (u : Rules) (d : Driver) (hauls : List Haul) (who : List Int) (number : Int) : Does u d hauls who number = Does' itN u d hauls who number := by unfold Does; rw [opq_eq]
def E52 : FEnv iseat := ⟨⟨61, [sp91, sp92, sp65], [], [], [], [], [], [], [], [], [], [], [], true⟩, [(3, ⟨⟨[(5, .bx 5 0), (6, .bx 6 0), (11, .v (.sl .Turn)), (12, .v (.int .i64))], []⟩, [2, 3, 4], [5, 6], []⟩)]⟩
theorem e52 (it : It Bool) (u : Rules) (d : Driver) (hauls : List Haul) (who : List Int) (number : Int) : fnRun (ts := [.bool]) it E52 (bodyOf Tryd.f52) Tryd.f52.results.toList (encA [.Rules, .Driver, .sl .Haul, .sl (.int .i64), .int .i64] (u, d, hauls, who, number, ())) = Does' it u d hauls who number := by kernel_rfl
def sp52 : FnSpec iseat.toSeat := mkSpec iseat.toSeat 52 [.Rules, .Driver, .sl .Haul, .sl (.int .i64), .int .i64] [.bool] true (fun a => Does a.1 a.2.1 a.2.2.1 a.2.2.2.1 a.2.2.2.2.1) (fun a x hx h h' => fn_contract (Z := iseat) (ats := [.Rules, .Driver, .sl .Haul, .sl (.int .i64), .int .i64]) (ts := [.bool]) (E := E52) (fn := Tryd.f52) (c := bodyOf Tryd.f52) Tryd.func52 (by kernel_rfl) (by kernel_rfl) (by kernel_rfl) (by kernel_rfl) rfl ((e52 itN a.1 a.2.1 a.2.2.1 a.2.2.2.1 a.2.2.2.2.1).trans ((Does_eq a.1 a.2.1 a.2.2.1 a.2.2.2.1 a.2.2.2.2.1).symm.trans hx)) h h') (fun _ x => rfl)
end
end Go.Proofs.Crew
namespace Go.Proofs.Crew
open Go Go.Ab
set_option linter.all false
theorem range_set {α : Type} {f g : Nat → α} {n k : Nat} {x : α} (hx : g k = x) (h : ∀ i, i ≠ k → g i = f i) : ((List.range n).map f).set k x = (List.range n).map g := by
  apply List.ext_getElem (by simp)
  intro i h1 h2
  rw [List.getElem_set]
  split
  · rename_i e; subst e; simp [hx]
  · rename_i e; simp [h i (fun q => e q.symm)]
theorem range_ext {α : Type} {f g : Nat → α} {n : Nat} (h : ∀ i, i < n → f i = g i) : (List.range n).map f = (List.range n).map g :=
  List.map_congr_left fun i hi => h i (List.mem_range.1 hi)
theorem opNil_eq {R : Type} {z : Bool} {a b : Option R} (h : z = true → a = b) : opNil z a b = b := by unfold opNil; rw [if_pos h]
theorem CloneInts_sp {l : List Int} (h : l.length ≤ 1000) : CloneInts l = some l := by
  apply ok_eq
  rw [CloneInts_eq]; unfold CloneInts'
  first
    | exact Ok.chk (fitA_ok (by simp; omega) (by omega)) (Ok.some (by simp))
    | (rw [opNil_eq (fun hz => ?_)]
       · exact Ok.chk (fitA_ok (by simp; omega) (by omega)) (Ok.some (by simp))
       · have : l = [] := by simpa using hz
         subst this; rfl)
theorem getD_app {α : Type} (l : List α) (x d : α) (j : Nat) : (l ++ [x]).getD j d = if j < l.length then l.getD j d else if j = l.length then x else d := by
  simp only [List.getD_eq_getElem?_getD]
  split
  · rename_i h; rw [List.getElem?_append_left h]
  · rename_i h
    rw [List.getElem?_append_right (by omega)]
    split
    · rename_i e; subst e; simp
    · rw [List.getElem?_eq_none (by simp; omega)]; rfl
def hG (hs : List Haul) (k : Nat) : Haul := hs.getD k dfltHaul
def dOf (l : List Driver) (hs : List Haul) (now : List Int) (i : Nat) : Nat → Driver
  | 0 => l.getD i dfltDriver
  | n + 1 => if now.getD n (-1) = (i : Int) then addT (dOf l hs now i n) (hG hs n).From (hG hs n).Long else dOf l hs now i n
structure AOk (u : Rules) (l : List Driver) (hs : List Haul) : Prop where
  u : RulesIn u
  n : l.length ≤ 4
  m : hs.length ≤ 5
  d : ∀ i, i < l.length → DOk (l.getD i dfltDriver)
  h : ∀ k, k < hs.length → 0 ≤ (hG hs k).From ∧ 1 ≤ (hG hs k).Long ∧ (hG hs k).From + (hG hs k).Long ≤ 3000
def Held (l : List Driver) (hs : List Haul) (now : List Int) (i : Nat) : Prop :=
  (∀ k, k < now.length → now.getD k (-1) = (i : Int) → (andNotI .i64 (hG hs k).Skills (l.getD i dfltDriver).Skills != 0) = false ∧ clashB (dOf l hs now i k).Turns (hG hs k).From (hG hs k).Long = false) ∧ (dOf l hs now i now.length).Turns.length ≤ 20
def canDo (u : Rules) (l : List Driver) (hs : List Haul) (now : List Int) (i : Nat) : Bool :=
  !(andNotI .i64 (hG hs now.length).Skills (l.getD i dfltDriver).Skills != 0) && !(decide ((dOf l hs now i now.length).Turns.length = 20)) && mayB u (dOf l hs now i now.length) (hG hs now.length).From (hG hs now.length).Long
section
variable {u : Rules} {l : List Driver} {hs : List Haul} {now : List Int} {i : Nat}
theorem app_lt {x : Int} {k : Nat} (h : k < now.length) : (now ++ [x]).getD k (-1) = now.getD k (-1) := by rw [getD_app, if_pos h]
theorem app_at {x : Int} : (now ++ [x]).getD now.length (-1) = x := by rw [getD_app, if_neg (Nat.lt_irrefl _), if_pos rfl]
theorem dOf_skills : ∀ n, (dOf l hs now i n).Skills = (l.getD i dfltDriver).Skills
  | 0 => rfl
  | n + 1 => by
    simp only [dOf]
    split
    · exact dOf_skills n
    · exact dOf_skills n
theorem dOf_app (x : Int) : ∀ n, n ≤ now.length → dOf l hs (now ++ [x]) i n = dOf l hs now i n
  | 0, _ => rfl
  | n + 1, h => by
    simp only [dOf]
    rw [dOf_app x n (by omega), app_lt (by omega)]
theorem dOf_next (x : Int) : dOf l hs (now ++ [x]) i (now.length + 1) = if x = (i : Int) then addT (dOf l hs now i now.length) (hG hs now.length).From (hG hs now.length).Long else dOf l hs now i now.length := by
  show (if (now ++ [x]).getD now.length (-1) = (i : Int) then _ else _) = _
  rw [dOf_app x _ (Nat.le_refl _), app_at]
theorem dOf_LV (ha : AOk u l hs) (hi : i < l.length) : ∀ n, n ≤ hs.length → LV (dOf l hs now i n).Turns ∧ (dOf l hs now i n).Turns.length ≤ 20 + n
  | 0, _ => by
    have := ha.d i hi
    exact ⟨⟨by have := this.len; show (l.getD i dfltDriver).Turns.length ≤ 1000; omega, this.tv⟩, by have := this.len; exact this⟩
  | n + 1, hn => by
    obtain ⟨h1, h2⟩ := dOf_LV ha hi n (by omega)
    have hm := ha.m
    obtain ⟨a1, a2, a3⟩ := ha.h n (by omega)
    simp only [dOf]
    split
    · refine ⟨⟨by simp only [addT, List.length_append, List.length_cons, List.length_nil]; omega, fun t ht => ?_⟩, by simp only [addT, List.length_append, List.length_cons, List.length_nil]; omega⟩
      simp only [addT, List.mem_append, List.mem_singleton] at ht
      rcases ht with ht | rfl
      · exact h1.2 t ht
      · simp only [newT, TV]; omega
    · exact ⟨h1, by omega⟩
theorem held_app (x : Int) (hd : Held l hs now i) (hx : x = (i : Int) → canDo u l hs now i = true) : Held l hs (now ++ [x]) i := by
  have hlen : (now ++ [x]).length = now.length + 1 := by simp
  constructor
  · intro k hk he
    rw [hlen] at hk
    rw [dOf_app x k (by omega)]
    by_cases e : k < now.length
    · rw [app_lt e] at he; exact hd.1 k e he
    · have : k = now.length := by omega
      subst this
      rw [app_at] at he
      have hc := hx he
      unfold canDo mayB at hc
      simp only [Bool.and_eq_true, Bool.not_eq_true'] at hc
      exact ⟨hc.1.1, hc.2.1⟩
  · rw [hlen, dOf_next]
    split
    · rename_i e
      have hc := hx e
      unfold canDo at hc
      simp only [Bool.and_eq_true, Bool.not_eq_true', decide_eq_false_iff_not] at hc
      have := hd.2
      simp only [addT, List.length_append, List.length_cons, List.length_nil]; omega
    · exact hd.2
theorem Does_ok (ha : AOk u l hs) (hi : i < l.length) (hn : now.length ≤ hs.length) : Ok (fun b => b = true ↔ (∀ k, k < now.length → now.getD k (-1) = (i : Int) → (andNotI .i64 (hG hs k).Skills (l.getD i dfltDriver).Skills != 0) = false ∧ clashB (dOf l hs now i k).Turns (hG hs k).From (hG hs k).Long = false) ∧ (dOf l hs now i now.length).Turns.length ≤ 20 ∧ verdictS u (dOf l hs now i now.length) = 1) (Does u (l.getD i dfltDriver) hs now (i : Int)) := by
  rw [Does_eq]
  have hm := ha.m
  refine Ok.rounds (fun v => ∃ k : Nat, k ≤ now.length ∧ v.1.2.2.2.1 = (k : Int) ∧ v.1.2.2.1 = (dOf l hs now i k).Turns ∧ ∀ j, j < k → now.getD j (-1) = (i : Int) → (andNotI .i64 (hG hs j).Skills (l.getD i dfltDriver).Skills != 0) = false ∧ clashB (dOf l hs now i j).Turns (hG hs j).From (hG hs j).Long = false) (fun v => ((now.length : Int) - v.1.2.2.2.1).toNat) ?_ ?_ ?_
  · show ((now.length : Int) - 0).toNat < 18446744073709551616
    omega
  · exact ⟨0, Nat.zero_le _, rfl, rfl, fun j hj => by omega⟩
  rintro ⟨⟨_, _, ts, x, _⟩, _⟩ kn ⟨k, k1, k2, k3, k4⟩ hk
  simp only at k2 k3 ⊢
  subst k2 k3
  have ek : w64 ((k : Int) + 1) = ((k + 1 : Nat) : Int) := by rw [w64_id (by omega) (by omega)]; push_cast; rfl
  refine Ok.ite (fun hlt => ?_) fun hge => ?_
  · have hlt : k < now.length := by have := of_decide_eq_true hlt; omega
    obtain ⟨a1, a2, a3⟩ := ha.h k (by omega)
    obtain ⟨hlv, _⟩ := dOf_LV (now := now) ha hi k (by omega)
    have e0 : now.getD k 0 = now.getD k (-1) := by
      simp only [List.getD_eq_getElem?_getD, List.getElem?_eq_getElem hlt]; rfl
    simp only [Int.toNat_natCast, e0]
    have eh : hs.getD k dfltHaul = hG hs k := rfl
    rw [eh]
    refine Ok.chk (ib (by omega) (by omega)) (Ok.ite (fun hne => hk _ ⟨k + 1, hlt, ek, ?_, fun j hj he => ?_⟩ ?_) fun heq => Ok.chk (ib (by omega) (by omega)) ?_)
    · have hne : now.getD k (-1) ≠ (i : Int) := by simpa using hne
      simp only [dOf]; rw [if_neg hne]
    · have hne : now.getD k (-1) ≠ (i : Int) := by simpa using hne
      by_cases e : j = k
      · subst e; exact absurd he hne
      · exact k4 j (by omega) he
    · simp only [ek]; omega
    · have heq : now.getD k (-1) = (i : Int) := by simpa using heq
      refine Ok.ite (fun hsk => Ok.some ?_) fun hsk => Ok.beq (rClashes_sp _ hlv.1 (by omega) (by omega)) (Ok.ite (fun hcl => Ok.some ?_) fun hcl => Ok.beq (withT_sp _ hlv.1 (by omega) (by omega)) (hk _ ⟨k + 1, hlt, ek, ?_, fun j hj he => ?_⟩ ?_))
      · refine ⟨fun q => (by cases q), fun q => ?_⟩
        have := (q.1 k hlt heq).1
        rw [this] at hsk; cases hsk
      · refine ⟨fun q => (by cases q), fun q => ?_⟩
        have := (q.1 k hlt heq).2
        rw [this] at hcl; cases hcl
      · simp only [dOf]; rw [if_pos heq]; rfl
      · by_cases e : j = k
        · subst e; exact ⟨hsk, hcl⟩
        · exact k4 j (by omega) he
      · simp only [ek]; omega
  · have hge : k = now.length := by have := of_decide_eq_false hge; omega
    subst hge
    obtain ⟨hlv, _⟩ := dOf_LV (now := now) ha hi now.length hn
    refine Ok.ite (fun hle => Ok.beq (rVerdict_sp (dOf l hs now i now.length) hlv ha.u) (Ok.some ?_)) fun hle => Ok.some ?_
    · have hle := of_decide_eq_true hle
      constructor
      · intro q; exact ⟨k4, by omega, by simpa using q⟩
      · intro q; simpa using q.2.2
    · have hle := of_decide_eq_false hle
      exact ⟨fun q => (by cases q), fun q => by have := q.2.1; omega⟩
theorem Does_can (ha : AOk u l hs) (hi : i < l.length) (hn : now.length < hs.length) (hd : Held l hs now i) : Does u (l.getD i dfltDriver) hs (now ++ [(i : Int)]) (i : Int) = some (canDo u l hs now i) := by
  obtain ⟨b, hb, hbi⟩ := Does_ok (now := now ++ [(i : Int)]) ha hi (by simp; omega)
  rw [hb]
  refine congrArg some (Bool.eq_iff_iff.2 ?_)
  rw [hbi]
  have hlen : (now ++ [(i : Int)]).length = now.length + 1 := by simp
  rw [hlen, dOf_next, if_pos rfl]
  have hd2 := hd.2
  have hal : (addT (dOf l hs now i now.length) (hG hs now.length).From (hG hs now.length).Long).Turns.length = (dOf l hs now i now.length).Turns.length + 1 := by simp [addT]
  have hver : verdictS u (addT (dOf l hs now i now.length) (hG hs now.length).From (hG hs now.length).Long) = 1 ↔ ((firstB u (DL (addT (dOf l hs now i now.length) (hG hs now.length).From (hG hs now.length).Long)) 0 3000).1 == 0) = true := by
    unfold verdictS
    cases ((firstB u (DL (addT (dOf l hs now i now.length) (hG hs now.length).From (hG hs now.length).Long)) 0 3000).1 == 0) with
    | true => simp
    | false =>
      simp only [cond_false]
      cases ((firstB u (DS (addT (dOf l hs now i now.length) (hG hs now.length).From (hG hs now.length).Long)) 0 3000).1 != 0) <;> simp
  rw [hver, hal]
  unfold canDo mayB
  simp only [Bool.and_eq_true, Bool.not_eq_true', decide_eq_false_iff_not]
  constructor
  · rintro ⟨h1, h2, h3⟩
    have := h1 now.length (by omega) app_at
    rw [dOf_app _ _ (Nat.le_refl _)] at this
    exact ⟨⟨this.1, by omega⟩, this.2, h3⟩
  · rintro ⟨⟨h1, h2⟩, h3, h4⟩
    refine ⟨fun k hk he => ?_, by omega, h4⟩
    rw [dOf_app _ k (by omega)]
    by_cases e : k < now.length
    · rw [app_lt e] at he; exact hd.1 k e he
    · have : k = now.length := by omega
      subst this
      exact ⟨h1, h3⟩
end
def goS (u : Rules) (l : List Driver) (hs : List Haul) : Nat → List Int → Int → List Int × Int → List Int × Int
  | 0, now, sum, st => if sum ≤ st.2 then st else (now, sum)
  | r + 1, now, sum, st => if sum + ((r + 1 : Nat) : Int) ≤ st.2 then st else
    goS u l hs r (now ++ [-1]) sum ((List.range l.length).foldl (fun st i => if canDo u l hs now i then goS u l hs r (now ++ [(i : Int)]) (sum + 1) st else st) st)
end Go.Proofs.Crew
namespace Go.Proofs.Crew
open Go Go.Ab
set_option linter.all false
def shiftsOf (u : Rules) (l : List Driver) (hs : List Haul) (now : List Int) : List Shift := (List.range l.length).map fun i => (⟨dOf l hs now i now.length, u⟩ : Shift)
theorem fold_succ {α : Type} (f : α → Nat → α) (a : α) (n : Nat) : (List.range (n + 1)).foldl f a = f ((List.range n).foldl f a) n := by
  rw [List.range_succ, List.foldl_append]; rfl
section
variable {u : Rules} {l : List Driver} {hs : List Haul}
theorem shifts_app {now : List Int} (x : Int) : shiftsOf u l hs (now ++ [x]) = (List.range l.length).map fun (i : Nat) => (⟨if x = (i : Int) then addT (dOf l hs now i now.length) (hG hs now.length).From (hG hs now.length).Long else dOf l hs now i now.length, u⟩ : Shift) := by
  unfold shiftsOf
  refine range_ext fun i _ => ?_
  rw [show (now ++ [x]).length = now.length + 1 by simp, dOf_next]
theorem shifts_no {now : List Int} : shiftsOf u l hs (now ++ [-1]) = shiftsOf u l hs now := by
  rw [shifts_app]
  refine range_ext fun i _ => ?_
  rw [if_neg (by omega)]
theorem shifts_get {now : List Int} {i : Nat} (hi : i < l.length) : (shiftsOf u l hs now).getD i dfltShift = ⟨dOf l hs now i now.length, u⟩ := getD_range _ _ hi
theorem shifts_len {now : List Int} : (shiftsOf u l hs now).length = l.length := len_range _ _
theorem shifts_set {now : List Int} {i : Nat} : (shiftsOf u l hs now).set i ⟨addT (dOf l hs now i now.length) (hG hs now.length).From (hG hs now.length).Long, u⟩ = shiftsOf u l hs (now ++ [(i : Int)]) := by
  rw [shifts_app]
  unfold shiftsOf
  refine range_set (g := fun (j : Nat) => (⟨if (i : Int) = (j : Int) then addT (dOf l hs now j now.length) (hG hs now.length).From (hG hs now.length).Long else dOf l hs now j now.length, u⟩ : Shift)) (by simp only [if_true]) fun j hj => ?_
  rw [if_neg (by omega)]
theorem shifts_back {now : List Int} {i : Nat} : (shiftsOf u l hs (now ++ [(i : Int)])).set i ⟨dOf l hs now i now.length, u⟩ = shiftsOf u l hs now := by
  rw [shifts_app]
  unfold shiftsOf
  refine range_set (g := fun (j : Nat) => (⟨dOf l hs now j now.length, u⟩ : Shift)) rfl fun j hj => ?_
  rw [if_neg (by omega)]
theorem held_in {now : List Int} {k : Nat} (hd : ∀ i, i < l.length → Held l hs now i) (hc : canDo u l hs now k = true) : ∀ i, i < l.length → Held l hs (now ++ [(k : Int)]) i := fun i hi => held_app (u := u) _ (hd i hi) (fun e => (show k = i by omega) ▸ hc)
theorem held_no (u : Rules) {now : List Int} (hd : ∀ i, i < l.length → Held l hs now i) : ∀ i, i < l.length → Held l hs (now ++ [-1]) i := fun i hi => held_app (u := u) _ (hd i hi) (fun e => by omega)
theorem fold_yes {G : List Int × Int → Nat → List Int × Int} {c : Nat → Bool} {F : List Int × Int → Nat → List Int × Int} (hF : ∀ st i, F st i = if c i then G st i else st) {k : Nat} (hc : c k = true) (st : List Int × Int) : (List.range (k + 1)).foldl F st = G ((List.range k).foldl F st) k := by
  rw [fold_succ, hF, if_pos hc]
theorem fold_no {G : List Int × Int → Nat → List Int × Int} {c : Nat → Bool} {F : List Int × Int → Nat → List Int × Int} (hF : ∀ st i, F st i = if c i then G st i else st) {k : Nat} (hc : c k = false) (st : List Int × Int) : (List.range (k + 1)).foldl F st = (List.range k).foldl F st := by
  rw [fold_succ, hF, hc]; rfl
theorem try_sp (ha : AOk u l hs) : ∀ (r f : Nat) (now : List Int) (sum : Int) (st : List Int × Int), r < f → now.length + r = hs.length → 0 ≤ sum → sum ≤ now.length → (∀ i, i < l.length → Held l hs now i) →
    tryAF f (hs, st.2, st.1, shiftsOf u l hs now, ()) (now, sum, ()) = some (((goS u l hs r now sum st).2, (goS u l hs r now sum st).1, shiftsOf u l hs now, ()), ()) := by
  intro r
  induction r with
  | zero =>
    intro f now sum st hf hr s0 s1 hd
    obtain ⟨f, rfl⟩ : ∃ g, f = g + 1 := ⟨f - 1, by omega⟩
    have hm := ha.m
    apply ok_eq
    show Ok _ (tryA' (tryAF f) itN hs st.2 st.1 (shiftsOf u l hs now) now sum)
    have e1 : w64 (sum + (hs.length : Int)) = sum + hs.length := w64_id (by omega) (by omega)
    have e2 : w64 (sum + (hs.length : Int) - (now.length : Int)) = sum := by rw [w64_id (by omega) (by omega)]; omega
    unfold tryA'
    rw [e1, e2]
    refine Ok.ite (fun h => Ok.some ?_) fun h => Ok.yes (by simp; omega) (Ok.beq (CloneInts_sp (by omega)) (Ok.some ?_))
    · have h := of_decide_eq_true h
      simp only [goS]; rw [if_pos h]
    · have h := of_decide_eq_false h
      simp only [goS]; rw [if_neg h]
  | succ r ih =>
    intro f now sum st hf hr s0 s1 hd
    obtain ⟨f, rfl⟩ : ∃ g, f = g + 1 := ⟨f - 1, by omega⟩
    have hm := ha.m
    have hL := ha.n
    apply ok_eq
    show Ok _ (tryA' (tryAF f) itN hs st.2 st.1 (shiftsOf u l hs now) now sum)
    have e1 : w64 (sum + (hs.length : Int)) = sum + hs.length := w64_id (by omega) (by omega)
    have e2 : w64 (sum + (hs.length : Int) - (now.length : Int)) = sum + ((r + 1 : Nat) : Int) := by rw [w64_id (by omega) (by omega)]; omega
    unfold tryA'
    rw [e1, e2]
    refine Ok.ite (fun h => Ok.some ?_) fun h => Ok.no (by simp; omega) (Ok.chk (ib (by omega) (by omega)) ?_)
    · have h := of_decide_eq_true h
      simp only [goS]; rw [if_pos h]
    · have h := of_decide_eq_false h
      obtain ⟨a1, a2, a3⟩ := ha.h now.length (by omega)
      let F : List Int × Int → Nat → List Int × Int := fun st i => if canDo u l hs now i then goS u l hs r (now ++ [(i : Int)]) (sum + 1) st else st
      refine Ok.rounds (fun v => ∃ k : Nat, k ≤ l.length ∧ v.1.2.2.2.1 = (k : Int) ∧ v.2.1.1 = shiftsOf u l hs now ∧ v.2.2.2.1.1 = ((List.range k).foldl F st).2 ∧ v.2.2.2.2.1.1 = ((List.range k).foldl F st).1) (fun v => ((l.length : Int) - v.1.2.2.2.1).toNat) ?_ ?_ ?_
      · show ((l.length : Int) - 0).toNat < 18446744073709551616
        omega
      · exact ⟨0, Nat.zero_le _, rfl, rfl, rfl, rfl⟩
      rintro ⟨⟨_, _, _, x, _⟩, ⟨⟨sh, _⟩, _, ⟨q1, _⟩, ⟨q2, _⟩, _⟩⟩ kn ⟨k, k1, k2, k3, k4, k5⟩ hk
      simp only at k2 k3 k4 k5 ⊢
      subst k2 k3 k4 k5
      have ek : w64 ((k : Int) + 1) = ((k + 1 : Nat) : Int) := by rw [w64_id (by omega) (by omega)]; push_cast; rfl
      refine Ok.ite (fun hlt => ?_) fun hge => ?_
      · have hlt : k < l.length := by have := of_decide_eq_true hlt; rw [shifts_len] at this; omega
        obtain ⟨hlv, hl20⟩ := dOf_LV (now := now) ha hlt now.length (by omega)
        have hh : hs.getD now.length dfltHaul = hG hs now.length := rfl
        simp only [Int.toNat_natCast, shifts_get hlt, hh, dOf_skills]
        have cs1 : (decide (0 ≤ (k : Int)) && decide ((k : Int) < ((shiftsOf u l hs now).length : Int))) = true := by rw [shifts_len]; exact ib (by omega) (by omega)
        have cs2 : decide (k < (shiftsOf u l hs now).length) = true := by rw [shifts_len]; simpa using hlt
        have skip : canDo u l hs now k = false → Ok _ (kn (((), (), (), w64 ((k : Int) + 1), ()), ((shiftsOf u l hs now, ()), ((), ()), (((List.range k).foldl F st).2, ()), (((List.range k).foldl F st).1, ()), ()))) := fun hc => by
          refine hk _ ⟨k + 1, hlt, ek, rfl, ?_, ?_⟩ ?_
          · rw [(fold_no (c := fun i => canDo u l hs now i) (G := fun st i => goS u l hs r (now ++ [(i : Int)]) (sum + 1) st) (F := F) (fun _ _ => rfl) hc st)]
          · rw [(fold_no (c := fun i => canDo u l hs now i) (G := fun st i => goS u l hs r (now ++ [(i : Int)]) (sum + 1) st) (F := F) (fun _ _ => rfl) hc st)]
          · simp only [ek]; omega
        refine Ok.chk cs1 (Ok.chk cs2 (Ok.ite (fun hsk => skip ?_) fun hsk => Ok.ite (fun h20 => skip ?_) fun h20 => Ok.beq (pMay1_sp ⟨dOf l hs now k now.length, u⟩ (by show (dOf l hs now k now.length).Turns.length ≤ 500; omega) ha.u (by omega) (by omega)) (Ok.ite (fun hmay => skip ?_) fun hmay => Ok.beq (more_sp ⟨dOf l hs now k now.length, u⟩ (by show (dOf l hs now k now.length).Turns.length ≤ 1000; omega) (by omega) (by omega)) (Ok.chk cs1 (Ok.chk cs2 (Ok.beq (CloneInts_sp (by omega)) (Ok.chk (fitA_ok (by simp; omega) (by omega)) ?_)))))))
        · unfold canDo; rw [hsk]; rfl
        · have h20 : (dOf l hs now k now.length).Turns.length = 20 := by have := of_decide_eq_true h20; omega
          unfold canDo; rw [h20]; simp
        · simp only [Bool.not_eq_true'] at hmay
          unfold canDo; rw [hmay]; simp
        · have hmay : mayB u (dOf l hs now k now.length) (hG hs now.length).From (hG hs now.length).Long = true := by simpa using hmay
          have hc : canDo u l hs now k = true := by
            unfold canDo
            rw [hsk, hmay]
            have : (dOf l hs now k now.length).Turns.length ≠ 20 := fun e => by rw [e] at h20; exact absurd h20 (by decide)
            simp [this]
          have es : w64 (sum + 1) = sum + 1 := w64_id (by omega) (by omega)
          rw [es]
          show Ok _ ((tryAF f (hs, _, _, (shiftsOf u l hs now).set k ⟨addT (dOf l hs now k now.length) (hG hs now.length).From (hG hs now.length).Long, u⟩, ()) _).bind _)
          rw [shifts_set]
          refine Ok.beq (ih f (now ++ [(k : Int)]) (sum + 1) ((List.range k).foldl F st) (by omega) (by simp; omega) (by omega) (by simp; omega) (held_in hd hc)) ?_
          simp only
          have cs3 : (decide (0 ≤ (k : Int)) && decide ((k : Int) < ((shiftsOf u l hs (now ++ [(k : Int)])).length : Int))) = true := by rw [shifts_len]; exact ib (by omega) (by omega)
          have cs4 : decide (k < (shiftsOf u l hs (now ++ [(k : Int)])).length) = true := by rw [shifts_len]; simpa using hlt
          rw [shifts_back]
          refine Ok.chk cs3 (Ok.chk cs4 (hk _ ⟨k + 1, hlt, ek, rfl, ?_, ?_⟩ ?_))
          · rw [(fold_yes (c := fun i => canDo u l hs now i) (G := fun st i => goS u l hs r (now ++ [(i : Int)]) (sum + 1) st) (F := F) (fun _ _ => rfl) hc st)]
          · rw [(fold_yes (c := fun i => canDo u l hs now i) (G := fun st i => goS u l hs r (now ++ [(i : Int)]) (sum + 1) st) (F := F) (fun _ _ => rfl) hc st)]
          · simp only [ek]; omega
      · have hge : k = l.length := by have := of_decide_eq_false hge; rw [shifts_len] at this; omega
        subst hge
        refine Ok.beq (CloneInts_sp (by omega)) (Ok.chk (fitA_ok (by simp; omega) (by omega)) ?_)
        have key := ih f (now ++ [-1]) sum ((List.range l.length).foldl F st) (by omega) (by simp; omega) s0 (by simp; omega) (held_no u hd)
        rw [shifts_no] at key
        refine Ok.beq key (Ok.some ?_)
        simp only [goS]
        rw [if_neg h]
end
end Go.Proofs.Crew
namespace Go.Proofs.Crew
open Go Go.Ab
set_option linter.all false
def HOk (h : Haul) : Prop := 0 ≤ h.From ∧ h.From ≤ 3000 ∧ 1 ≤ h.Long ∧ h.Long ≤ 3000 ∧ h.From + h.Long ≤ 3000 ∧ 0 ≤ h.Skills ∧ h.Skills ≤ 255
def IsHE (l : List Haul) (e : Int) : Prop := if l.length > 5 then e = 8 else (e = 2 ∧ ∃ i, i < l.length ∧ ¬ HOk (hG l i)) ∨ (e = 0 ∧ ∀ i, i < l.length → HOk (hG l i))
theorem hauls_loop {l : List Haul} (hl : ¬ (l.length : Int) > 5) {F : Int → (Int → Option Int) → Option Int}
    (hF : ∀ (k : Nat) (kn : Int → Option Int) (P : Int → Prop), k < l.length → (¬ HOk (hG l k) → P 2) → (HOk (hG l k) → Ok P (kn (w64 ((k : Int) + 1)))) → Ok P (F (k : Int) kn))
    (hE : ∀ (kn : Int → Option Int), F (l.length : Int) kn = some 0) :
    Ok (IsHE l) (itN _ (fun (v_0 : (Int × Unit) × (Unit)) kn => F v_0.1.1 (fun y0 => kn ((y0, ()), (())))) ((0, ()), (()))) := by
  refine Ok.rounds (fun v => ∃ k : Nat, k ≤ l.length ∧ v.1.1 = (k : Int) ∧ ∀ i, i < k → HOk (hG l i)) (fun v => ((l.length : Int) - v.1.1).toNat) ?_ ?_ ?_
  · show ((l.length : Int) - 0).toNat < 18446744073709551616
    omega
  · exact ⟨0, Nat.zero_le _, rfl, fun i hi => by omega⟩
  rintro ⟨⟨x, _⟩, _⟩ kn ⟨k, k1, rfl, k3⟩ hk
  simp only
  have ek : w64 ((k : Int) + 1) = ((k + 1 : Nat) : Int) := by rw [w64_id (by omega) (by omega)]; push_cast; rfl
  by_cases hlt : k < l.length
  · refine hF k _ _ hlt (fun hb => ?_) fun hg => hk _ ⟨k + 1, hlt, ek, fun i hi => ?_⟩ ?_
    · unfold IsHE; rw [if_neg (by omega)]; exact .inl ⟨rfl, k, hlt, hb⟩
    · by_cases e : i = k
      · rw [e]; exact hg
      · exact k3 i (by omega)
    · simp only [ek]; omega
  · have : k = l.length := by omega
    subst this
    rw [hE]
    refine Ok.some ?_
    unfold IsHE; rw [if_neg (by omega)]; exact .inr ⟨rfl, k3⟩
theorem pCheckHauls_ok (l : List Haul) : Ok (IsHE l) (pCheckHauls l) := by
  rw [pCheckHauls_eq]
  refine Ok.ite (fun h => Ok.some ?_) fun h => hauls_loop (of_decide_eq_false h) (fun k kn P hk hb hg => ?_) fun kn => ?_
  · have := of_decide_eq_true h
    unfold IsHE; rw [if_pos (by omega)]
  · refine Ok.yes (decide_eq_true (by omega)) (Ok.chk (ib (by omega) (by omega)) (Ok.beq (within_in _ _ _) ?_))
    have e : l.getD k dfltHaul = hG l k := rfl
    simp only [Int.toNat_natCast, e]
    refine Ok.ite (fun q => Ok.some (hb fun ⟨a1, a2, _⟩ => ?_)) fun q1 => Ok.beq (within_in _ _ _) (Ok.ite (fun q => Ok.some (hb fun ⟨_, _, a1, a2, _⟩ => ?_)) fun q2 => Ok.ite (fun q => Ok.some (hb fun ⟨_, _, _, _, a1, _⟩ => ?_)) fun q3 => Ok.beq (within_in _ _ _) (Ok.ite (fun q => Ok.some (hb fun ⟨_, _, _, _, _, a1, a2⟩ => ?_)) fun q4 => hg ?_))
    · rw [inB_iff.2 ⟨a1, a2⟩] at q; cases q
    · rw [inB_iff.2 ⟨a1, a2⟩] at q; cases q
    · have h1 := inB_iff.1 (by simpa using q1)
      have h2 := inB_iff.1 (by simpa using q2)
      have := of_decide_eq_true q
      rw [w64_id (by omega) (by omega)] at this; omega
    · rw [inB_iff.2 ⟨a1, a2⟩] at q; cases q
    · have h1 := inB_iff.1 (by simpa using q1)
      have h2 := inB_iff.1 (by simpa using q2)
      have h4 := inB_iff.1 (by simpa using q4)
      have := of_decide_eq_false q3
      rw [w64_id (by omega) (by omega)] at this
      unfold HOk; omega
  · exact bif_f (decide_eq_false (by omega)) _ _
def dG (l : List Driver) (k : Nat) : Driver := l.getD k dfltDriver
def IsDE (l : List Driver) (e : Int) : Prop := if l.length > 4 then e = 8 else (e ≠ 0 ∧ ∃ i, i < l.length ∧ e = checkE (dG l i) ∧ ∀ j, j < i → checkE (dG l j) = 0) ∨ (e = 0 ∧ ∀ i, i < l.length → checkE (dG l i) = 0)
def DFit (l : List Driver) : Prop := ∀ d ∈ l, d.Name.size ≤ 1000 ∧ d.Turns.length ≤ 1000
theorem drivers_loop {l : List Driver} (hl : ¬ (l.length : Int) > 4) {F : Int → (Int → Option Int) → Option Int}
    (hF : ∀ (k : Nat) (kn : Int → Option Int) (P : Int → Prop), k < l.length → (checkE (dG l k) ≠ 0 → P (checkE (dG l k))) → (checkE (dG l k) = 0 → Ok P (kn (w64 ((k : Int) + 1)))) → Ok P (F (k : Int) kn))
    (hE : ∀ (kn : Int → Option Int), F (l.length : Int) kn = some 0) :
    Ok (IsDE l) (itN _ (fun (v_0 : (Int × Unit) × (Unit)) kn => F v_0.1.1 (fun y0 => kn ((y0, ()), (())))) ((0, ()), (()))) := by
  refine Ok.rounds (fun v => ∃ k : Nat, k ≤ l.length ∧ v.1.1 = (k : Int) ∧ ∀ i, i < k → checkE (dG l i) = 0) (fun v => ((l.length : Int) - v.1.1).toNat) ?_ ?_ ?_
  · show ((l.length : Int) - 0).toNat < 18446744073709551616
    omega
  · exact ⟨0, Nat.zero_le _, rfl, fun i hi => by omega⟩
  rintro ⟨⟨x, _⟩, _⟩ kn ⟨k, k1, rfl, k3⟩ hk
  simp only
  have ek : w64 ((k : Int) + 1) = ((k + 1 : Nat) : Int) := by rw [w64_id (by omega) (by omega)]; push_cast; rfl
  by_cases hlt : k < l.length
  · refine hF k _ _ hlt (fun hb => ?_) fun hg => hk _ ⟨k + 1, hlt, ek, fun i hi => ?_⟩ ?_
    · unfold IsDE; rw [if_neg (by omega)]; exact .inl ⟨hb, k, hlt, rfl, k3⟩
    · by_cases e : i = k
      · rw [e]; exact hg
      · exact k3 i (by omega)
    · simp only [ek]; omega
  · have : k = l.length := by omega
    subst this
    rw [hE]
    refine Ok.some ?_
    unfold IsDE; rw [if_neg (by omega)]; exact .inr ⟨rfl, k3⟩
theorem pCheckDrivers_ok {l : List Driver} (hf : DFit l) : Ok (IsDE l) (pCheckDrivers l) := by
  rw [pCheckDrivers_eq]
  refine Ok.ite (fun h => Ok.some ?_) fun h => drivers_loop (of_decide_eq_false h) (fun k kn P hk hb hg => ?_) fun kn => ?_
  · have := of_decide_eq_true h
    unfold IsDE; rw [if_pos (by omega)]
  · have hm := hf _ (getD_mem (d := dfltDriver) hk)
    refine Ok.yes (decide_eq_true (by omega)) (Ok.chk (ib (by omega) (by omega)) (Ok.beq (pCheck_any _ hm.1 hm.2) ?_))
    exact Ok.ite (fun q => Ok.some (hb (bne_iff_ne.1 q))) fun q => hg (bne_eq_false_iff_eq.1 q)
  · exact bif_f (decide_eq_false (by omega)) _ _
end Go.Proofs.Crew
namespace Go.Proofs.Crew
open Go Go.Ab
open Go.Proofs.YthmgcjmoiilggaaDoor (iseat)
set_option linter.all false
set_option maxRecDepth 100000
noncomputable section
end
end Go.Proofs.Crew
namespace Go.Proofs.Crew
open Go Go.Ab
set_option linter.all false
end Go.Proofs.Crew
namespace Go.Proofs.Crew
open Go Go.Ab
set_option linter.all false
def IsAs (u : Rules) (l : List Driver) (hs : List Haul) (r : List Int × Int × Int) : Prop :=
  if (bif rulesB u then (0 : Int) else 2) ≠ 0 then r = ([], 0, bif rulesB u then (0 : Int) else 2) else
    ∃ e2, IsDE l e2 ∧ if e2 ≠ 0 then r = ([], 0, e2) else ∃ e3, IsHE hs e3 ∧ if e3 ≠ 0 then r = ([], 0, e3) else
      AOk u l hs ∧ r = ((goS u l hs hs.length [] 0 ([], -1)).1, (goS u l hs hs.length [] 0 ([], -1)).2, 0)
theorem held_nil {l : List Driver} {hs : List Haul} (hd : ∀ i, i < l.length → DOk (l.getD i dfltDriver)) : ∀ i, i < l.length → Held l hs [] i := fun i hi => ⟨fun k hk _ => absurd hk (Nat.not_lt_zero _), (hd i hi).len⟩
section
variable {u : Rules} {l : List Driver} {hs : List Haul}
theorem aok_of (hf : DFit l) (h1 : ¬ (bif rulesB u then (0 : Int) else 2) ≠ 0) (h2 : IsDE l 0) (h3 : IsHE hs 0) : AOk u l hs := by
  have hu : rulesB u = true := by
    cases h : rulesB u with
    | true => rfl
    | false => rw [h] at h1; exact absurd (by decide) h1
  unfold IsDE at h2
  unfold IsHE at h3
  split at h2
  · cases h2
  split at h3
  · cases h3
  have h2 := h2.resolve_left fun q => q.1 rfl
  have h3 := h3.resolve_left fun q => by cases q.1
  refine ⟨rulesB_in hu, by omega, by omega, fun i hi => checkE_ok (hf _ (getD_mem hi)).1 (h2.2 i hi), fun k hk => ?_⟩
  have := h3.2 k hk
  unfold HOk at this
  omega
theorem pAssign_ok (hf : DFit l) : Ok (IsAs u l hs) (pAssign u l hs) := by
  rw [pAssign_eq]
  refine Ok.beq (pCheckRules_any u) (Ok.ite (fun h => Ok.some ?_) fun h => Ok.bind (pCheckDrivers_ok hf) fun e2 d2 => Ok.ite (fun h2 => Ok.some ?_) fun h2 => Ok.bind (pCheckHauls_ok hs) fun e3 d3 => Ok.ite (fun h3 => Ok.some ?_) fun h3 => ?_)
  · unfold IsAs; rw [if_pos (bne_iff_ne.1 h)]
  · unfold IsAs; rw [if_neg (fun q => q (bne_eq_false_iff_eq.1 h))]
    exact ⟨e2, d2, by rw [if_pos (bne_iff_ne.1 h2)]⟩
  · unfold IsAs; rw [if_neg (fun q => q (bne_eq_false_iff_eq.1 h))]
    exact ⟨e2, d2, by rw [if_neg (fun q => q (bne_eq_false_iff_eq.1 h2))]; exact ⟨e3, d3, by rw [if_pos (bne_iff_ne.1 h3)]⟩⟩
  · have z2 := bne_eq_false_iff_eq.1 h2
    have z3 := bne_eq_false_iff_eq.1 h3
    subst z2 z3
    have h1 : ¬ (bif rulesB u then (0 : Int) else 2) ≠ 0 := fun q => q (bne_eq_false_iff_eq.1 h)
    have ha := aok_of hf h1 d2 d3
    have hn := ha.n
    have hm := ha.m
    refine Ok.chk (by simp [fitM]; omega) ?_
    refine Ok.rounds (fun v => ∃ k : Nat, k ≤ l.length ∧ v.1.2.2.2.2.2.1 = (k : Int) ∧ v.2.1.1 = (List.range l.length).map fun i => if i < k then (⟨l.getD i dfltDriver, u⟩ : Shift) else (⟨⟨(⟨#[]⟩ : ByteArray), 0, []⟩, ⟨0, 0, 0, 0⟩⟩ : Shift)) (fun v => ((l.length : Int) - v.1.2.2.2.2.2.1).toNat) ?_ ?_ ?_
    · show ((l.length : Int) - 0).toNat < 18446744073709551616
      omega
    · refine ⟨0, Nat.zero_le _, rfl, ?_⟩
      show List.replicate l.length _ = _
      rw [eq_range (l := List.replicate l.length (⟨⟨(⟨#[]⟩ : ByteArray), 0, []⟩, ⟨0, 0, 0, 0⟩⟩ : Shift)) (⟨⟨(⟨#[]⟩ : ByteArray), 0, []⟩, ⟨0, 0, 0, 0⟩⟩ : Shift), List.length_replicate]
      refine range_ext fun i hi => ?_
      rw [if_neg (by omega), List.getD_eq_getElem?_getD, List.getElem?_replicate, if_pos hi]; rfl
    rintro ⟨⟨_, _, _, _, _, x, _⟩, ⟨⟨sh, _⟩, _⟩⟩ kn ⟨k, k1, k2, k3⟩ hk
    simp only at k2 k3 ⊢
    subst k2 k3
    have ek : w64 ((k : Int) + 1) = ((k + 1 : Nat) : Int) := by rw [w64_id (by omega) (by omega)]; push_cast; rfl
    refine Ok.ite (fun hlt => ?_) fun hge => ?_
    · have hlt : k < l.length := by have := of_decide_eq_true hlt; omega
      refine Ok.chk (ib (by omega) (by omega)) (Ok.chk ?_ (Ok.chk ?_ (hk _ ⟨k + 1, hlt, ek, ?_⟩ ?_)))
      · rw [len_range]; exact ib (by omega) (by omega)
      · simp only [Int.toNat_natCast, len_range]; simpa using hlt
      · simp only [Int.toNat_natCast]
        refine range_set (by rw [if_pos (by omega)]) fun i hi => ?_
        by_cases e : i < k
        · rw [if_pos e, if_pos (by omega)]
        · rw [if_neg e, if_neg (by omega)]
      · simp only [ek]; omega
    · have hge : k = l.length := by have := of_decide_eq_false hge; omega
      subst hge
      have es : ((List.range l.length).map fun i => if i < l.length then (⟨l.getD i dfltDriver, u⟩ : Shift) else (⟨⟨(⟨#[]⟩ : ByteArray), 0, []⟩, ⟨0, 0, 0, 0⟩⟩ : Shift)) = shiftsOf u l hs [] := by
        unfold shiftsOf
        refine range_ext fun i hi => ?_
        rw [if_pos hi]; rfl
      rw [es]
      have key := try_sp ha hs.length FUELR [] 0 ([], -1) (by show hs.length < 64; omega) (by simp) (Int.le_refl _) (by simp) (held_nil ha.d)
      rw [← tryA_eq] at key
      refine Ok.beq key (Ok.some ?_)
      unfold IsAs; rw [if_neg h1]
      exact ⟨0, d2, by rw [if_neg (fun q => q rfl)]; exact ⟨0, d3, by rw [if_neg (fun q => q rfl)]; exact ⟨ha, rfl⟩⟩⟩
end
theorem HaulsOf_ok (s : Seed) {most : Int} (h0 : 0 ≤ most) (h1 : most ≤ 100) : Ok (fun r => (r.2.length : Int) ≤ most ∧ ∀ h ∈ r.2, HOk h) (HaulsOf s most) := by
  rw [HaulsOf_eq]
  have e0 : w64 (most + 1) = most + 1 := w64_id (by omega) (by omega)
  refine Ok.bind (Below_ok s (by rw [e0]; omega)) fun r hr => ?_
  rw [e0] at hr
  refine Ok.rounds (fun v => 0 ≤ v.1.2.2.1 ∧ (v.1.2.1.length : Int) + v.1.2.2.1 ≤ most ∧ ∀ h ∈ v.1.2.1, HOk h) (fun v => v.1.2.2.1.toNat) ?_ ?_ ?_
  · show r.2.toNat < 18446744073709551616
    omega
  · exact ⟨hr.1, by show ((0 : Nat) : Int) + r.2 ≤ most; omega, fun d hd => by cases hd⟩
  rintro ⟨⟨_, out, i, _⟩, ⟨⟨w, _⟩, _⟩⟩ kn ⟨i0, i1, i2⟩ hk
  simp only at i0 i1 i2 ⊢
  refine Ok.ite (fun hlt => ?_) fun _ => Ok.some ⟨by simp only; omega, i2⟩
  have hlt := of_decide_eq_true hlt
  have e : w64 (i - 1) = i - 1 := w64_id (by omega) (by omega)
  refine Ok.bind (Below_ok _ (by omega)) fun r2 q2 => Ok.bind (From_ok _ (by omega) (by omega) (by omega) (by omega)) fun r3 q3 => Ok.bind (Below_ok _ (by omega)) fun r4 q4 => Ok.bind (Of_ok _ (by simp) (by simp)) fun r5 q5 => Ok.chk (fitA_ok (by simp; omega) (by omega)) (hk _ ?_ ?_)
  · simp only [e, List.length_append, List.length_singleton]
    refine ⟨by omega, by push_cast; omega, fun d hd => ?_⟩
    rcases List.mem_append.1 hd with hd | hd
    · exact i2 d hd
    · simp only [List.mem_singleton] at hd; subst hd
      simp only [List.mem_cons, List.not_mem_nil, or_false] at q5
      unfold HOk
      simp only
      omega
  · simp only [e]; omega
end Go.Proofs.Crew
namespace Go.Proofs.Crew
open Go Go.Ab
set_option linter.all false
def cntP (l : List Int) : Int := ((l.filter fun x => decide (0 ≤ x)).length : Int)
theorem cntP_app (l : List Int) (x : Int) : cntP (l ++ [x]) = cntP l + if 0 ≤ x then 1 else 0 := by
  unfold cntP
  rw [List.filter_append, List.length_append]
  by_cases h : 0 ≤ x
  · simp [h]
  · simp [h]
theorem cntP_nn (l : List Int) : 0 ≤ cntP l := by unfold cntP; omega
inductive Ext (u : Rules) (l : List Driver) (hs : List Haul) : List Int → List Int → Prop
  | refl (now : List Int) : Ext u l hs now now
  | no {now w : List Int} : Ext u l hs (now ++ [-1]) w → Ext u l hs now w
  | yes {now w : List Int} (i : Nat) : i < l.length → canDo u l hs now i = true → Ext u l hs (now ++ [(i : Int)]) w → Ext u l hs now w
section
variable {u : Rules} {l : List Driver} {hs : List Haul}
theorem Ext.trans {a b c : List Int} (h : Ext u l hs a b) (h2 : Ext u l hs b c) : Ext u l hs a c := by
  induction h with
  | refl => exact h2
  | no _ ih => exact .no (ih h2)
  | yes i hi hc _ ih => exact .yes i hi hc (ih h2)
theorem Ext.len {a b : List Int} (h : Ext u l hs a b) : a.length ≤ b.length ∧ cntP a ≤ cntP b ∧ cntP b ≤ cntP a + ((b.length - a.length : Nat) : Int) := by
  induction h with
  | refl => exact ⟨Nat.le_refl _, Int.le_refl _, by omega⟩
  | no _ ih =>
    simp only [List.length_append, List.length_singleton, cntP_app] at ih
    rw [if_neg (by omega)] at ih
    omega
  | yes i hi hc _ ih =>
    simp only [List.length_append, List.length_singleton, cntP_app] at ih
    rw [if_pos (by omega)] at ih
    omega
theorem goS_best : ∀ (r : Nat) (now : List Int) (sum : Int) (st : List Int × Int), now.length + r = hs.length → sum = cntP now →
    st.2 ≤ (goS u l hs r now sum st).2 ∧ (∀ w, Ext u l hs now w → w.length = hs.length → cntP w ≤ (goS u l hs r now sum st).2) ∧ (goS u l hs r now sum st = st ∨ Ext u l hs now (goS u l hs r now sum st).1 ∧ (goS u l hs r now sum st).1.length = hs.length ∧ (goS u l hs r now sum st).2 = cntP (goS u l hs r now sum st).1)
  | 0, now, sum, st, h1, h2 => by
    simp only [goS]
    have hw : ∀ w, Ext u l hs now w → w.length = hs.length → cntP w = sum := fun w h hl => by
      have := h.len
      have e : w.length - now.length = 0 := by omega
      rw [e] at this; omega
    split
    · rename_i h
      exact ⟨Int.le_refl _, fun w hx hl => by rw [hw w hx hl]; exact h, .inl rfl⟩
    · rename_i h
      exact ⟨by simp only; omega, fun w hx hl => by rw [hw w hx hl]; exact Int.le_refl _, .inr ⟨.refl _, by simp only; omega, h2⟩⟩
  | r + 1, now, sum, st, h1, h2 => by
    simp only [goS]
    split
    · rename_i h
      refine ⟨Int.le_refl _, fun w hx hl => ?_, .inl rfl⟩
      have := hx.len
      omega
    · rename_i hsum
      have hfold : ∀ n, st.2 ≤ ((List.range n).foldl (fun st i => if canDo u l hs now i then goS u l hs r (now ++ [(i : Int)]) (sum + 1) st else st) st).2 ∧
          (n ≤ l.length → (∀ i, i < n → canDo u l hs now i = true → ∀ w, Ext u l hs (now ++ [(i : Int)]) w → w.length = hs.length → cntP w ≤ ((List.range n).foldl (fun st i => if canDo u l hs now i then goS u l hs r (now ++ [(i : Int)]) (sum + 1) st else st) st).2) ∧
          (((List.range n).foldl (fun st i => if canDo u l hs now i then goS u l hs r (now ++ [(i : Int)]) (sum + 1) st else st) st) = st ∨ Ext u l hs now ((List.range n).foldl (fun st i => if canDo u l hs now i then goS u l hs r (now ++ [(i : Int)]) (sum + 1) st else st) st).1 ∧ ((List.range n).foldl (fun st i => if canDo u l hs now i then goS u l hs r (now ++ [(i : Int)]) (sum + 1) st else st) st).1.length = hs.length ∧ ((List.range n).foldl (fun st i => if canDo u l hs now i then goS u l hs r (now ++ [(i : Int)]) (sum + 1) st else st) st).2 = cntP ((List.range n).foldl (fun st i => if canDo u l hs now i then goS u l hs r (now ++ [(i : Int)]) (sum + 1) st else st) st).1)) := fun n => by
        induction n with
        | zero => exact ⟨Int.le_refl _, fun _ => ⟨fun i hi => by omega, .inl rfl⟩⟩
        | succ n ih =>
          rw [fold_succ]
          generalize (List.range n).foldl (fun st i => if canDo u l hs now i then goS u l hs r (now ++ [(i : Int)]) (sum + 1) st else st) st = a at ih ⊢
          cases hc : canDo u l hs now n with
          | false =>
            rw [if_neg (by decide)]
            refine ⟨ih.1, fun hn => ⟨fun i hi hci w hx hl => ?_, (ih.2 (by omega)).2⟩⟩
            by_cases e : i = n
            · subst e; rw [hc] at hci; cases hci
            · exact (ih.2 (by omega)).1 i (by omega) hci w hx hl
          | true =>
            rw [if_pos rfl]
            obtain ⟨g1, g2, g3⟩ := goS_best r (now ++ [(n : Int)]) (sum + 1) a (by simp; omega) (by rw [cntP_app, if_pos (by omega), h2])
            refine ⟨by have := ih.1; omega, fun hn => ⟨fun i hi hci w hx hl => ?_, ?_⟩⟩
            · by_cases e : i = n
              · subst e; exact g2 w hx hl
              · have := (ih.2 (by omega)).1 i (by omega) hci w hx hl; omega
            · rcases g3 with e | ⟨e1, e2, e3⟩
              · rw [e]; exact (ih.2 (by omega)).2
              · exact .inr ⟨.yes n (by omega) hc e1, e2, e3⟩
      obtain ⟨f1, f2⟩ := hfold l.length
      obtain ⟨f2, f3⟩ := f2 (Nat.le_refl _)
      generalize (List.range l.length).foldl (fun st i => if canDo u l hs now i then goS u l hs r (now ++ [(i : Int)]) (sum + 1) st else st) st = a at f1 f2 f3 ⊢
      obtain ⟨g1, g2, g3⟩ := goS_best r (now ++ [-1]) sum a (by simp; omega) (by rw [cntP_app, if_neg (by omega), h2]; omega)
      refine ⟨by omega, fun w hx hl => ?_, ?_⟩
      · cases hx with
        | refl => omega
        | no hx => exact g2 w hx hl
        | yes i hi hc hx => have := f2 i hi hc w hx hl; omega
      · rcases g3 with e | ⟨e1, e2, e3⟩
        · rw [e]; exact f3
        · exact .inr ⟨.no e1, e2, e3⟩
theorem ext_held {a b : List Int} (h : Ext u l hs a b) (ha : ∀ i, i < l.length → Held l hs a i) : ∀ i, i < l.length → Held l hs b i := by
  induction h with
  | refl => exact ha
  | no _ ih => exact ih (held_no u ha)
  | yes i hi hc _ ih => exact ih (held_in ha hc)
theorem ext_range {a b : List Int} (h : Ext u l hs a b) (ha : ∀ x ∈ a, -1 ≤ x ∧ x < l.length) : ∀ x ∈ b, -1 ≤ x ∧ x < l.length := by
  induction h with
  | refl => exact ha
  | no _ ih =>
    refine ih fun x hx => ?_
    rcases List.mem_append.1 hx with hx | hx
    · exact ha x hx
    · simp only [List.mem_singleton] at hx; omega
  | yes i hi hc _ ih =>
    refine ih fun x hx => ?_
    rcases List.mem_append.1 hx with hx | hx
    · exact ha x hx
    · simp only [List.mem_singleton] at hx; omega
theorem ext_sure {a b : List Int} (h : Ext u l hs a b) {i : Nat} (ha : (i : Int) ∈ a → verdictS u (dOf l hs a i a.length) = 1) : (i : Int) ∈ b → verdictS u (dOf l hs b i b.length) = 1 := by
  induction h with
  | refl => exact ha
  | @no now w _ ih =>
    refine ih fun hm => ?_
    rw [show (now ++ [(-1 : Int)]).length = now.length + 1 by simp, dOf_next, if_neg (by omega)]
    rcases List.mem_append.1 hm with hm | hm
    · exact ha hm
    · simp only [List.mem_singleton] at hm; omega
  | @yes now w j hj hc _ ih =>
    refine ih fun hm => ?_
    rw [show (now ++ [(j : Int)]).length = now.length + 1 by simp, dOf_next]
    by_cases e : j = i
    · subst e
      rw [if_pos rfl]
      unfold canDo mayB at hc
      simp only [Bool.and_eq_true] at hc
      unfold verdictS
      rw [hc.2.2]; rfl
    · rw [if_neg (by omega)]
      rcases List.mem_append.1 hm with hm | hm
      · exact ha hm
      · simp only [List.mem_singleton] at hm; omega
theorem dOf_more (d : Driver) {now : List Int} {i : Nat} (hi : i < l.length) : ∀ n, dOf (l ++ [d]) hs now i n = dOf l hs now i n
  | 0 => by show (l ++ [d]).getD i dfltDriver = _; rw [getD_app, if_pos hi]; rfl
  | n + 1 => by simp only [dOf]; rw [dOf_more d hi n]
theorem canDo_more (d : Driver) {now : List Int} {i : Nat} (hi : i < l.length) : canDo u (l ++ [d]) hs now i = canDo u l hs now i := by
  unfold canDo
  rw [dOf_more d hi, getD_app, if_pos hi]
theorem ext_more (d : Driver) {a b : List Int} (h : Ext u l hs a b) : Ext u (l ++ [d]) hs a b := by
  induction h with
  | refl => exact .refl _
  | no _ ih => exact .no ih
  | yes i hi hc _ ih => exact .yes i (by simp; omega) ((canDo_more d hi).trans hc) ih
theorem ext_none : ∀ (r : Nat) (now : List Int), ∃ w, Ext u l hs now w ∧ w.length = now.length + r
  | 0, now => ⟨now, .refl _, rfl⟩
  | r + 1, now => by
    obtain ⟨w, h1, h2⟩ := ext_none r (now ++ [-1])
    exact ⟨w, .no h1, by rw [h2]; simp; omega⟩
theorem found (u : Rules) (l : List Driver) (hs : List Haul) : Ext u l hs [] (goS u l hs hs.length [] 0 ([], -1)).1 ∧ (goS u l hs hs.length [] 0 ([], -1)).1.length = hs.length ∧ (goS u l hs hs.length [] 0 ([], -1)).2 = cntP (goS u l hs hs.length [] 0 ([], -1)).1 := by
  obtain ⟨g1, g2, g3⟩ := goS_best (u := u) (l := l) (hs := hs) hs.length [] 0 ([], -1) (by simp) rfl
  rcases g3 with e | e
  · obtain ⟨w, h1, h2⟩ := ext_none (u := u) (l := l) (hs := hs) hs.length []
    have := g2 w h1 (by rw [h2]; simp)
    have hn := cntP_nn w
    rw [e] at this
    simp only at this
    omega
  · exact e
end
end Go.Proofs.Crew
namespace Go.Proofs.Crew
open Go Go.Ab
open Go.Proofs.YthmgcjmoiilggaaDoor (iseat)
set_option linter.all false
set_option maxRecDepth 100000
noncomputable section
end
end Go.Proofs.Crew
namespace Go.Proofs.Crew
open Go Go.Ab
open Go.Proofs.YthmgcjmoiilggaaDoor (iseat)
set_option linter.all false
set_option maxRecDepth 100000
noncomputable section
def CrewAssigned_L26 (r4 : (Seed × List Haul)) (r3 : (Seed × List Driver)) (r2 : (Seed × Rules)) (r5 : ((List Int) × Int × Int)) (kn_3 : Int → Int → Option Bool) (round : Int) (some_ : List Int) (many : Int) (i3 : Int) (x23_word2 : Int) (kn_4 : (List Int) → Int → Int → Int → Option Bool) : Option Bool :=
  bif (decide (i3 < (r4.2.length : Int))) then
    (Below (⟨x23_word2⟩ : Seed) (r3.2.length : Int)).bind fun r10 =>
    chk (fitA (([] : List Int).length + some_.length) 8) <|
    chk (fitA ((([] : List Int) ++ some_).length + [r10.2].length) 8) <|
    chk (decide (0 ≤ r10.2) && decide (r10.2 < (r3.2.length : Int))) <|
    (Does r2.2 (r3.2.getD r10.2.toNat dfltDriver) r4.2 ((([] : List Int) ++ some_) ++ [r10.2]) r10.2).bind fun r11 =>
    bif r11 then
      kn_4 ((([] : List Int) ++ some_) ++ [r10.2]) (w64 (many + 1)) (w64 (i3 + 1)) r10.1.word
    else
      chk (fitA (some_.length + [(-1)].length) 8) <|
      kn_4 (some_ ++ [(-1)]) many (w64 (i3 + 1)) r10.1.word
  else
    bif (decide (many > r5.2.1)) then
      some false
    else
      kn_3 (w64 (round + 1)) x23_word2
def CrewAssigned_L21 (it : It Bool) (r3 : (Seed × List Driver)) (r4 : (Seed × List Haul)) (r2 : (Seed × Rules)) (r5 : ((List Int) × Int × Int)) (done : Int) (round : Int) (x23_word : Int) (kn_3 : Int → Int → Option Bool) : Option Bool :=
  bif (decide (round < 8)) then
    bif (decide ((r3.2.length : Int) > 0)) then
      it _ (fun (v_0 : (Unit × Unit × (List Int) × Int × Int × Unit) × ((Int × Unit) × Unit)) kn => CrewAssigned_L26 r4 r3 r2 r5 kn_3 round v_0.1.2.2.1 v_0.1.2.2.2.1 v_0.1.2.2.2.2.1 v_0.2.1.1 (fun y0 y1 y2 y3 => kn (((), (), y0, y1, y2, ()), ((y3, ()), ())))) (((), (), ([] : List Int), 0, 0, ()), ((x23_word, ()), ()))
    else
      bif (done == r5.2.1) then
        (awake).bind fun r12 =>
        some r12
      else
        some false
  else
    bif (done == r5.2.1) then
      (awake).bind fun r13 =>
      some r13
    else
      some false
def CrewAssigned_L16 (it : It Bool) (r3 : (Seed × List Driver)) (r5 : ((List Int) × Int × Int)) (r2 : (Seed × Rules)) (r4 : (Seed × List Haul)) (done : Int) (r6 : (Seed × Driver)) (i2 : Int) (kn_2 : Int → Option Bool) : Option Bool :=
  bif (decide (i2 < (r3.2.length : Int))) then
    (Listed r5.1 i2).bind fun r8 =>
    bif r8 then
      chk (decide (0 ≤ i2) && decide (i2 < (r3.2.length : Int))) <|
      (Does r2.2 (r3.2.getD i2.toNat dfltDriver) r4.2 r5.1 i2).bind fun r9 =>
      bif (!r9) then
        some false
      else
        kn_2 (w64 (i2 + 1))
    else
      kn_2 (w64 (i2 + 1))
  else
    it _ (fun (v_0 : (Unit × Unit × Int × Unit) × ((Int × Unit) × Unit)) kn => CrewAssigned_L21 it r3 r4 r2 r5 done v_0.1.2.2.1 v_0.2.1.1 (fun y0 y1 => kn (((), (), y0, ()), ((y1, ()), ())))) (((), (), 0, ()), ((r6.1.word, ()), ()))
def CrewAssigned_L9 (it : It Bool) (r5 : ((List Int) × Int × Int)) (r3 : (Seed × List Driver)) (r2 : (Seed × Rules)) (r4 : (Seed × List Haul)) (r6 : (Seed × Driver)) (done : Int) (i : Int) (kn_ : Int → Int → Option Bool) : Option Bool :=
  bif (decide (i < (r5.1.length : Int))) then
    chk (decide (0 ≤ i) && decide (i < (r5.1.length : Int))) <|
    bif (decide ((r5.1.getD i.toNat 0) < (-1))) then
      some false
    else
      chk (decide (0 ≤ i) && decide (i < (r5.1.length : Int))) <|
      bif (decide ((r5.1.getD i.toNat 0) ≥ (r3.2.length : Int))) then
        some false
      else
        chk (decide (0 ≤ i) && decide (i < (r5.1.length : Int))) <|
        bif (decide ((r5.1.getD i.toNat 0) ≥ 0)) then
          kn_ (w64 (done + 1)) (w64 (i + 1))
        else
          kn_ done (w64 (i + 1))
  else
    it _ (fun (v_0 : (Unit × Unit × Int × Unit) × (Unit)) kn => CrewAssigned_L16 it r3 r5 r2 r4 done r6 v_0.1.2.2.1 (fun y0 => kn (((), (), y0, ()), (())))) (((), (), 0, ()), (()))
def CrewAssigned' (it : It Bool) (nums : List Int) : Option Bool :=
  (NewSeed nums).bind fun r =>
  (RulesOf r).bind fun r2 =>
  (CrewOf r2.1 3 3).bind fun r3 =>
  (HaulsOf r3.1 4).bind fun r4 =>
  (pAssign r2.2 r3.2 r4.2).bind fun r5 =>
  chk (fitA (([] : List Driver).length + r3.2.length) 48) <|
  (DriverOf r4.1 (⟨#[101, 118, 101]⟩ : ByteArray) 2).bind fun r6 =>
  chk (fitA ((([] : List Driver) ++ r3.2).length + ([r6.2] : List Driver).length) 48) <|
  (pAssign r2.2 ((([] : List Driver) ++ r3.2) ++ ([r6.2] : List Driver)) r4.2).bind fun r7 =>
  bif (r5.2.2 != 0) then
    some false
  else
    bif (r7.2.2 != 0) then
      some false
    else
      bif ((r5.1.length : Int) != (r4.2.length : Int)) then
        some false
      else
        bif (decide (r7.2.1 < r5.2.1)) then
          some false
        else
          it _ (fun (v_0 : (Unit × Unit × Int × Int × Unit) × (Unit)) kn => CrewAssigned_L9 it r5 r3 r2 r4 r6 v_0.1.2.2.1 v_0.1.2.2.2.1 (fun y0 y1 => kn (((), (), y0, y1, ()), (())))) (((), (), 0, 0, ()), (()))
def CrewAssigned : (List Int) → Option Bool := opq (fun nums => CrewAssigned' itN nums)
theorem CrewAssigned_eq (nums : List Int) : CrewAssigned nums = CrewAssigned' itN nums := by unfold CrewAssigned; rw [opq_eq]
def E13 : FEnv iseat := ⟨⟨167, [sp48, sp51, sp52, sp15], [sp17, sp46, sp47, sp18, sp20], [sp16], [], [], [], [], [], [], [], [45, 139, 141, 156, 3000046], [], true⟩, [(9, ⟨⟨[(3, .bx 23 0), (4, .bx 4 0), (13, .v (.int .i64)), (14, .v (.int .i64))], []⟩, [5, 6, 7, 8], [23, 4], []⟩), (16, ⟨⟨[(3, .bx 23 0), (4, .bx 4 0), (15, .v (.int .i64))], []⟩, [5, 6, 7, 8, 13], [23, 4], []⟩), (21, ⟨⟨[(3, .bx 23 0), (4, .bx 4 0), (16, .v (.int .i64))], [(23, [.v (.int .u64)])]⟩, [5, 6, 8, 13], [4], []⟩), (26, ⟨⟨[(3, .bx 23 0), (4, .bx 4 0), (17, .os 17 3 (.int .i64)), (18, .v (.int .i64)), (19, .v (.int .i64))], [(23, [.v (.int .u64)])]⟩, [16], [], []⟩)]⟩
theorem e13 (it : It Bool) (nums : List Int) : fnRun (ts := [.bool]) it E13 (bodyOf Tryd.f13) Tryd.f13.results.toList (encA [.sl (.int .i64)] (nums, ())) = CrewAssigned' it nums := by kernel_rfl
end
end Go.Proofs.Crew
namespace Go.Proofs.Crew
open Go Go.Ab
set_option linter.all false
theorem bob_ok : NameOk (⟨#[98, 111, 98]⟩ : ByteArray) := by
  refine ⟨by decide, by decide, _, by rw [trim_eq]; rfl, ?_⟩
  rw [Lib.toList_data, Lib.toList_data]
  decide
theorem cat_ok : NameOk (⟨#[99, 97, 116]⟩ : ByteArray) := by
  refine ⟨by decide, by decide, _, by rw [trim_eq]; rfl, ?_⟩
  rw [Lib.toList_data, Lib.toList_data]
  decide
theorem dan_ok : NameOk (⟨#[100, 97, 110]⟩ : ByteArray) := by
  refine ⟨by decide, by decide, _, by rw [trim_eq]; rfl, ?_⟩
  rw [Lib.toList_data, Lib.toList_data]
  decide
theorem eve_ok : NameOk (⟨#[101, 118, 101]⟩ : ByteArray) := by
  refine ⟨by decide, by decide, _, by rw [trim_eq]; rfl, ?_⟩
  rw [Lib.toList_data, Lib.toList_data]
  decide
theorem checkE_zero {d : Driver} (h : DOk d) (hp : pCheck d = some 0) : checkE d = 0 := by
  have h1 := h.nm.2.1
  have h2 := h.len
  have := pCheck_any d (by omega) (by omega)
  rw [hp] at this
  exact (Option.some.inj this).symm
theorem CrewOf_made (s : Seed) {most turns : Int} (h0 : 0 ≤ most) (h1 : most ≤ 100) (t0 : 0 ≤ turns) (t1 : turns ≤ 20) : Ok (fun r => (r.2.length : Int) ≤ most ∧ ∀ d ∈ r.2, DOk d) (CrewOf s most turns) := by
  rw [CrewOf_eq]
  have e0 : w64 (most + 1) = most + 1 := w64_id (by omega) (by omega)
  refine Ok.bind (Below_ok s (by rw [e0]; omega)) fun r hr => ?_
  rw [e0] at hr
  refine Ok.rounds (fun v => 0 ≤ v.1.2.2.2.1 ∧ (v.1.2.2.1.length : Int) + v.1.2.2.2.1 ≤ most ∧ ∀ d ∈ v.1.2.2.1, DOk d) (fun v => v.1.2.2.2.1.toNat) ?_ ?_ ?_
  · show r.2.toNat < 18446744073709551616
    omega
  · exact ⟨hr.1, by show ((0 : Nat) : Int) + r.2 ≤ most; omega, fun d hd => by cases hd⟩
  rintro ⟨⟨_, _, out, i, _⟩, ⟨⟨w, _⟩, _⟩⟩ kn ⟨i0, i1, i2⟩ hk
  simp only at i0 i1 i2 ⊢
  refine Ok.ite (fun hlt => ?_) fun _ => Ok.some ⟨by simp only; omega, i2⟩
  have hlt := of_decide_eq_true hlt
  have e : w64 (i - 1) = i - 1 := w64_id (by omega) (by omega)
  have et : ((out.length : Int).tmod 4) = ((out.length % 4 : Nat) : Int) := by
    rw [Int.tmod_eq_emod_of_nonneg (by omega)]; omega
  have hm4 : out.length % 4 < 4 := Nat.mod_lt _ (by omega)
  rw [et]
  simp only [Int.toNat_natCast]
  have hname : ∀ k, k < 4 → NameOk (([(⟨#[97, 110, 110]⟩ : ByteArray), (⟨#[98, 111, 98]⟩ : ByteArray), (⟨#[99, 97, 116]⟩ : ByteArray), (⟨#[100, 97, 110]⟩ : ByteArray)] : List ByteArray).getD k ⟨#[]⟩) := by
    intro k hk
    match k, hk with
    | 0, _ => exact ann_ok
    | 1, _ => exact bob_ok
    | 2, _ => exact cat_ok
    | 3, _ => exact dan_ok
  refine Ok.chk (by simp; omega) (Ok.chk (by simp; omega) (Ok.bind (DriverOf_ok _ _ t0 t1) fun r2 h2 => Ok.chk (fitA_ok (by simp; omega) (by omega)) (hk _ ?_ ?_)))
  · simp only [e, List.length_append, List.length_singleton]
    refine ⟨by omega, by push_cast; omega, fun d hd => ?_⟩
    rcases List.mem_append.1 hd with hd | hd
    · exact i2 d hd
    · simp only [List.mem_singleton] at hd; subst hd
      exact h2.ok (hname _ hm4) t1
  · simp only [e]; omega
theorem as_ok {u : Rules} {l : List Driver} {hs : List Haul} {r : List Int × Int × Int} (hu : RulesIn u) (hl : l.length ≤ 4) (hd : ∀ d ∈ l, DOk d ∧ checkE d = 0) (hh : hs.length ≤ 5) (hH : ∀ h ∈ hs, HOk h) (h : IsAs u l hs r) : AOk u l hs ∧ r = ((goS u l hs hs.length [] 0 ([], -1)).1, (goS u l hs hs.length [] 0 ([], -1)).2, 0) := by
  have hr : rulesB u = true := by
    unfold RulesIn at hu
    unfold rulesB
    simp only [Bool.and_eq_true, inB_iff]
    omega
  unfold IsAs at h
  rw [hr] at h
  rw [if_neg (by simp)] at h
  obtain ⟨e2, d2, h⟩ := h
  have z2 : e2 = 0 := by
    unfold IsDE at d2
    rw [if_neg (by omega)] at d2
    rcases d2 with ⟨a, i, hi, hb, _⟩ | ⟨a, _⟩
    · have : checkE (dG l i) = 0 := (hd _ (getD_mem hi)).2
      rw [← hb] at this; exact this
    · exact a
  subst z2
  rw [if_neg (by simp)] at h
  obtain ⟨e3, d3, h⟩ := h
  have z3 : e3 = 0 := by
    unfold IsHE at d3
    rw [if_neg (by omega)] at d3
    rcases d3 with ⟨a, i, hi, hb⟩ | ⟨a, _⟩
    · exact absurd (hH _ (getD_mem hi)) hb
    · exact a
  subst z3
  rw [if_neg (by simp)] at h
  exact h
theorem Listed_ok {l : List Int} {n : Int} (hl : l.length ≤ 1000) : Ok (fun b => b = true ↔ n ∈ l) (Listed l n) := by
  rw [Listed_eq]
  refine Ok.rounds (fun v => ∃ k : Nat, k ≤ l.length ∧ v.1.1 = (k : Int) ∧ ∀ i, i < k → l.getD i 0 ≠ n) (fun v => ((l.length : Int) - v.1.1).toNat) ?_ ?_ ?_
  · show ((l.length : Int) - 0).toNat < 18446744073709551616
    omega
  · exact ⟨0, Nat.zero_le _, rfl, fun i hi => by omega⟩
  rintro ⟨⟨x, _⟩, _⟩ kn ⟨k, k1, rfl, k3⟩ hk
  simp only
  have ek : w64 ((k : Int) + 1) = ((k + 1 : Nat) : Int) := by rw [w64_id (by omega) (by omega)]; push_cast; rfl
  refine Ok.ite (fun hlt => ?_) fun hge => Ok.some ?_
  · have hlt : k < l.length := by have := of_decide_eq_true hlt; omega
    refine Ok.chk (ib (by omega) (by omega)) (Ok.ite (fun q => Ok.some ?_) fun q => hk _ ⟨k + 1, hlt, ek, fun i hi => ?_⟩ ?_)
    · refine ⟨fun _ => ?_, fun _ => rfl⟩
      have q : l.getD k 0 = n := beq_iff_eq.1 q
      rw [← q]; exact getD_mem hlt
    · by_cases e : i = k
      · subst e; exact fun e2 => by rw [show (l.getD (i : Int).toNat 0 == n) = true from beq_iff_eq.2 e2] at q; cases q
      · exact k3 i (by omega)
    · simp only [ek]; omega
  · have hge : k = l.length := by have := of_decide_eq_false hge; omega
    subst hge
    refine ⟨fun q => (by cases q), fun q => ?_⟩
    obtain ⟨i, hi, e⟩ := List.getElem_of_mem q
    refine absurd ?_ (k3 i hi)
    rw [List.getD_eq_getElem?_getD, List.getElem?_eq_getElem hi]; exact e
theorem cntP_take (l : List Int) (k : Nat) (hk : k < l.length) : cntP (l.take (k + 1)) = cntP (l.take k) + if 0 ≤ l.getD k 0 then 1 else 0 := by
  rw [List.take_succ, List.getElem?_eq_getElem hk]
  show cntP (l.take k ++ [l[k]]) = _
  rw [cntP_app, List.getD_eq_getElem?_getD, List.getElem?_eq_getElem hk]; rfl
section
variable {u : Rules} {l : List Driver} {hs : List Haul}
theorem Does_found (ha : AOk u l hs) {w : List Int} (hx : Ext u l hs [] w) (hw : w.length = hs.length) {i : Nat} (hi : i < l.length) (hm : (i : Int) ∈ w) : Does u (l.getD i dfltDriver) hs w (i : Int) = some true := by
  obtain ⟨b, hb, hbi⟩ := Does_ok (now := w) ha hi (by omega)
  rw [hb]
  refine congrArg some (hbi.2 ?_)
  have hd := ext_held hx (held_nil ha.d) i hi
  exact ⟨hd.1, hd.2, ext_sure hx (fun h => by cases h) hm⟩
end
end Go.Proofs.Crew
namespace Go.Proofs.Crew
open Go Go.Ab
set_option linter.all false
section
variable {u : Rules} {l : List Driver} {hs : List Haul}
theorem best_of {w : List Int} (hx : Ext u l hs [] w) (hw : w.length = hs.length) : cntP w ≤ (goS u l hs hs.length [] 0 ([], -1)).2 :=
  (goS_best (u := u) (l := l) (hs := hs) hs.length [] 0 ([], -1) (by simp) rfl).2.1 w hx hw
theorem asg_l26 (ha : AOk u l hs) (hl : 0 < l.length) {r2 : Seed × Rules} {r3 : Seed × List Driver} {r4 : Seed × List Haul} {r5 : List Int × Int × Int} (e2 : r2.2 = u) (e3 : r3.2 = l) (e4 : r4.2 = hs) (e5 : r5.2.1 = (goS u l hs hs.length [] 0 ([], -1)).2)
    {kn3 : Int → Int → Option Bool} {round w0 : Int} (hk3 : ∀ w, Ok (fun b => b = true) (kn3 (w64 (round + 1)) w)) :
    Ok (fun b => b = true) (itN _ (fun (v_0 : (Unit × Unit × (List Int) × Int × Int × Unit) × ((Int × Unit) × Unit)) kn => CrewAssigned_L26 r4 r3 r2 r5 kn3 round v_0.1.2.2.1 v_0.1.2.2.2.1 v_0.1.2.2.2.2.1 v_0.2.1.1 (fun y0 y1 y2 y3 => kn (((), (), y0, y1, y2, ()), ((y3, ()), ())))) (((), (), ([] : List Int), 0, 0, ()), ((w0, ()), ()))) := by
  subst e2 e3 e4
  have hm := ha.m
  have hn := ha.n
  refine Ok.rounds (fun v => ∃ k : Nat, k ≤ r4.2.length ∧ v.1.2.2.2.2.1 = (k : Int) ∧ v.1.2.2.1.length = k ∧ Ext r2.2 r3.2 r4.2 [] v.1.2.2.1 ∧ v.1.2.2.2.1 = cntP v.1.2.2.1) (fun v => ((r4.2.length : Int) - v.1.2.2.2.2.1).toNat) ?_ ?_ ?_
  · show ((r4.2.length : Int) - 0).toNat < 18446744073709551616
    omega
  · exact ⟨0, Nat.zero_le _, rfl, rfl, .refl _, rfl⟩
  rintro ⟨⟨_, _, some_, many, x, _⟩, ⟨⟨w, _⟩, _⟩⟩ kn ⟨k, k1, k2, k3, k4, k5⟩ hk
  simp only at k2 k3 k4 k5 ⊢
  subst k2 k5
  have ek : w64 ((k : Int) + 1) = ((k + 1 : Nat) : Int) := by rw [w64_id (by omega) (by omega)]; push_cast; rfl
  have hc := k4.len
  refine Ok.ite (fun hlt => ?_) fun hge => ?_
  · have hlt : k < r4.2.length := by have := of_decide_eq_true hlt; omega
    refine Ok.bind (Below_ok _ (by omega)) fun r10 h10 => ?_
    obtain ⟨j, hj⟩ : ∃ j : Nat, r10.2 = (j : Int) := ⟨r10.2.toNat, by omega⟩
    have hjl : j < r3.2.length := by omega
    simp only [hj, List.nil_append, Int.toNat_natCast]
    have em : w64 (cntP some_ + 1) = cntP some_ + 1 := by
      have := cntP_nn some_
      have h2 := hc.2.2
      simp only [List.length_nil] at h2
      have h3 : cntP ([] : List Int) = 0 := rfl
      exact w64_id (by omega) (by omega)
    refine Ok.chk (fitA_ok (by simp; omega) (by omega)) (Ok.chk (fitA_ok (by simp; omega) (by omega)) (Ok.chk (ib (by omega) (by omega)) (Ok.beq (Does_can ha hjl (by omega) (ext_held k4 (held_nil ha.d) j hjl)) (Ok.ite (fun hcan => hk _ ⟨k + 1, hlt, ek, ?_, ?_, ?_⟩ ?_) fun hcan => Ok.chk (fitA_ok (by simp; omega) (by omega)) (hk _ ⟨k + 1, hlt, ek, ?_, ?_, ?_⟩ ?_)))))
    · simp [k3]
    · exact k4.trans (.yes j hjl hcan (.refl _))
    · simp only [em, cntP_app]; rw [if_pos (by omega)]
    · simp only [ek]; omega
    · simp [k3]
    · exact k4.trans (.no (.refl _))
    · simp only [cntP_app]; rw [if_neg (by omega)]; omega
    · simp only [ek]; omega
  · have hge : k = r4.2.length := by have := of_decide_eq_false hge; omega
    have hb := best_of k4 (by omega)
    rw [← e5] at hb
    exact Ok.no (decide_eq_false (by omega)) (hk3 _)
theorem asg_l21 (hw : awake = some true) (ha : AOk u l hs) {r2 : Seed × Rules} {r3 : Seed × List Driver} {r4 : Seed × List Haul} {r5 : List Int × Int × Int} (e2 : r2.2 = u) (e3 : r3.2 = l) (e4 : r4.2 = hs) (e5 : r5.2.1 = (goS u l hs hs.length [] 0 ([], -1)).2) {done w0 : Int} (hd : done = r5.2.1) :
    Ok (fun b => b = true) (itN _ (fun (v_0 : (Unit × Unit × Int × Unit) × ((Int × Unit) × Unit)) kn => CrewAssigned_L21 itN r3 r4 r2 r5 done v_0.1.2.2.1 v_0.2.1.1 (fun y0 y1 => kn (((), (), y0, ()), ((y1, ()), ())))) (((), (), 0, ()), ((w0, ()), ()))) := by
  have hend : Ok (fun b => b = true) (bif (done == r5.2.1) then ((awake).bind fun r12 => some r12) else some false) := Ok.yes (beq_iff_eq.2 hd) (Ok.beq hw (Ok.some rfl))
  refine Ok.rounds (fun v => 0 ≤ v.1.2.2.1 ∧ v.1.2.2.1 ≤ 8) (fun v => (8 - v.1.2.2.1).toNat) ?_ ?_ ?_
  · show (8 - (0 : Int)).toNat < 18446744073709551616
    omega
  · simp
  rintro ⟨⟨_, _, i, _⟩, ⟨⟨w, _⟩, _⟩⟩ kn hi' hk
  simp only at hi' ⊢
  refine Ok.ite (fun hlt => Ok.ite (fun hpos => ?_) fun _ => hend) fun _ => hend
  have hlt := of_decide_eq_true hlt
  have hpos := of_decide_eq_true hpos
  have e : w64 (i + 1) = i + 1 := w64_id (by omega) (by omega)
  refine asg_l26 ha (by rw [← e3]; omega) e2 e3 e4 e5 fun w2 => hk _ ?_ ?_
  · simp only [e]; omega
  · simp only [e]; omega
end
theorem CrewAssigned_true (hw : awake = some true) {nums : List Int} (hn : nums.length ≤ 9223372036854775807) : CrewAssigned nums = some true := by
  rw [CrewAssigned_eq]; apply ok_eq
  refine Ok.bind (NewSeed_ok hn) fun r _ => Ok.bind (RulesOf_ok r) fun r2 hr2 => Ok.bind (CrewOf_made _ (by decide) (by decide) (by decide) (by decide)) fun r3 hr3 => Ok.bind (HaulsOf_ok _ (by decide) (by decide)) fun r4 hr4 => ?_
  have hu := hr2.1
  have fit : ∀ {l : List Driver}, (∀ d ∈ l, DOk d) → DFit l := fun h d hd => ⟨by have := (h d hd).nm.2.1; omega, by have := (h d hd).len; omega⟩
  have chks : ∀ {l : List Driver}, (∀ d ∈ l, DOk d) → ∀ d ∈ l, DOk d ∧ checkE d = 0 := fun h d hd => ⟨h d hd, checkE_zero (h d hd) (pCheck_ok (h d hd))⟩
  refine Ok.bind (pAssign_ok (fit hr3.2)) fun r5 h5 => ?_
  obtain ⟨ha, hr5⟩ := as_ok hu (by have := hr3.1; omega) (chks hr3.2) (by have := hr4.1; omega) hr4.2 h5
  refine Ok.chk (fitA_ok (by simp; omega) (by omega)) (Ok.bind (DriverOf_ok _ _ (by decide) (by decide)) fun r6 h6 => Ok.chk (fitA_ok (by simp; omega) (by omega)) ?_)
  have hd6 : DOk r6.2 := h6.ok eve_ok (by decide)
  simp only [List.nil_append]
  have hall : ∀ d ∈ r3.2 ++ [r6.2], DOk d := fun d hd => by
    rcases List.mem_append.1 hd with hd | hd
    · exact hr3.2 d hd
    · simp only [List.mem_singleton] at hd; subst hd; exact hd6
  refine Ok.bind (pAssign_ok (fit hall)) fun r7 h7 => ?_
  obtain ⟨ha7, hr7⟩ := as_ok hu (by have := hr3.1; simp; omega) (chks hall) (by have := hr4.1; omega) hr4.2 h7
  obtain ⟨f1, f2, f3⟩ := found r2.2 r3.2 r4.2
  have hmore := best_of (ext_more r6.2 f1) f2
  have e5 : r5.2.1 = (goS r2.2 r3.2 r4.2 r4.2.length [] 0 ([], -1)).2 := by rw [hr5]
  have e51 : r5.1 = (goS r2.2 r3.2 r4.2 r4.2.length [] 0 ([], -1)).1 := by rw [hr5]
  have e7 : r7.2.1 = (goS r2.2 (r3.2 ++ [r6.2]) r4.2 r4.2.length [] 0 ([], -1)).2 := by rw [hr7]
  rw [← e51] at f1 f2 f3 hmore
  rw [← e5] at f3
  rw [← e7] at hmore
  have hm := ha.m
  refine Ok.no (by rw [hr5]; rfl) (Ok.no (by rw [hr7]; rfl) (Ok.no (by rw [f2]; simp) (Ok.no (decide_eq_false (by omega)) ?_)))
  have hrange := ext_range f1 (fun x hx => by cases hx)
  refine Ok.rounds (fun v => ∃ k : Nat, k ≤ r5.1.length ∧ v.1.2.2.2.1 = (k : Int) ∧ v.1.2.2.1 = cntP (r5.1.take k)) (fun v => ((r5.1.length : Int) - v.1.2.2.2.1).toNat) ?_ ?_ ?_
  · show ((r5.1.length : Int) - 0).toNat < 18446744073709551616
    omega
  · exact ⟨0, Nat.zero_le _, rfl, rfl⟩
  rintro ⟨⟨_, _, done, x, _⟩, _⟩ kn ⟨k, k1, k2, k3⟩ hk
  simp only at k2 k3 ⊢
  subst k2 k3
  have ek : w64 ((k : Int) + 1) = ((k + 1 : Nat) : Int) := by rw [w64_id (by omega) (by omega)]; push_cast; rfl
  refine Ok.ite (fun hlt => ?_) fun hge => ?_
  · have hlt : k < r5.1.length := by have := of_decide_eq_true hlt; omega
    have hx := hrange _ (getD_mem (d := 0) hlt)
    simp only [Int.toNat_natCast]
    have hcb : cntP (r5.1.take k) ≤ 5 ∧ 0 ≤ cntP (r5.1.take k) := by
      refine ⟨?_, cntP_nn _⟩
      unfold cntP
      have h1 := List.length_filter_le (fun x : Int => decide (0 ≤ x)) (r5.1.take k)
      have h2 := List.length_take_le k r5.1
      omega
    have ed : w64 (cntP (r5.1.take k) + 1) = cntP (r5.1.take k) + 1 := w64_id (by omega) (by omega)
    refine Ok.chk (ib (by omega) (by omega)) (Ok.no (decide_eq_false (by omega)) (Ok.chk (ib (by omega) (by omega)) (Ok.no (decide_eq_false (by omega)) (Ok.chk (ib (by omega) (by omega)) (Ok.ite (fun q => hk _ ⟨k + 1, hlt, ek, ?_⟩ ?_) fun q => hk _ ⟨k + 1, hlt, ek, ?_⟩ ?_)))))
    · have q := of_decide_eq_true q
      rw [cntP_take _ _ hlt, if_pos q]; exact ed
    · simp only [ek]; omega
    · have q := of_decide_eq_false q
      rw [cntP_take _ _ hlt, if_neg q]; simp
    · simp only [ek]; omega
  · have hge : k = r5.1.length := by have := of_decide_eq_false hge; omega
    subst hge
    rw [List.take_length]
    refine Ok.rounds (fun v => 0 ≤ v.1.2.2.1 ∧ v.1.2.2.1 ≤ r3.2.length) (fun v => ((r3.2.length : Int) - v.1.2.2.1).toNat) ?_ ?_ ?_
    · show ((r3.2.length : Int) - 0).toNat < 18446744073709551616
      have := ha.n; omega
    · exact ⟨Int.le_refl _, by show (0 : Int) ≤ r3.2.length; omega⟩
    rintro ⟨⟨_, _, i, _⟩, _⟩ kn2 ⟨i0, i1⟩ hk2
    simp only at i0 i1 ⊢
    have hn3 := ha.n
    refine Ok.ite (fun hlt => ?_) fun _ => asg_l21 hw ha rfl rfl rfl e5 f3.symm
    have hlt := of_decide_eq_true hlt
    have e : w64 (i + 1) = i + 1 := w64_id (by omega) (by omega)
    obtain ⟨j, rfl⟩ : ∃ j : Nat, i = (j : Int) := ⟨i.toNat, by omega⟩
    have hj : j < r3.2.length := by omega
    refine Ok.bind (Listed_ok (by omega)) fun r8 h8 => Ok.ite (fun q => Ok.chk (ib (by omega) (by omega)) ?_) fun q => hk2 _ ?_ ?_
    · simp only [Int.toNat_natCast]
      refine Ok.beq (Does_found ha f1 f2 hj (h8.1 q)) (Ok.no rfl (hk2 _ ?_ ?_))
      · simp only [e]; omega
      · simp only [e]; omega
    · simp only [e]; omega
    · simp only [e]; omega
end Go.Proofs.Crew
namespace Go.Proofs.YthmgcjmoiilggaaDoor
open Go Go.Ab Go.ChangeShapes Go.WideShapes Go.ChangeAt Go.RowKit
set_option maxRecDepth 100000
def allK (w : World) : Nat → Nat → Option Value := fun b o => w.cell? ⟨b, o, none⟩
theorem allK_fits (w : World) : Fits (allK w) w := fun _ _ _ h => h
theorem cells3 : Tryd.prog.cellsOf 3 = 1 := by kernel_rfl
section
variable {H : Type} {enc : TypeId × Value → H} {W : World}
def Rd {α : Type} (enc : TypeId × Value → H) (W : World) (t : TypeId) (ec : α → List D) : Prop :=
  ∀ n cs x, DataW.trod enc Tryd.prog W 0 (fun _ => true) true n t cs = some x → ∃ a : α, RepL (allK W) γ0 sv0 (ec a) cs
theorem rd_int : Rd enc W 3 encI := by
  intro n cs x h
  obtain ⟨a, rfl, _⟩ := DataW.trod_int Tryd.underlying3 h
  exact ⟨a, .cons _ _ _ _ (.int _ _) .nil⟩
theorem rd_slice {α : Type} [Inhabited α] {t e z : Nat} {ec : α → List D} (ht : Tryd.prog.underlying t = some (.slice e)) (hz : Tryd.prog.cellsOf e = z) (hz0 : 0 < z) (hl : ∀ a, (ec a).length = z)
    (hc : ∀ a, allCell (ec a) = true) (hr : Rd enc W e ec) : Rd enc W t (fun l : List α => [slOf z ec l]) := by
  intro n cs x h
  rcases Deep.open_slice ht h with ⟨rfl, rfl⟩ | ⟨a, len, cap, m, n', D, Pl, rfl, _, hlc, _, hm, rfl, hx⟩
  · exact ⟨[], .cons _ _ _ _ (.sl0 _ _) .nil⟩
  · simp only [if_true] at hm
    subst hm
    rw [hz] at hx
    rcases Nat.eq_zero_or_pos len with rfl | hpos
    · exact ⟨[], .cons _ _ _ _ (.slE _ _ _ _) .nil⟩
    · have hx' : ∀ i, i < len → ∃ p : α × List Value, W.cells? 0 (a.add (i * z)) z = some p.2 ∧ RepL (allK W) γ0 sv0 (ec p.1) p.2 := fun i hi => by
        obtain ⟨cs', h1, h2⟩ := hx i (by omega)
        obtain ⟨b, hb⟩ := hr _ _ _ h2
        exact ⟨(b, cs'), h1, hb⟩
      obtain ⟨F, hF⟩ := Deep.choose_lt hx'
      have hsp : a.spot = none := by
        obtain ⟨_, h1, h2⟩ := World.cells?_some (hF 0 hpos).1
        have h3 := h2 0 hz0
        rw [List.getElem?_eq_getElem (by omega)] at h3
        simpa [Addr.add] using World.cell?_spot h3
      obtain ⟨b, off, sp⟩ := a
      simp only at hsp
      subst hsp
      refine ⟨(List.range len).map (fun i => (F i).1), .cons _ _ _ _ ?_ .nil⟩
      have hlen : ((List.range len).map (fun i => (F i).1)).length = len := by simp
      have hg : ∀ i, i < len → ((List.range len).map (fun i => (F i).1)).getD i default = (F i).1 := fun i hi => by simp [List.getD, hi]
      unfold slOf
      rw [hlen]
      refine .sl z len _ b off m (fun i => (F i).2) hlc (fun i _ => hl _) (fun i _ => hc _) (fun i hi => by rw [hg i hi]; exact (hF i hi).2) (fun i j v hi hj => ?_)
      obtain ⟨_, h1, h2⟩ := World.cells?_some (hF i hi).1
      have hjl := (List.getElem?_eq_some_iff.1 hj).1
      have h3 := h2 j (by omega)
      rw [add_plain, add_plain, hj] at h3
      exact h3
theorem arg_ints {v : Value} {d : DataW H} {ps : List MemPlace} {base : Nat} (hv : Value.okWide Tryd.prog W .any base 31 v) (h : DataW.Trod enc Tryd.prog W 0 (fun _ => true) true 31 v d ps) :
    ∃ l : List Int, Rep (allK W) γ0 sv0 (slOf 1 encI l) v := by
  obtain ⟨n, hn⟩ := h
  obtain ⟨l, hl⟩ := rd_slice (ec := encI) Tryd.underlying31 cells3 (by decide) (fun _ => rfl) (fun _ => rfl) rd_int _ _ _ hn
  obtain ⟨a0, len, cap, rfl⟩ := okWide_slice Tryd.underlying31 hv
  cases hl with
  | cons _ _ _ _ k _ => exact ⟨l, k⟩
end
theorem glob_of {W : World} : GlobOk seat (allK W) := fun g l h => by cases h
theorem laidOut : laidOutB Tryd.prog = true := by kernel_rfl
theorem own : ownKnob Tryd.prog.godebug = none := by kernel_rfl
theorem trodAll_stays {H : Type} {enc : TypeId × Value → H} {W W' : World} {sp' : Nat → Bool} (hb : Below W.heap.size W W') : ∀ {ts : List TypeId} {vs : List Value} {ds : List (DataW H)} {ps : List MemPlace},
    (∀ t ∈ ts, Tryd.prog.readableRec t = true ∧ t < Tryd.prog.types.size) → DataW.TrodAll enc Tryd.prog W 0 (fun _ => true) true ts vs ds ps → (∀ p ∈ ps, p.block < W.heap.size) → (∀ p ∈ ps, sp' p.block = true) →
    DataW.TrodAll enc Tryd.prog W' 0 sp' true ts vs ds ps
  | [], [], [], _, _, h, _, _ => h
  | _ :: _, _ :: _, _ :: _, _, hT, ⟨p, q, h1, h2, e⟩, hlt, hs => ⟨p, q,
      WideElems.Trod_stays laidOut (hT _ (List.mem_cons_self ..)).1 (hT _ (List.mem_cons_self ..)).2 h1 (fun x hx => hb.same (hlt x (by rw [e]; exact List.mem_append_left _ hx))) (fun x hx => hs x (by rw [e]; exact List.mem_append_left _ hx)),
      trodAll_stays hb (fun t ht => hT t (List.mem_cons_of_mem _ ht)) h2 (fun x hx => hlt x (by rw [e]; exact List.mem_append_right _ hx)) (fun x hx => hs x (by rw [e]; exact List.mem_append_right _ hx)), e⟩
theorem post_yes {H : Type} {enc : TypeId × Value → H} {f : Func} {s : ChangeSpec} {W W' : World} {args : Array Value} {ds gs : List (DataW H)} {before : List MemPlace}
    (hW : DataW.Whole enc Tryd.prog f.params.toList s.vars false W args.toList ds gs before) (hv : s.vars = []) (hb : Below W.heap.size W W')
    (hT : ∀ t ∈ f.params.toList, Tryd.prog.readableRec t = true ∧ t < Tryd.prog.types.size) (hrt : f.resultTypes = #[4])
    (hr : (s.fn H (ds ++ gs)).results = [.lit (.bool true)]) (ha : (s.fn H (ds ++ gs)).args = ds) (hvs : (s.fn H (ds ++ gs)).vars = []) :
    s.post enc Tryd.prog f false true false false W args (.bool true) W' := by
  have hlt := hW.lt
  have hW2 := hW
  obtain ⟨p, q, hA, hV, rfl, _, _⟩ := hW
  rw [hv] at hV
  obtain ⟨rfl, rfl⟩ := trodVars_none hV
  refine ⟨ds, [], p ++ [], [], p, [], hW2, ?_, ?_, ?_, hb.frame _, fun h => by cases h⟩
  · rw [hr, hrt]
    exact trodAll_mk1 (shut_bool Tryd.underlying4 _)
  · rw [ha]
    exact trodAll_stays hb hT hA (fun x hx => hlt x (by simpa using hx)) (fun x hx => by simpa using hlt x (by simpa using hx))
  · rw [hvs, hv]; rfl
def layObj (l : List Nat) : Obj → Obj
  | .cells _ t frozen => .cells (l.map fun (n : Nat) => Value.int .u8 (n : Int)).toArray t frozen
  | o => o
noncomputable def laidWorld (os : Os) : World :=
  { World.holding Tryd.prog os ⟨#[], #[], []⟩ with heap := ((World.holding Tryd.prog os ⟨#[], #[], []⟩).heap.modify 1 (layObj [128, 191, 160, 191, 128, 159, 144, 191, 128, 143, 0, 0, 0, 0, 0, 0, 0, 0, 0, 0, 0, 0, 0, 0, 0, 0, 0, 0, 0, 0, 0, 0])).modify 0 (layObj Go.Pinned.utf8FirstZ) }
theorem ints_len {κ : Nat → Nat → Option Value} {γ : Nat → Nat} {sv : Nat → Value} {W : World} {base : Nat} {v : Value} {l : List Int} (hv : Value.okWide Tryd.prog W .any base 31 v) (h : Rep κ γ sv (slOf 1 encI l) v) : l.length ≤ 9223372036854775807 := by
  unfold slOf at h
  generalize hn : l.length = n at h
  cases h with
  | sl0 => omega
  | slE => omega
  | sl _ _ _ b off cap u hc =>
    simp only [Value.okWide, Cell.okWide, Cell.ok, Tryd.underlying31] at hv
    have h1 := hv.2.1
    have h2 : IntKind.i64.max = 9223372036854775807 := by decide
    rw [h2] at h1
    omega
section
variable {H : Type} {enc : TypeId × Value → H} {W : World}
end
end Go.Proofs.YthmgcjmoiilggaaDoor
