/- Walks by computing: what each function of the program that the laws reach gives for what it gets, as plain Lean, and that it is so; without a condition but those that stand in each theorem. -/
import Derived.Test.YthmgcjmoiilggaaDoorW1
import Derived.Test.YthmgcjmoiilggaaDoorW2
import Derived.Test.YthmgcjmoiilggaaDoorW3
import Derived.Test.YthmgcjmoiilggaaDoorW4
import Derived.Test.YthmgcjmoiilggaaDoorW5
import Derived.Test.YthmgcjmoiilggaaDoorW6
import Derived.Test.YthmgcjmoiilggaaDoorW7
set_option linter.all false
namespace Go.Proofs.Crew
open Go Go.Ab
open Go.Proofs.YthmgcjmoiilggaaDoor (iseat)
set_option linter.all false
set_option maxRecDepth 100000
noncomputable section
def pCheck_L10 (d : Driver) (x33 : Int) (kn_ : Int → Option Int) : Option Int :=
  bif (decide (x33 < (d.Turns.length : Int))) then
    chk (decide (0 ≤ x33) && decide (x33 < (d.Turns.length : Int))) <|
    (moment ((d.Turns.getD x33.toNat dfltTurn).From)).bind fun r2 =>
    bif (r2 != 0) then
      some r2
    else
      (moment ((d.Turns.getD x33.toNat dfltTurn).To)).bind fun r3 =>
      bif (r3 != 0) then
        some r3
      else
        bif (decide ((d.Turns.getD x33.toNat dfltTurn).From.Hi > (d.Turns.getD x33.toNat dfltTurn).To.Lo)) then
          some 11
        else
          bif (decide (x33 > 0)) then
            chk (decide (0 ≤ (w64 (x33 - 1))) && decide ((w64 (x33 - 1)) < (d.Turns.length : Int))) <|
            bif (decide ((d.Turns.getD x33.toNat dfltTurn).From.Lo < (d.Turns.getD (w64 (x33 - 1)).toNat dfltTurn).To.Hi)) then
              some 12
            else
              kn_ (w64 (x33 + 1))
          else
            kn_ (w64 (x33 + 1))
  else
    some 0
def pCheck_L10__2 (d : Driver) (x332 : Int) (kn_2 : Int → Option Int) : Option Int :=
  bif (decide (x332 < (d.Turns.length : Int))) then
    chk (decide (0 ≤ x332) && decide (x332 < (d.Turns.length : Int))) <|
    (moment ((d.Turns.getD x332.toNat dfltTurn).From)).bind fun r5 =>
    bif (r5 != 0) then
      some r5
    else
      (moment ((d.Turns.getD x332.toNat dfltTurn).To)).bind fun r6 =>
      bif (r6 != 0) then
        some r6
      else
        bif (decide ((d.Turns.getD x332.toNat dfltTurn).From.Hi > (d.Turns.getD x332.toNat dfltTurn).To.Lo)) then
          some 11
        else
          bif (decide (x332 > 0)) then
            chk (decide (0 ≤ (w64 (x332 - 1))) && decide ((w64 (x332 - 1)) < (d.Turns.length : Int))) <|
            bif (decide ((d.Turns.getD x332.toNat dfltTurn).From.Lo < (d.Turns.getD (w64 (x332 - 1)).toNat dfltTurn).To.Hi)) then
              some 12
            else
              kn_2 (w64 (x332 + 1))
          else
            kn_2 (w64 (x332 + 1))
  else
    some 0
def pCheck_L10__3 (d : Driver) (x333 : Int) (kn_3 : Int → Option Int) : Option Int :=
  bif (decide (x333 < (d.Turns.length : Int))) then
    chk (decide (0 ≤ x333) && decide (x333 < (d.Turns.length : Int))) <|
    (moment ((d.Turns.getD x333.toNat dfltTurn).From)).bind fun r9 =>
    bif (r9 != 0) then
      some r9
    else
      (moment ((d.Turns.getD x333.toNat dfltTurn).To)).bind fun r10 =>
      bif (r10 != 0) then
        some r10
      else
        bif (decide ((d.Turns.getD x333.toNat dfltTurn).From.Hi > (d.Turns.getD x333.toNat dfltTurn).To.Lo)) then
          some 11
        else
          bif (decide (x333 > 0)) then
            chk (decide (0 ≤ (w64 (x333 - 1))) && decide ((w64 (x333 - 1)) < (d.Turns.length : Int))) <|
            bif (decide ((d.Turns.getD x333.toNat dfltTurn).From.Lo < (d.Turns.getD (w64 (x333 - 1)).toNat dfltTurn).To.Hi)) then
              some 12
            else
              kn_3 (w64 (x333 + 1))
          else
            kn_3 (w64 (x333 + 1))
  else
    some 0
def pCheck' (it : It Int) (d : Driver) : Option Int :=
  bif (decide ((d.Name.size : Int) < 1)) then
    bif (decide ((d.Name.size : Int) < 1)) then
      some 3
    else
      (within d.Skills 0 255).bind fun r =>
      bif (!r) then
        some 2
      else
        bif (decide ((d.Turns.length : Int) > 20)) then
          some 8
        else
          it _ (fun (v_0 : (Unit × Int × Unit) × (Unit)) kn => pCheck_L10 d v_0.1.2.1 (fun y0 => kn (((), y0, ()), (())))) (((), 0, ()), (()))
  else
    bif (decide ((d.Name.size : Int) > 8)) then
      bif (decide ((d.Name.size : Int) > 8)) then
        some 3
      else
        (within d.Skills 0 255).bind fun r4 =>
        bif (!r4) then
          some 2
        else
          bif (decide ((d.Turns.length : Int) > 20)) then
            some 8
          else
            it _ (fun (v_0 : (Unit × Int × Unit) × (Unit)) kn => pCheck_L10__2 d v_0.1.2.1 (fun y0 => kn (((), y0, ()), (())))) (((), 0, ()), (()))
    else
      (trim d.Name (⟨#[97, 98, 99, 100, 101, 102, 103, 104, 105, 106, 107, 108, 109, 110, 111, 112, 113, 114, 115, 116, 117, 118, 119, 120, 121, 122]⟩ : ByteArray)).bind fun r7 =>
      bif (!(r7.toList == (⟨#[]⟩ : ByteArray).toList)) then
        some 3
      else
        (within d.Skills 0 255).bind fun r8 =>
        bif (!r8) then
          some 2
        else
          bif (decide ((d.Turns.length : Int) > 20)) then
            some 8
          else
            it _ (fun (v_0 : (Unit × Int × Unit) × (Unit)) kn => pCheck_L10__3 d v_0.1.2.1 (fun y0 => kn (((), y0, ()), (())))) (((), 0, ()), (()))
def pCheck : Driver → Option Int := opq (fun d => pCheck' itN d)
theorem pCheck_eq (d : Driver) : pCheck d = pCheck' itN d := by unfold pCheck; rw [opq_eq]
def E25 : FEnv iseat := ⟨⟨76, [sp66, sp69, sp68], [], [], [], [], [], [], [], [], [], [], [], true⟩, [(10, ⟨⟨[(1, .bx 1 0), (33, .v (.int .i64))], []⟩, [31, 32], [1], []⟩)]⟩
theorem e25 (it : It Int) (d : Driver) : fnRun (ts := [.int .i64]) it E25 (bodyOf Tryd.f25) Tryd.f25.results.toList (encA [.Driver] (d, ())) = pCheck' it d := by kernel_rfl
def sp25 : FnSpec iseat.toSeat := mkSpec iseat.toSeat 25 [.Driver] [.int .i64] true (fun a => pCheck a.1) (fun a x hx h h' => fn_contract (Z := iseat) (ats := [.Driver]) (ts := [.int .i64]) (E := E25) (fn := Tryd.f25) (c := bodyOf Tryd.f25) Tryd.func25 (by kernel_rfl) (by kernel_rfl) (by kernel_rfl) (by kernel_rfl) rfl ((e25 itN a.1).trans ((pCheck_eq a.1).symm.trans hx)) h h') (fun _ x => rfl)
def checkShift' (it : It Int) (u : Rules) (d : Driver) : Option Int :=
  (pCheckRules u).bind fun r =>
  bif (r != 0) then
    some r
  else
    (pCheck d).bind fun r2 =>
    some r2
def checkShift : Rules → Driver → Option Int := opq (fun u d => checkShift' itN u d)
theorem checkShift_eq (u : Rules) (d : Driver) : checkShift u d = checkShift' itN u d := by unfold checkShift; rw [opq_eq]
def E58 : FEnv iseat := ⟨⟨13, [sp23, sp25], [], [], [], [], [], [], [], [], [], [], [], true⟩, []⟩
theorem e58 (it : It Int) (u : Rules) (d : Driver) : fnRun (ts := [.int .i64]) it E58 (bodyOf Tryd.f58) Tryd.f58.results.toList (encA [.Rules, .Driver] (u, d, ())) = checkShift' it u d := by kernel_rfl
def sp58 : FnSpec iseat.toSeat := mkSpec iseat.toSeat 58 [.Rules, .Driver] [.int .i64] true (fun a => checkShift a.1 a.2.1) (fun a x hx h h' => fn_contract (Z := iseat) (ats := [.Rules, .Driver]) (ts := [.int .i64]) (E := E58) (fn := Tryd.f58) (c := bodyOf Tryd.f58) Tryd.func58 (by kernel_rfl) (by kernel_rfl) (by kernel_rfl) (by kernel_rfl) rfl ((e58 itN a.1 a.2.1).trans ((checkShift_eq a.1 a.2.1).symm.trans hx)) h h') (fun _ x => rfl)
def pLegal' (it : It (Int × Int × Int × Int)) (u : Rules) (d : Driver) : Option (Int × Int × Int × Int) :=
  (checkShift u d).bind fun r =>
  bif (r != 0) then
    some (0, 0, 0, r)
  else
    (brokenL (⟨d, u⟩ : Shift) (⟨d, u⟩ : Shift)).bind fun r2 =>
    (pVerdict (⟨d, u⟩ : Shift)).bind fun r3 =>
    some (r3, r2.1, r2.2, 0)
def pLegal : Rules → Driver → Option (Int × Int × Int × Int) := opq (fun u d => pLegal' itN u d)
theorem pLegal_eq (u : Rules) (d : Driver) : pLegal u d = pLegal' itN u d := by unfold pLegal; rw [opq_eq]
def E21 : FEnv iseat := ⟨⟨30, [sp58, sp59, sp61], [], [], [], [], [], [], [], [], [], [], [], true⟩, []⟩
theorem e21 (it : It (Int × Int × Int × Int)) (u : Rules) (d : Driver) : fnRun (ts := [.int .i64, .int .i64, .int .i64, .int .i64]) it E21 (bodyOf Tryd.f21) Tryd.f21.results.toList (encA [.Rules, .Driver] (u, d, ())) = pLegal' it u d := by kernel_rfl
def sp21 : FnSpec iseat.toSeat := mkSpec iseat.toSeat 21 [.Rules, .Driver] [.int .i64, .int .i64, .int .i64, .int .i64] true (fun a => pLegal a.1 a.2.1) (fun a x hx h h' => fn_contract (Z := iseat) (ats := [.Rules, .Driver]) (ts := [.int .i64, .int .i64, .int .i64, .int .i64]) (E := E21) (fn := Tryd.f21) (c := bodyOf Tryd.f21) Tryd.func21 (by kernel_rfl) (by kernel_rfl) (by kernel_rfl) (by kernel_rfl) rfl ((e21 itN a.1 a.2.1).trans ((pLegal_eq a.1 a.2.1).symm.trans hx)) h h') (fun _ x => rfl)
def pMay' (it : It (Int × Int)) (u : Rules) (d : Driver) (at_ : Int) (long : Int) : Option (Int × Int) :=
  (checkShift u d).bind fun r =>
  bif (r != 0) then
    some (0, r)
  else
    (within at_ 0 3000).bind fun r2 =>
    bif (!r2) then
      bif (!r2) then
        some (0, 2)
      else
        bif ((d.Turns.length : Int) == 20) then
          some (0, 8)
        else
          (pClashes (⟨d, u⟩ : Shift) at_ long).bind fun r3 =>
          bif r3 then
            some (0, 12)
          else
            (more (⟨d, u⟩ : Shift) at_ long).bind fun r4 =>
            (pVerdict r4).bind fun r5 =>
            some (r5, 0)
    else
      (within long 0 (w64 (3000 - at_))).bind fun r6 =>
      bif (!r6) then
        some (0, 2)
      else
        bif ((d.Turns.length : Int) == 20) then
          some (0, 8)
        else
          (pClashes (⟨d, u⟩ : Shift) at_ long).bind fun r7 =>
          bif r7 then
            some (0, 12)
          else
            (more (⟨d, u⟩ : Shift) at_ long).bind fun r8 =>
            (pVerdict r8).bind fun r9 =>
            some (r9, 0)
def pMay : Rules → Driver → Int → Int → Option (Int × Int) := opq (fun u d at_ long => pMay' itN u d at_ long)
theorem pMay_eq (u : Rules) (d : Driver) (at_ : Int) (long : Int) : pMay u d at_ long = pMay' itN u d at_ long := by unfold pMay; rw [opq_eq]
def E31 : FEnv iseat := ⟨⟨45, [sp58, sp66, sp74, sp75, sp61], [], [], [], [], [], [], [], [], [], [], [], true⟩, []⟩
theorem e31 (it : It (Int × Int)) (u : Rules) (d : Driver) (at_ : Int) (long : Int) : fnRun (ts := [.int .i64, .int .i64]) it E31 (bodyOf Tryd.f31) Tryd.f31.results.toList (encA [.Rules, .Driver, .int .i64, .int .i64] (u, d, at_, long, ())) = pMay' it u d at_ long := by kernel_rfl
def sp31 : FnSpec iseat.toSeat := mkSpec iseat.toSeat 31 [.Rules, .Driver, .int .i64, .int .i64] [.int .i64, .int .i64] true (fun a => pMay a.1 a.2.1 a.2.2.1 a.2.2.2.1) (fun a x hx h h' => fn_contract (Z := iseat) (ats := [.Rules, .Driver, .int .i64, .int .i64]) (ts := [.int .i64, .int .i64]) (E := E31) (fn := Tryd.f31) (c := bodyOf Tryd.f31) Tryd.func31 (by kernel_rfl) (by kernel_rfl) (by kernel_rfl) (by kernel_rfl) rfl ((e31 itN a.1 a.2.1 a.2.2.1 a.2.2.2.1).trans ((pMay_eq a.1 a.2.1 a.2.2.1 a.2.2.2.1).symm.trans hx)) h h') (fun _ x => rfl)
def pLeft' (it : It (Int × Int)) (u : Rules) (d : Driver) (at_ : Int) : Option (Int × Int) :=
  (pMay u d at_ 0).bind fun r =>
  bif (r.2 != 0) then
    some (0, r.2)
  else
    (sortSearch (w64 ((w64 (3000 - at_)) + 1)) ((⟨d, u⟩ : Shift), at_)).bind fun r2 =>
    some ((w64 (r2 - 1)), 0)
def pLeft : Rules → Driver → Int → Option (Int × Int) := opq (fun u d at_ => pLeft' itN u d at_)
theorem pLeft_eq (u : Rules) (d : Driver) (at_ : Int) : pLeft u d at_ = pLeft' itN u d at_ := by unfold pLeft; rw [opq_eq]
def E33 : FEnv iseat := ⟨⟨30, [sp31, sp78], [], [], [], [], [], [], [], [], [], [], [], true⟩, []⟩
theorem e33 (it : It (Int × Int)) (u : Rules) (d : Driver) (at_ : Int) : fnRun (ts := [.int .i64, .int .i64]) it E33 (bodyOf Tryd.f33) Tryd.f33.results.toList (encA [.Rules, .Driver, .int .i64] (u, d, at_, ())) = pLeft' it u d at_ := by kernel_rfl
def sp33 : FnSpec iseat.toSeat := mkSpec iseat.toSeat 33 [.Rules, .Driver, .int .i64] [.int .i64, .int .i64] true (fun a => pLeft a.1 a.2.1 a.2.2.1) (fun a x hx h h' => fn_contract (Z := iseat) (ats := [.Rules, .Driver, .int .i64]) (ts := [.int .i64, .int .i64]) (E := E33) (fn := Tryd.f33) (c := bodyOf Tryd.f33) Tryd.func33 (by kernel_rfl) (by kernel_rfl) (by kernel_rfl) (by kernel_rfl) rfl ((e33 itN a.1 a.2.1 a.2.2.1).trans ((pLeft_eq a.1 a.2.1 a.2.2.1).symm.trans hx)) h h') (fun _ x => rfl)
def awake' (it : It Bool)  : Option Bool :=
  (rules).bind fun r =>
  (ann).bind fun r2 =>
  (pLegal r r2).bind fun r3 =>
  (rules).bind fun r4 =>
  (exact [0, 4]).bind fun r5 =>
  (pLeft r4 r5 6).bind fun r6 =>
  (pWeigh (⟨20, 10000⟩ : Scale) 1000).bind fun r7 =>
  bif (r3.2.2.2 == 0) then
    bif (r6.2 == 0) then
      bif (r7.2 == 0) then
        bif (r3.1 == 3) then
          bif (r3.2.1 == 1) then
            bif (r3.2.2.1 == 5) then
              bif (r6.1 == 2) then
                (span 971 1030).bind fun r8 =>
                some (decide (r7.1.Lo = r8.Lo) && (decide (r7.1.Hi = r8.Hi) && true))
              else
                some false
            else
              some false
          else
            some false
        else
          some false
      else
        some false
    else
      some false
  else
    some false
def awake : Option Bool := opq (awake' itN)
theorem awake_eq  : awake  = awake' itN  := by unfold awake; rw [opq_eq]
def E15 : FEnv iseat := ⟨⟨60, [sp53, sp54, sp21, sp55, sp33, sp40, sp56], [], [], [], [], [], [], [], [], [], [19], [], true⟩, []⟩
theorem e15 (it : It Bool)  : fnRun (ts := [.bool]) it E15 (bodyOf Tryd.f15) Tryd.f15.results.toList (encA [] (())) = awake' it  := by kernel_rfl
def sp15 : FnSpec iseat.toSeat := mkSpec iseat.toSeat 15 [] [.bool] true (fun a => awake ) (fun a x hx h h' => fn_contract (Z := iseat) (ats := []) (ts := [.bool]) (E := E15) (fn := Tryd.f15) (c := bodyOf Tryd.f15) Tryd.func15 (by kernel_rfl) (by kernel_rfl) (by kernel_rfl) (by kernel_rfl) rfl ((e15 itN ).trans ((awake_eq ).symm.trans hx)) h h') (fun _ x => rfl)
def drives_L2 (d : Driver) (minute : Int) (i : Int) (kn_ : Int → Option Bool) : Option Bool :=
  bif (decide (i < (d.Turns.length : Int))) then
    chk (decide (0 ≤ i) && decide (i < (d.Turns.length : Int))) <|
    bif (decide (minute ≥ (d.Turns.getD i.toNat dfltTurn).From.Lo)) then
      chk (decide (0 ≤ i) && decide (i < (d.Turns.length : Int))) <|
      bif (decide (minute < (d.Turns.getD i.toNat dfltTurn).To.Lo)) then
        some true
      else
        kn_ (w64 (i + 1))
    else
      kn_ (w64 (i + 1))
  else
    some false
def drives' (it : It Bool) (d : Driver) (minute : Int) : Option Bool :=
  it _ (fun (v_0 : (Unit × Int × Unit) × (Unit)) kn => drives_L2 d minute v_0.1.2.1 (fun y0 => kn (((), y0, ()), (())))) (((), 0, ()), (()))
def drives : Driver → Int → Option Bool := opq (fun d minute => drives' itN d minute)
def pCheckDrivers_L4 (l : List Driver) (x11 : Int) (kn_ : Int → Option Int) : Option Int :=
  bif (decide (x11 < (l.length : Int))) then
    chk (decide (0 ≤ x11) && decide (x11 < (l.length : Int))) <|
    (pCheck (l.getD x11.toNat dfltDriver)).bind fun r =>
    bif (r != 0) then
      some r
    else
      kn_ (w64 (x11 + 1))
  else
    some 0
def pCheckDrivers' (it : It Int) (l : List Driver) : Option Int :=
  bif (decide ((l.length : Int) > 4)) then
    some 8
  else
    it _ (fun (v_0 : (Int × Unit) × (Unit)) kn => pCheckDrivers_L4 l v_0.1.1 (fun y0 => kn ((y0, ()), (())))) ((0, ()), (()))
def pCheckDrivers : (List Driver) → Option Int := opq (fun l => pCheckDrivers' itN l)
theorem pCheckDrivers_eq (l : List Driver) : pCheckDrivers l = pCheckDrivers' itN l := by unfold pCheckDrivers; rw [opq_eq]
def E84 : FEnv iseat := ⟨⟨21, [sp25], [], [], [], [], [], [], [], [], [], [], [], true⟩, [(4, ⟨⟨[(11, .v (.int .i64))], []⟩, [9, 10], [], []⟩)]⟩
theorem e84 (it : It Int) (l : List Driver) : fnRun (ts := [.int .i64]) it E84 (bodyOf Tryd.f84) Tryd.f84.results.toList (encA [.sl .Driver] (l, ())) = pCheckDrivers' it l := by kernel_rfl
def sp84 : FnSpec iseat.toSeat := mkSpec iseat.toSeat 84 [.sl .Driver] [.int .i64] true (fun a => pCheckDrivers a.1) (fun a x hx h h' => fn_contract (Z := iseat) (ats := [.sl .Driver]) (ts := [.int .i64]) (E := E84) (fn := Tryd.f84) (c := bodyOf Tryd.f84) Tryd.func84 (by kernel_rfl) (by kernel_rfl) (by kernel_rfl) (by kernel_rfl) rfl ((e84 itN a.1).trans ((pCheckDrivers_eq a.1).symm.trans hx)) h h') (fun _ x => rfl)
def pCheckHauls_L4 (l : List Haul) (x10 : Int) (kn_ : Int → Option Int) : Option Int :=
  bif (decide (x10 < (l.length : Int))) then
    chk (decide (0 ≤ x10) && decide (x10 < (l.length : Int))) <|
    (within ((l.getD x10.toNat dfltHaul).From) 0 3000).bind fun r =>
    bif (!r) then
      some 2
    else
      (within ((l.getD x10.toNat dfltHaul).Long) 1 3000).bind fun r2 =>
      bif (!r2) then
        some 2
      else
        bif (decide ((w64 ((l.getD x10.toNat dfltHaul).From + (l.getD x10.toNat dfltHaul).Long)) > 3000)) then
          some 2
        else
          (within ((l.getD x10.toNat dfltHaul).Skills) 0 255).bind fun r3 =>
          bif (!r3) then
            some 2
          else
            kn_ (w64 (x10 + 1))
  else
    some 0
def pCheckHauls' (it : It Int) (l : List Haul) : Option Int :=
  bif (decide ((l.length : Int) > 5)) then
    some 8
  else
    it _ (fun (v_0 : (Int × Unit) × (Unit)) kn => pCheckHauls_L4 l v_0.1.1 (fun y0 => kn ((y0, ()), (())))) ((0, ()), (()))
def pCheckHauls : (List Haul) → Option Int := opq (fun l => pCheckHauls' itN l)
theorem pCheckHauls_eq (l : List Haul) : pCheckHauls l = pCheckHauls' itN l := by unfold pCheckHauls; rw [opq_eq]
def E85 : FEnv iseat := ⟨⟨39, [sp66], [], [], [], [], [], [], [], [], [], [], [], true⟩, [(4, ⟨⟨[(10, .v (.int .i64))], []⟩, [8, 9], [], []⟩)]⟩
theorem e85 (it : It Int) (l : List Haul) : fnRun (ts := [.int .i64]) it E85 (bodyOf Tryd.f85) Tryd.f85.results.toList (encA [.sl .Haul] (l, ())) = pCheckHauls' it l := by kernel_rfl
def sp85 : FnSpec iseat.toSeat := mkSpec iseat.toSeat 85 [.sl .Haul] [.int .i64] true (fun a => pCheckHauls a.1) (fun a x hx h h' => fn_contract (Z := iseat) (ats := [.sl .Haul]) (ts := [.int .i64]) (E := E85) (fn := Tryd.f85) (c := bodyOf Tryd.f85) Tryd.func85 (by kernel_rfl) (by kernel_rfl) (by kernel_rfl) (by kernel_rfl) rfl ((e85 itN a.1).trans ((pCheckHauls_eq a.1).symm.trans hx)) h h') (fun _ x => rfl)
def CrewOf_L4 (turns : Int) (out : List Driver) (i : Int) (s_word : Int) (kn_ : (List Driver) → Int → Int → Option (Seed × List Driver)) : Option (Seed × List Driver) :=
  bif (decide (i > 0)) then
    chk (decide (0 ≤ ((out.length : Int).tmod 4)) && decide (((out.length : Int).tmod 4) < ([(⟨#[97, 110, 110]⟩ : ByteArray), (⟨#[98, 111, 98]⟩ : ByteArray), (⟨#[99, 97, 116]⟩ : ByteArray), (⟨#[100, 97, 110]⟩ : ByteArray)].length : Int))) <|
    chk (decide (((out.length : Int).tmod 4).toNat < [(⟨#[97, 110, 110]⟩ : ByteArray), (⟨#[98, 111, 98]⟩ : ByteArray), (⟨#[99, 97, 116]⟩ : ByteArray), (⟨#[100, 97, 110]⟩ : ByteArray)].length)) <|
    (DriverOf (⟨s_word⟩ : Seed) ([(⟨#[97, 110, 110]⟩ : ByteArray), (⟨#[98, 111, 98]⟩ : ByteArray), (⟨#[99, 97, 116]⟩ : ByteArray), (⟨#[100, 97, 110]⟩ : ByteArray)].getD ((out.length : Int).tmod 4).toNat ⟨#[]⟩) turns).bind fun r2 =>
    chk (fitA (out.length + ([r2.2] : List Driver).length) 48) <|
    kn_ (out ++ ([r2.2] : List Driver)) (w64 (i - 1)) r2.1.word
  else
    some ((⟨s_word⟩ : Seed), out)
def CrewOf' (it : It (Seed × List Driver)) (s : Seed) (most_ : Int) (turns : Int) : Option (Seed × List Driver) :=
  (Below s (w64 (most_ + 1))).bind fun r =>
  it _ (fun (v_0 : (Unit × Unit × (List Driver) × Int × Unit) × ((Int × Unit) × Unit)) kn => CrewOf_L4 turns v_0.1.2.2.1 v_0.1.2.2.2.1 v_0.2.1.1 (fun y0 y1 y2 => kn (((), (), y0, y1, ()), ((y2, ()), ())))) (((), (), ([] : List Driver), r.2, ()), ((r.1.word, ()), ()))
def CrewOf : Seed → Int → Int → Option (Seed × List Driver) := opq (fun s most_ turns => CrewOf' itN s most_ turns)
theorem CrewOf_eq (s : Seed) (most_ : Int) (turns : Int) : CrewOf s most_ turns = CrewOf' itN s most_ turns := by unfold CrewOf; rw [opq_eq]
def E46 : FEnv iseat := ⟨⟨32, [], [sp20, sp18], [], [], [], [], [], [], [], [], [29], [0], true⟩, [(4, ⟨⟨[(0, .bx 0 0), (7, .osr 10), (8, .os 8 26 .Driver), (9, .v (.int .i64))], [(0, [.v (.int .u64)])]⟩, [2], [10], []⟩)]⟩
theorem e46 (it : It (Seed × List Driver)) (s : Seed) (most_ : Int) (turns : Int) : fnRunR (bt := .Seed) (ts := [.sl .Driver]) it E46 (bodyOf Tryd.f46) Tryd.f46.results.toList (encC .Seed s) (encA [.int .i64, .int .i64] (most_, turns, ())) = CrewOf' it s most_ turns := by kernel_rfl
def sp46 : FnSpecR iseat.toSeat := mkSpecR iseat.toSeat 46 .Seed [.int .i64, .int .i64] [.sl .Driver] (fun b a => CrewOf b a.1 a.2.1) (fun b a y x hx h => fn_contractR (Z := iseat) (bt := .Seed) (ats := [.int .i64, .int .i64]) (ts := [.sl .Driver]) (E := E46) (fn := Tryd.f46) (c := bodyOf Tryd.f46) Tryd.func46 (by kernel_rfl) (by kernel_rfl) (by kernel_rfl) (by kernel_rfl) rfl ((e46 itN b a.1 a.2.1).trans ((CrewOf_eq b a.1 a.2.1).symm.trans hx)) h)
def HaulsOf_L3 (out : List Haul) (i : Int) (s_word : Int) (kn_ : (List Haul) → Int → Int → Option (Seed × List Haul)) : Option (Seed × List Haul) :=
  bif (decide (i > 0)) then
    (Below (⟨s_word⟩ : Seed) 120).bind fun r2 =>
    (From r2.1 1 20).bind fun r3 =>
    (Below r3.1 8).bind fun r4 =>
    (Of r4.1 [0, 1, r4.2]).bind fun r5 =>
    chk (fitA (out.length + ([(⟨r2.2, r3.2, r5.2⟩ : Haul)] : List Haul).length) 24) <|
    kn_ (out ++ ([(⟨r2.2, r3.2, r5.2⟩ : Haul)] : List Haul)) (w64 (i - 1)) r5.1.word
  else
    some ((⟨s_word⟩ : Seed), out)
def HaulsOf' (it : It (Seed × List Haul)) (s : Seed) (most_ : Int) : Option (Seed × List Haul) :=
  (Below s (w64 (most_ + 1))).bind fun r =>
  it _ (fun (v_0 : (Unit × (List Haul) × Int × Unit) × ((Int × Unit) × Unit)) kn => HaulsOf_L3 v_0.1.2.1 v_0.1.2.2.1 v_0.2.1.1 (fun y0 y1 y2 => kn (((), y0, y1, ()), ((y2, ()), ())))) (((), ([] : List Haul), r.2, ()), ((r.1.word, ()), ()))
def HaulsOf : Seed → Int → Option (Seed × List Haul) := opq (fun s most_ => HaulsOf' itN s most_)
theorem HaulsOf_eq (s : Seed) (most_ : Int) : HaulsOf s most_ = HaulsOf' itN s most_ := by unfold HaulsOf; rw [opq_eq]
def E47 : FEnv iseat := ⟨⟨29, [], [sp20, sp30, sp37], [], [], [], [], [], [], [], [], [23, 26], [0], true⟩, [(3, ⟨⟨[(0, .bx 0 0), (5, .os 5 84 .Haul), (6, .v (.int .i64))], [(0, [.v (.int .u64)])]⟩, [], [], []⟩)]⟩
theorem e47 (it : It (Seed × List Haul)) (s : Seed) (most_ : Int) : fnRunR (bt := .Seed) (ts := [.sl .Haul]) it E47 (bodyOf Tryd.f47) Tryd.f47.results.toList (encC .Seed s) (encA [.int .i64] (most_, ())) = HaulsOf' it s most_ := by kernel_rfl
def sp47 : FnSpecR iseat.toSeat := mkSpecR iseat.toSeat 47 .Seed [.int .i64] [.sl .Haul] (fun b a => HaulsOf b a.1) (fun b a y x hx h => fn_contractR (Z := iseat) (bt := .Seed) (ats := [.int .i64]) (ts := [.sl .Haul]) (E := E47) (fn := Tryd.f47) (c := bodyOf Tryd.f47) Tryd.func47 (by kernel_rfl) (by kernel_rfl) (by kernel_rfl) (by kernel_rfl) rfl ((e47 itN b a.1).trans ((HaulsOf_eq b a.1).symm.trans hx)) h)
end
end Go.Proofs.Crew
namespace Go.Proofs.Crew
open Go Go.Ab
open Go.Proofs.YthmgcjmoiilggaaDoor (iseat)
set_option linter.all false
set_option maxRecDepth 100000
noncomputable section
end
end Go.Proofs.Crew
namespace Go.Ab
open Go Go.RowKit
set_option linter.all false
def Ok {α : Type} (P : α → Prop) (x : Option α) : Prop := ∃ a, x = some a ∧ P a
section
variable {α β : Type} {P : α → Prop} {Q : β → Prop}
theorem Ok.some {a : α} (h : P a) : Ok P (some a) := ⟨a, rfl, h⟩
theorem Ok.bind {x : Option α} {f : α → Option β} (hx : Ok P x) (hf : ∀ a, P a → Ok Q (f a)) : Ok Q (x.bind f) := by
  obtain ⟨a, rfl, ha⟩ := hx
  exact hf a ha
theorem Ok.mono {P' : α → Prop} {x : Option α} (hx : Ok P x) (h : ∀ a, P a → P' a) : Ok P' x := by
  obtain ⟨a, rfl, ha⟩ := hx
  exact ⟨a, rfl, h a ha⟩
theorem Ok.chk {b : Bool} {x : Option α} (hb : b = true) (hx : Ok P x) : Ok P (chk b x) := by subst hb; exact hx
theorem Ok.ite {c : Bool} {x y : Option α} (hx : c = true → Ok P x) (hy : c = false → Ok P y) : Ok P (bif c then x else y) := by
  cases c with
  | true => exact hx rfl
  | false => exact hy rfl
theorem Ok.rounds {γ : Type} {F : γ → (γ → Option α) → Option α} {v0 : γ} (inv : γ → Prop) (μ : γ → Nat) (hμ : μ v0 < FUEL) (h0 : inv v0)
    (step : ∀ v kn, inv v → (∀ v', inv v' → μ v' < μ v → Ok P (kn v')) → Ok P (F v kn)) : Ok P (itN γ F v0) := by
  have key : ∀ n v, inv v → μ v < n → Ok P (iter F n v) := by
    intro n
    induction n with
    | zero => intro v _ h; omega
    | succ n ih =>
      intro v hv hn
      exact step v (iter F n) hv fun v' hv' hlt => ih v' hv' (by omega)
  exact key FUEL v0 h0 hμ
end
theorem w64_id {n : Int} (h1 : -9223372036854775808 ≤ n) (h2 : n ≤ 9223372036854775807) : w64 n = n := by
  unfold w64 IntKind.wrap
  simp [IntKind.bits, IntKind.signed, Int.bmod_def]
  omega
end Go.Ab
