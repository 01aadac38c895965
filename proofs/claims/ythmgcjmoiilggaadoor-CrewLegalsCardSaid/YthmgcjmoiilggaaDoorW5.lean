/- Walks by computing: what each function of the program that the laws reach gives for what it gets, as plain Lean, and that it is so; without a condition but those that stand in each theorem. -/
import Derived.Test.YthmgcjmoiilggaaDoorW1
import Derived.Test.YthmgcjmoiilggaaDoorW2
import Derived.Test.YthmgcjmoiilggaaDoorW3
import Derived.Test.YthmgcjmoiilggaaDoorW4
set_option linter.all false
/- The crew, part 5: whole answers. Written out by gen2.py (ours). -/
namespace Go.Proofs.Crew
open Go Go.Ab
open Go.Proofs.YthmgcjmoiilggaaDoor (iseat)
set_option linter.all false
set_option maxRecDepth 100000
noncomputable section
def pCheck_L10 (d : Driver) (x33 : Int) (kn_ : Int → Option Int) : Option Int :=
  bif (decide (x33 < (d.Turns.length : Int))) then
    chk (decide (0 ≤ x33) && decide (x33 < (d.Turns.length : Int))) <|
    (moment ((d.Turns.getD x33.toNat dfltTurn).From)).bind fun r2 =>
    bif (r2 != 0) then
      some r2
    else
      (moment ((d.Turns.getD x33.toNat dfltTurn).To)).bind fun r3 =>
      bif (r3 != 0) then
        some r3
      else
        bif (decide ((d.Turns.getD x33.toNat dfltTurn).From.Hi > (d.Turns.getD x33.toNat dfltTurn).To.Lo)) then
          some 11
        else
          bif (decide (x33 > 0)) then
            chk (decide (0 ≤ (w64 (x33 - 1))) && decide ((w64 (x33 - 1)) < (d.Turns.length : Int))) <|
            bif (decide ((d.Turns.getD x33.toNat dfltTurn).From.Lo < (d.Turns.getD (w64 (x33 - 1)).toNat dfltTurn).To.Hi)) then
              some 12
            else
              kn_ (w64 (x33 + 1))
          else
            kn_ (w64 (x33 + 1))
  else
    some 0
def pCheck_L10__2 (d : Driver) (x332 : Int) (kn_2 : Int → Option Int) : Option Int :=
  bif (decide (x332 < (d.Turns.length : Int))) then
    chk (decide (0 ≤ x332) && decide (x332 < (d.Turns.length : Int))) <|
    (moment ((d.Turns.getD x332.toNat dfltTurn).From)).bind fun r5 =>
    bif (r5 != 0) then
      some r5
    else
      (moment ((d.Turns.getD x332.toNat dfltTurn).To)).bind fun r6 =>
      bif (r6 != 0) then
        some r6
      else
        bif (decide ((d.Turns.getD x332.toNat dfltTurn).From.Hi > (d.Turns.getD x332.toNat dfltTurn).To.Lo)) then
          some 11
        else
          bif (decide (x332 > 0)) then
            chk (decide (0 ≤ (w64 (x332 - 1))) && decide ((w64 (x332 - 1)) < (d.Turns.length : Int))) <|
            bif (decide ((d.Turns.getD x332.toNat dfltTurn).From.Lo < (d.Turns.getD (w64 (x332 - 1)).toNat dfltTurn).To.Hi)) then
              some 12
            else
              kn_2 (w64 (x332 + 1))
          else
            kn_2 (w64 (x332 + 1))
  else
    some 0
def pCheck_L10__3 (d : Driver) (x333 : Int) (kn_3 : Int → Option Int) : Option Int :=
  bif (decide (x333 < (d.Turns.length : Int))) then
    chk (decide (0 ≤ x333) && decide (x333 < (d.Turns.length : Int))) <|
    (moment ((d.Turns.getD x333.toNat dfltTurn).From)).bind fun r9 =>
    bif (r9 != 0) then
      some r9
    else
      (moment ((d.Turns.getD x333.toNat dfltTurn).To)).bind fun r10 =>
      bif (r10 != 0) then
        some r10
      else
        bif (decide ((d.Turns.getD x333.toNat dfltTurn).From.Hi > (d.Turns.getD x333.toNat dfltTurn).To.Lo)) then
          some 11
        else
          bif (decide (x333 > 0)) then
            chk (decide (0 ≤ (w64 (x333 - 1))) && decide ((w64 (x333 - 1)) < (d.Turns.length : Int))) <|
            bif (decide ((d.Turns.getD x333.toNat dfltTurn).From.Lo < (d.Turns.getD (w64 (x333 - 1)).toNat dfltTurn).To.Hi)) then
              some 12
            else
              kn_3 (w64 (x333 + 1))
          else
            kn_3 (w64 (x333 + 1))
  else
    some 0
def pCheck' (it : It Int) (d : Driver) : Option Int :=
  bif (decide ((d.Name.size : Int) < 1)) then
    bif (decide ((d.Name.size : Int) < 1)) then
      some 3
    else
      (within d.Skills 0 255).bind fun r =>
      bif (!r) then
        some 2
      else
        bif (decide ((d.Turns.length : Int) > 20)) then
          some 8
        else
          it _ (fun (v_0 : (Unit × Int × Unit) × (Unit)) kn => pCheck_L10 d v_0.1.2.1 (fun y0 => kn (((), y0, ()), (())))) (((), 0, ()), (()))
  else
    bif (decide ((d.Name.size : Int) > 8)) then
      bif (decide ((d.Name.size : Int) > 8)) then
        some 3
      else
        (within d.Skills 0 255).bind fun r4 =>
        bif (!r4) then
          some 2
        else
          bif (decide ((d.Turns.length : Int) > 20)) then
            some 8
          else
            it _ (fun (v_0 : (Unit × Int × Unit) × (Unit)) kn => pCheck_L10__2 d v_0.1.2.1 (fun y0 => kn (((), y0, ()), (())))) (((), 0, ()), (()))
    else
      (trim d.Name (⟨#[97, 98, 99, 100, 101, 102, 103, 104, 105, 106, 107, 108, 109, 110, 111, 112, 113, 114, 115, 116, 117, 118, 119, 120, 121, 122]⟩ : ByteArray)).bind fun r7 =>
      bif (!(r7.toList == (⟨#[]⟩ : ByteArray).toList)) then
        some 3
      else
        (within d.Skills 0 255).bind fun r8 =>
        bif (!r8) then
          some 2
        else
          bif (decide ((d.Turns.length : Int) > 20)) then
            some 8
          else
            it _ (fun (v_0 : (Unit × Int × Unit) × (Unit)) kn => pCheck_L10__3 d v_0.1.2.1 (fun y0 => kn (((), y0, ()), (())))) (((), 0, ()), (()))
def pCheck : Driver → Option Int := opq (fun d => pCheck' itN d)
theorem pCheck_eq (d : Driver) : pCheck d = pCheck' itN d := by unfold pCheck; rw [opq_eq]
def E25 : FEnv iseat := ⟨⟨76, [sp66, sp69, sp68], [], [], [], [], [], [], [], true⟩, [(10, ⟨⟨[(1, .bx 1 0), (33, .v (.int .i64))], []⟩, [31, 32], [1]⟩)]⟩
theorem e25 (it : It Int) (d : Driver) : fnRun (ts := [.int .i64]) it E25 (bodyOf Tryd.f25) Tryd.f25.results.toList (encA [.Driver] (d, ())) = pCheck' it d := by kernel_rfl
def sp25 : FnSpec iseat.toSeat := mkSpec iseat.toSeat 25 [.Driver] [.int .i64] true (fun a => pCheck a.1) (fun a x hx h h' => fn_contract (Z := iseat) (ats := [.Driver]) (ts := [.int .i64]) (E := E25) (fn := Tryd.f25) (c := bodyOf Tryd.f25) Tryd.func25 (by kernel_rfl) (by kernel_rfl) (by kernel_rfl) (by kernel_rfl) rfl ((e25 itN a.1).trans ((pCheck_eq a.1).symm.trans hx)) h h') (fun _ x => rfl)
def named_L2 (s : ByteArray) (i : Int) (kn_ : Int → Option Bool) : Option Bool :=
  bif (decide (i < (s.size : Int))) then
    chk (decide (0 ≤ i)) <|
    byteAt s i.toNat fun b =>
    bif (decide (b < 97)) then
      some false
    else
      chk (decide (0 ≤ i)) <|
      byteAt s i.toNat fun b2 =>
      bif (decide (b2 > 122)) then
        some false
      else
        kn_ (w64 (i + 1))
  else
    bif (decide ((s.size : Int) ≥ 1)) then
      some (decide ((s.size : Int) ≤ 8))
    else
      some false
def named' (it : It Bool) (s : ByteArray) : Option Bool :=
  it _ (fun (v_0 : (Int × Unit) × (Unit)) kn => named_L2 s v_0.1.1 (fun y0 => kn ((y0, ()), (())))) ((0, ()), (()))
def named : ByteArray → Option Bool := opq (fun s => named' itN s)
theorem named_eq (s : ByteArray) : named s = named' itN s := by unfold named; rw [opq_eq]
def E70 : FEnv iseat := ⟨⟨28, [], [], [], [], [], [], [], [], true⟩, [(2, ⟨⟨[(3, .v (.int .i64))], []⟩, [0], []⟩)]⟩
theorem e70 (it : It Bool) (s : ByteArray) : fnRun (ts := [.bool]) it E70 (bodyOf Tryd.f70) Tryd.f70.results.toList (encA [.str] (s, ())) = named' it s := by kernel_rfl
def sp70 : FnSpec iseat.toSeat := mkSpec iseat.toSeat 70 [.str] [.bool] true (fun a => named a.1) (fun a x hx h h' => fn_contract (Z := iseat) (ats := [.str]) (ts := [.bool]) (E := E70) (fn := Tryd.f70) (c := bodyOf Tryd.f70) Tryd.func70 (by kernel_rfl) (by kernel_rfl) (by kernel_rfl) (by kernel_rfl) rfl ((e70 itN a.1).trans ((named_eq a.1).symm.trans hx)) h h') (fun _ x => rfl)
def rCheck_L8 (d : Driver) (i : Int) (kn_ : Int → Option Int) : Option Int :=
  bif (decide (i < (d.Turns.length : Int))) then
    chk (decide (0 ≤ i) && decide (i < (d.Turns.length : Int))) <|
    (rCheckSpan ((d.Turns.getD i.toNat dfltTurn).From)).bind fun r3 =>
    bif (r3 != 0) then
      some r3
    else
      (rCheckSpan ((d.Turns.getD i.toNat dfltTurn).To)).bind fun r4 =>
      bif (r4 != 0) then
        some r4
      else
        bif (decide ((d.Turns.getD i.toNat dfltTurn).From.Hi > (d.Turns.getD i.toNat dfltTurn).To.Lo)) then
          some 11
        else
          bif (decide (i > 0)) then
            chk (decide (0 ≤ (w64 (i - 1))) && decide ((w64 (i - 1)) < (d.Turns.length : Int))) <|
            bif (decide ((d.Turns.getD i.toNat dfltTurn).From.Lo < (d.Turns.getD (w64 (i - 1)).toNat dfltTurn).To.Hi)) then
              some 12
            else
              kn_ (w64 (i + 1))
          else
            kn_ (w64 (i + 1))
  else
    some 0
def rCheck' (it : It Int) (d : Driver) : Option Int :=
  (named d.Name).bind fun r =>
  bif (!r) then
    some 3
  else
    (outside d.Skills 0 255).bind fun r2 =>
    bif r2 then
      some 2
    else
      bif (decide ((d.Turns.length : Int) > 20)) then
        some 8
      else
        it _ (fun (v_0 : (Unit × Int × Unit) × (Unit)) kn => rCheck_L8 d v_0.1.2.1 (fun y0 => kn (((), y0, ()), (())))) (((), 0, ()), (()))
def rCheck : Driver → Option Int := opq (fun d => rCheck' itN d)
theorem rCheck_eq (d : Driver) : rCheck d = rCheck' itN d := by unfold rCheck; rw [opq_eq]
def E26 : FEnv iseat := ⟨⟨65, [sp70, sp67, sp71], [], [], [], [], [], [], [], true⟩, [(8, ⟨⟨[(1, .bx 1 0), (3, .v (.int .i64))], []⟩, [], [1]⟩)]⟩
theorem e26 (it : It Int) (d : Driver) : fnRun (ts := [.int .i64]) it E26 (bodyOf Tryd.f26) Tryd.f26.results.toList (encA [.Driver] (d, ())) = rCheck' it d := by kernel_rfl
def sp26 : FnSpec iseat.toSeat := mkSpec iseat.toSeat 26 [.Driver] [.int .i64] true (fun a => rCheck a.1) (fun a x hx h h' => fn_contract (Z := iseat) (ats := [.Driver]) (ts := [.int .i64]) (E := E26) (fn := Tryd.f26) (c := bodyOf Tryd.f26) Tryd.func26 (by kernel_rfl) (by kernel_rfl) (by kernel_rfl) (by kernel_rfl) rfl ((e26 itN a.1).trans ((rCheck_eq a.1).symm.trans hx)) h h') (fun _ x => rfl)
def checkShift' (it : It Int) (u : Rules) (d : Driver) : Option Int :=
  (pCheckRules u).bind fun r =>
  bif (r != 0) then
    some r
  else
    (pCheck d).bind fun r2 =>
    some r2
def checkShift : Rules → Driver → Option Int := opq (fun u d => checkShift' itN u d)
theorem checkShift_eq (u : Rules) (d : Driver) : checkShift u d = checkShift' itN u d := by unfold checkShift; rw [opq_eq]
def E58 : FEnv iseat := ⟨⟨13, [sp23, sp25], [], [], [], [], [], [], [], true⟩, []⟩
theorem e58 (it : It Int) (u : Rules) (d : Driver) : fnRun (ts := [.int .i64]) it E58 (bodyOf Tryd.f58) Tryd.f58.results.toList (encA [.Rules, .Driver] (u, d, ())) = checkShift' it u d := by kernel_rfl
def sp58 : FnSpec iseat.toSeat := mkSpec iseat.toSeat 58 [.Rules, .Driver] [.int .i64] true (fun a => checkShift a.1 a.2.1) (fun a x hx h h' => fn_contract (Z := iseat) (ats := [.Rules, .Driver]) (ts := [.int .i64]) (E := E58) (fn := Tryd.f58) (c := bodyOf Tryd.f58) Tryd.func58 (by kernel_rfl) (by kernel_rfl) (by kernel_rfl) (by kernel_rfl) rfl ((e58 itN a.1 a.2.1).trans ((checkShift_eq a.1 a.2.1).symm.trans hx)) h h') (fun _ x => rfl)
def checkBoth' (it : It Int) (u : Rules) (d : Driver) : Option Int :=
  (rCheckRules u).bind fun r =>
  bif (r != 0) then
    some r
  else
    (rCheck d).bind fun r2 =>
    some r2
def checkBoth : Rules → Driver → Option Int := opq (fun u d => checkBoth' itN u d)
theorem checkBoth_eq (u : Rules) (d : Driver) : checkBoth u d = checkBoth' itN u d := by unfold checkBoth; rw [opq_eq]
def E62 : FEnv iseat := ⟨⟨13, [sp24, sp26], [], [], [], [], [], [], [], true⟩, []⟩
theorem e62 (it : It Int) (u : Rules) (d : Driver) : fnRun (ts := [.int .i64]) it E62 (bodyOf Tryd.f62) Tryd.f62.results.toList (encA [.Rules, .Driver] (u, d, ())) = checkBoth' it u d := by kernel_rfl
def sp62 : FnSpec iseat.toSeat := mkSpec iseat.toSeat 62 [.Rules, .Driver] [.int .i64] true (fun a => checkBoth a.1 a.2.1) (fun a x hx h h' => fn_contract (Z := iseat) (ats := [.Rules, .Driver]) (ts := [.int .i64]) (E := E62) (fn := Tryd.f62) (c := bodyOf Tryd.f62) Tryd.func62 (by kernel_rfl) (by kernel_rfl) (by kernel_rfl) (by kernel_rfl) rfl ((e62 itN a.1 a.2.1).trans ((checkBoth_eq a.1 a.2.1).symm.trans hx)) h h') (fun _ x => rfl)
def checkMore' (it : It Int) (u : Rules) (d : Driver) (at_ : Int) (long : Int) : Option Int :=
  (checkBoth u d).bind fun r =>
  bif (r != 0) then
    some r
  else
    (outside at_ 0 3000).bind fun r2 =>
    bif r2 then
      some 2
    else
      (outside long 0 (w64 (3000 - at_))).bind fun r3 =>
      bif r3 then
        some 2
      else
        bif ((d.Turns.length : Int) == 20) then
          some 8
        else
          some 0
def checkMore : Rules → Driver → Int → Int → Option Int := opq (fun u d at_ long => checkMore' itN u d at_ long)
theorem checkMore_eq (u : Rules) (d : Driver) (at_ : Int) (long : Int) : checkMore u d at_ long = checkMore' itN u d at_ long := by unfold checkMore; rw [opq_eq]
def E76 : FEnv iseat := ⟨⟨28, [sp62, sp67], [], [], [], [], [], [], [], true⟩, []⟩
theorem e76 (it : It Int) (u : Rules) (d : Driver) (at_ : Int) (long : Int) : fnRun (ts := [.int .i64]) it E76 (bodyOf Tryd.f76) Tryd.f76.results.toList (encA [.Rules, .Driver, .int .i64, .int .i64] (u, d, at_, long, ())) = checkMore' it u d at_ long := by kernel_rfl
def sp76 : FnSpec iseat.toSeat := mkSpec iseat.toSeat 76 [.Rules, .Driver, .int .i64, .int .i64] [.int .i64] true (fun a => checkMore a.1 a.2.1 a.2.2.1 a.2.2.2.1) (fun a x hx h h' => fn_contract (Z := iseat) (ats := [.Rules, .Driver, .int .i64, .int .i64]) (ts := [.int .i64]) (E := E76) (fn := Tryd.f76) (c := bodyOf Tryd.f76) Tryd.func76 (by kernel_rfl) (by kernel_rfl) (by kernel_rfl) (by kernel_rfl) rfl ((e76 itN a.1 a.2.1 a.2.2.1 a.2.2.2.1).trans ((checkMore_eq a.1 a.2.1 a.2.2.1 a.2.2.2.1).symm.trans hx)) h h') (fun _ x => rfl)
def pLegal' (it : It (Int × Int × Int × Int)) (u : Rules) (d : Driver) : Option (Int × Int × Int × Int) :=
  (checkShift u d).bind fun r =>
  bif (r != 0) then
    some (0, 0, 0, r)
  else
    (brokenL (⟨d, u⟩ : Shift) (⟨d, u⟩ : Shift)).bind fun r2 =>
    (pVerdict (⟨d, u⟩ : Shift)).bind fun r3 =>
    some (r3, r2.1, r2.2, 0)
def pLegal : Rules → Driver → Option (Int × Int × Int × Int) := opq (fun u d => pLegal' itN u d)
theorem pLegal_eq (u : Rules) (d : Driver) : pLegal u d = pLegal' itN u d := by unfold pLegal; rw [opq_eq]
def E21 : FEnv iseat := ⟨⟨30, [sp58, sp59, sp61], [], [], [], [], [], [], [], true⟩, []⟩
theorem e21 (it : It (Int × Int × Int × Int)) (u : Rules) (d : Driver) : fnRun (ts := [.int .i64, .int .i64, .int .i64, .int .i64]) it E21 (bodyOf Tryd.f21) Tryd.f21.results.toList (encA [.Rules, .Driver] (u, d, ())) = pLegal' it u d := by kernel_rfl
def sp21 : FnSpec iseat.toSeat := mkSpec iseat.toSeat 21 [.Rules, .Driver] [.int .i64, .int .i64, .int .i64, .int .i64] true (fun a => pLegal a.1 a.2.1) (fun a x hx h h' => fn_contract (Z := iseat) (ats := [.Rules, .Driver]) (ts := [.int .i64, .int .i64, .int .i64, .int .i64]) (E := E21) (fn := Tryd.f21) (c := bodyOf Tryd.f21) Tryd.func21 (by kernel_rfl) (by kernel_rfl) (by kernel_rfl) (by kernel_rfl) rfl ((e21 itN a.1 a.2.1).trans ((pLegal_eq a.1 a.2.1).symm.trans hx)) h h') (fun _ x => rfl)
def rLegal' (it : It (Int × Int × Int × Int)) (u : Rules) (d : Driver) : Option (Int × Int × Int × Int) :=
  (checkBoth u d).bind fun r =>
  bif (r != 0) then
    some (0, 0, 0, r)
  else
    (Minutes d.Turns true).bind fun r2 =>
    (Broken u r2).bind fun r3 =>
    (rVerdict u d.Turns).bind fun r4 =>
    some (r4, r3.1, r3.2, 0)
def rLegal : Rules → Driver → Option (Int × Int × Int × Int) := opq (fun u d => rLegal' itN u d)
theorem rLegal_eq (u : Rules) (d : Driver) : rLegal u d = rLegal' itN u d := by unfold rLegal; rw [opq_eq]
def E22 : FEnv iseat := ⟨⟨31, [sp62, sp64, sp63, sp65], [], [], [], [], [], [], [], true⟩, []⟩
theorem e22 (it : It (Int × Int × Int × Int)) (u : Rules) (d : Driver) : fnRun (ts := [.int .i64, .int .i64, .int .i64, .int .i64]) it E22 (bodyOf Tryd.f22) Tryd.f22.results.toList (encA [.Rules, .Driver] (u, d, ())) = rLegal' it u d := by kernel_rfl
def sp22 : FnSpec iseat.toSeat := mkSpec iseat.toSeat 22 [.Rules, .Driver] [.int .i64, .int .i64, .int .i64, .int .i64] true (fun a => rLegal a.1 a.2.1) (fun a x hx h h' => fn_contract (Z := iseat) (ats := [.Rules, .Driver]) (ts := [.int .i64, .int .i64, .int .i64, .int .i64]) (E := E22) (fn := Tryd.f22) (c := bodyOf Tryd.f22) Tryd.func22 (by kernel_rfl) (by kernel_rfl) (by kernel_rfl) (by kernel_rfl) rfl ((e22 itN a.1 a.2.1).trans ((rLegal_eq a.1 a.2.1).symm.trans hx)) h h') (fun _ x => rfl)
def pMay' (it : It (Int × Int)) (u : Rules) (d : Driver) (at_ : Int) (long : Int) : Option (Int × Int) :=
  (checkShift u d).bind fun r =>
  bif (r != 0) then
    some (0, r)
  else
    (within at_ 0 3000).bind fun r2 =>
    bif (!r2) then
      bif (!r2) then
        some (0, 2)
      else
        bif ((d.Turns.length : Int) == 20) then
          some (0, 8)
        else
          (pClashes (⟨d, u⟩ : Shift) at_ long).bind fun r3 =>
          bif r3 then
            some (0, 12)
          else
            (more (⟨d, u⟩ : Shift) at_ long).bind fun r4 =>
            (pVerdict r4).bind fun r5 =>
            some (r5, 0)
    else
      (within long 0 (w64 (3000 - at_))).bind fun r6 =>
      bif (!r6) then
        some (0, 2)
      else
        bif ((d.Turns.length : Int) == 20) then
          some (0, 8)
        else
          (pClashes (⟨d, u⟩ : Shift) at_ long).bind fun r7 =>
          bif r7 then
            some (0, 12)
          else
            (more (⟨d, u⟩ : Shift) at_ long).bind fun r8 =>
            (pVerdict r8).bind fun r9 =>
            some (r9, 0)
def pMay : Rules → Driver → Int → Int → Option (Int × Int) := opq (fun u d at_ long => pMay' itN u d at_ long)
theorem pMay_eq (u : Rules) (d : Driver) (at_ : Int) (long : Int) : pMay u d at_ long = pMay' itN u d at_ long := by unfold pMay; rw [opq_eq]
def E31 : FEnv iseat := ⟨⟨45, [sp58, sp66, sp74, sp75, sp61], [], [], [], [], [], [], [], true⟩, []⟩
theorem e31 (it : It (Int × Int)) (u : Rules) (d : Driver) (at_ : Int) (long : Int) : fnRun (ts := [.int .i64, .int .i64]) it E31 (bodyOf Tryd.f31) Tryd.f31.results.toList (encA [.Rules, .Driver, .int .i64, .int .i64] (u, d, at_, long, ())) = pMay' it u d at_ long := by kernel_rfl
def sp31 : FnSpec iseat.toSeat := mkSpec iseat.toSeat 31 [.Rules, .Driver, .int .i64, .int .i64] [.int .i64, .int .i64] true (fun a => pMay a.1 a.2.1 a.2.2.1 a.2.2.2.1) (fun a x hx h h' => fn_contract (Z := iseat) (ats := [.Rules, .Driver, .int .i64, .int .i64]) (ts := [.int .i64, .int .i64]) (E := E31) (fn := Tryd.f31) (c := bodyOf Tryd.f31) Tryd.func31 (by kernel_rfl) (by kernel_rfl) (by kernel_rfl) (by kernel_rfl) rfl ((e31 itN a.1 a.2.1 a.2.2.1 a.2.2.2.1).trans ((pMay_eq a.1 a.2.1 a.2.2.1 a.2.2.2.1).symm.trans hx)) h h') (fun _ x => rfl)
def rMay2' (it : It (Int × Int)) (u : Rules) (d : Driver) (at_ : Int) (long : Int) : Option (Int × Int) :=
  (checkMore u d at_ long).bind fun r =>
  bif (r != 0) then
    some (0, r)
  else
    (rMay u d at_ long).bind fun r2 =>
    some (r2.1, r2.2)
def rMay2 : Rules → Driver → Int → Int → Option (Int × Int) := opq (fun u d at_ long => rMay2' itN u d at_ long)
theorem rMay2_eq (u : Rules) (d : Driver) (at_ : Int) (long : Int) : rMay2 u d at_ long = rMay2' itN u d at_ long := by unfold rMay2; rw [opq_eq]
def E32 : FEnv iseat := ⟨⟨26, [sp76, sp77], [], [], [], [], [], [], [], true⟩, []⟩
theorem e32 (it : It (Int × Int)) (u : Rules) (d : Driver) (at_ : Int) (long : Int) : fnRun (ts := [.int .i64, .int .i64]) it E32 (bodyOf Tryd.f32) Tryd.f32.results.toList (encA [.Rules, .Driver, .int .i64, .int .i64] (u, d, at_, long, ())) = rMay2' it u d at_ long := by kernel_rfl
def sp32 : FnSpec iseat.toSeat := mkSpec iseat.toSeat 32 [.Rules, .Driver, .int .i64, .int .i64] [.int .i64, .int .i64] true (fun a => rMay2 a.1 a.2.1 a.2.2.1 a.2.2.2.1) (fun a x hx h h' => fn_contract (Z := iseat) (ats := [.Rules, .Driver, .int .i64, .int .i64]) (ts := [.int .i64, .int .i64]) (E := E32) (fn := Tryd.f32) (c := bodyOf Tryd.f32) Tryd.func32 (by kernel_rfl) (by kernel_rfl) (by kernel_rfl) (by kernel_rfl) rfl ((e32 itN a.1 a.2.1 a.2.2.1 a.2.2.2.1).trans ((rMay2_eq a.1 a.2.1 a.2.2.1 a.2.2.2.1).symm.trans hx)) h h') (fun _ x => rfl)
def pLeft' (it : It (Int × Int)) (u : Rules) (d : Driver) (at_ : Int) : Option (Int × Int) :=
  (pMay u d at_ 0).bind fun r =>
  bif (r.2 != 0) then
    some (0, r.2)
  else
    (Search (w64 ((w64 (3000 - at_)) + 1)) ((⟨d, u⟩ : Shift), at_)).bind fun r2 =>
    some ((w64 (r2 - 1)), 0)
def pLeft : Rules → Driver → Int → Option (Int × Int) := opq (fun u d at_ => pLeft' itN u d at_)
theorem pLeft_eq (u : Rules) (d : Driver) (at_ : Int) : pLeft u d at_ = pLeft' itN u d at_ := by unfold pLeft; rw [opq_eq]
def E33 : FEnv iseat := ⟨⟨30, [sp31, sp78], [], [], [], [], [], [], [], true⟩, []⟩
theorem e33 (it : It (Int × Int)) (u : Rules) (d : Driver) (at_ : Int) : fnRun (ts := [.int .i64, .int .i64]) it E33 (bodyOf Tryd.f33) Tryd.f33.results.toList (encA [.Rules, .Driver, .int .i64] (u, d, at_, ())) = pLeft' it u d at_ := by kernel_rfl
def sp33 : FnSpec iseat.toSeat := mkSpec iseat.toSeat 33 [.Rules, .Driver, .int .i64] [.int .i64, .int .i64] true (fun a => pLeft a.1 a.2.1 a.2.2.1) (fun a x hx h h' => fn_contract (Z := iseat) (ats := [.Rules, .Driver, .int .i64]) (ts := [.int .i64, .int .i64]) (E := E33) (fn := Tryd.f33) (c := bodyOf Tryd.f33) Tryd.func33 (by kernel_rfl) (by kernel_rfl) (by kernel_rfl) (by kernel_rfl) rfl ((e33 itN a.1 a.2.1 a.2.2.1).trans ((pLeft_eq a.1 a.2.1 a.2.2.1).symm.trans hx)) h h') (fun _ x => rfl)
def rLeft_L6 (at_ : Int) (u : Rules) (d : Driver) (out : Int) (long : Int) (kn_ : Int → Int → Option (Int × Int)) : Option (Int × Int) :=
  bif (decide ((w64 (at_ + long)) ≤ 3000)) then
    (rMay u d at_ long).bind fun r2 =>
    bif (r2.1 == 1) then
      bif (r2.2 == 0) then
        kn_ long (w64 (long + 1))
      else
        kn_ out (w64 (long + 1))
    else
      kn_ out (w64 (long + 1))
  else
    some (out, 0)
def rLeft' (it : It (Int × Int)) (u : Rules) (d : Driver) (at_ : Int) : Option (Int × Int) :=
  (rMay2 u d at_ 0).bind fun r =>
  bif (r.2 != 0) then
    some (0, r.2)
  else
    it _ (fun (v_0 : (Unit × Unit × Int × Int × Unit) × (Unit)) kn => rLeft_L6 at_ u d v_0.1.2.2.1 v_0.1.2.2.2.1 (fun y0 y1 => kn (((), (), y0, y1, ()), (())))) (((), (), (-1), 0, ()), (()))
def rLeft : Rules → Driver → Int → Option (Int × Int) := opq (fun u d at_ => rLeft' itN u d at_)
theorem rLeft_eq (u : Rules) (d : Driver) (at_ : Int) : rLeft u d at_ = rLeft' itN u d at_ := by unfold rLeft; rw [opq_eq]
def E34 : FEnv iseat := ⟨⟨46, [sp32, sp77], [], [], [], [], [], [], [], true⟩, [(6, ⟨⟨[(3, .bx 3 0), (4, .bx 4 0), (10, .v (.int .i64)), (11, .v (.int .i64))], []⟩, [2], [3, 4]⟩)]⟩
theorem e34 (it : It (Int × Int)) (u : Rules) (d : Driver) (at_ : Int) : fnRun (ts := [.int .i64, .int .i64]) it E34 (bodyOf Tryd.f34) Tryd.f34.results.toList (encA [.Rules, .Driver, .int .i64] (u, d, at_, ())) = rLeft' it u d at_ := by kernel_rfl
def sp34 : FnSpec iseat.toSeat := mkSpec iseat.toSeat 34 [.Rules, .Driver, .int .i64] [.int .i64, .int .i64] true (fun a => rLeft a.1 a.2.1 a.2.2.1) (fun a x hx h h' => fn_contract (Z := iseat) (ats := [.Rules, .Driver, .int .i64]) (ts := [.int .i64, .int .i64]) (E := E34) (fn := Tryd.f34) (c := bodyOf Tryd.f34) Tryd.func34 (by kernel_rfl) (by kernel_rfl) (by kernel_rfl) (by kernel_rfl) rfl ((e34 itN a.1 a.2.1 a.2.2.1).trans ((rLeft_eq a.1 a.2.1 a.2.2.1).symm.trans hx)) h h') (fun _ x => rfl)
def pNext_L11 (long : Int) (d : Driver) (u : Rules) (at_ : Int) (kn_ : Int → Option (Int × Int)) : Option (Int × Int) :=
  bif (decide ((w64 (at_ + long)) ≤ 3000)) then
    (pMay1 (⟨d, u⟩ : Shift) at_ long).bind fun r3 =>
    bif r3 then
      some (at_, 0)
    else
      kn_ (w64 (at_ + 1))
  else
    some (0, 7)
def pNext_L11__2 (long : Int) (d : Driver) (u : Rules) (at_2 : Int) (kn_2 : Int → Option (Int × Int)) : Option (Int × Int) :=
  bif (decide ((w64 (at_2 + long)) ≤ 3000)) then
    (pMay1 (⟨d, u⟩ : Shift) at_2 long).bind fun r5 =>
    bif r5 then
      some (at_2, 0)
    else
      kn_2 (w64 (at_2 + 1))
  else
    some (0, 7)
def pNext' (it : It (Int × Int)) (u : Rules) (d : Driver) (from_ : Int) (long : Int) : Option (Int × Int) :=
  (checkShift u d).bind fun r =>
  bif (r != 0) then
    some (0, r)
  else
    (within from_ 0 3000).bind fun r2 =>
    bif (!r2) then
      bif (!r2) then
        some (0, 2)
      else
        bif ((d.Turns.length : Int) == 20) then
          some (0, 8)
        else
          it _ (fun (v_0 : (Unit × Int × Unit) × (Unit)) kn => pNext_L11 long d u v_0.1.2.1 (fun y0 => kn (((), y0, ()), (())))) (((), from_, ()), (()))
    else
      (within long 1 3000).bind fun r4 =>
      bif (!r4) then
        some (0, 2)
      else
        bif ((d.Turns.length : Int) == 20) then
          some (0, 8)
        else
          it _ (fun (v_0 : (Unit × Int × Unit) × (Unit)) kn => pNext_L11__2 long d u v_0.1.2.1 (fun y0 => kn (((), y0, ()), (())))) (((), from_, ()), (()))
def pNext : Rules → Driver → Int → Int → Option (Int × Int) := opq (fun u d from_ long => pNext' itN u d from_ long)
theorem pNext_eq (u : Rules) (d : Driver) (from_ : Int) (long : Int) : pNext u d from_ long = pNext' itN u d from_ long := by unfold pNext; rw [opq_eq]
def E35 : FEnv iseat := ⟨⟨46, [sp58, sp66, sp80], [], [], [], [], [], [], [], true⟩, [(11, ⟨⟨[(11, .bx 11 0), (12, .v (.int .i64))], []⟩, [3], [11]⟩)]⟩
theorem e35 (it : It (Int × Int)) (u : Rules) (d : Driver) (from_ : Int) (long : Int) : fnRun (ts := [.int .i64, .int .i64]) it E35 (bodyOf Tryd.f35) Tryd.f35.results.toList (encA [.Rules, .Driver, .int .i64, .int .i64] (u, d, from_, long, ())) = pNext' it u d from_ long := by kernel_rfl
def sp35 : FnSpec iseat.toSeat := mkSpec iseat.toSeat 35 [.Rules, .Driver, .int .i64, .int .i64] [.int .i64, .int .i64] true (fun a => pNext a.1 a.2.1 a.2.2.1 a.2.2.2.1) (fun a x hx h h' => fn_contract (Z := iseat) (ats := [.Rules, .Driver, .int .i64, .int .i64]) (ts := [.int .i64, .int .i64]) (E := E35) (fn := Tryd.f35) (c := bodyOf Tryd.f35) Tryd.func35 (by kernel_rfl) (by kernel_rfl) (by kernel_rfl) (by kernel_rfl) rfl ((e35 itN a.1 a.2.1 a.2.2.1 a.2.2.2.1).trans ((pNext_eq a.1 a.2.1 a.2.2.1 a.2.2.2.1).symm.trans hx)) h h') (fun _ x => rfl)
def rNext_L9 (long : Int) (u : Rules) (d : Driver) (at_ : Int) (kn_ : Int → Option (Int × Int)) : Option (Int × Int) :=
  bif (decide ((w64 (at_ + long)) ≤ 3000)) then
    (rMay u d at_ long).bind fun r4 =>
    bif (r4.1 == 1) then
      bif (r4.2 == 0) then
        some (at_, 0)
      else
        kn_ (w64 (at_ + 1))
    else
      kn_ (w64 (at_ + 1))
  else
    some (0, 7)
def rNext' (it : It (Int × Int)) (u : Rules) (d : Driver) (from_ : Int) (long : Int) : Option (Int × Int) :=
  (checkBoth u d).bind fun r =>
  bif (r != 0) then
    some (0, r)
  else
    (outside from_ 0 3000).bind fun r2 =>
    bif r2 then
      some (0, 2)
    else
      (outside long 1 3000).bind fun r3 =>
      bif r3 then
        some (0, 2)
      else
        bif ((d.Turns.length : Int) == 20) then
          some (0, 8)
        else
          it _ (fun (v_0 : (Unit × Unit × Int × Unit) × (Unit)) kn => rNext_L9 long u d v_0.1.2.2.1 (fun y0 => kn (((), (), y0, ()), (())))) (((), (), from_, ()), (()))
def rNext : Rules → Driver → Int → Int → Option (Int × Int) := opq (fun u d from_ long => rNext' itN u d from_ long)
theorem rNext_eq (u : Rules) (d : Driver) (from_ : Int) (long : Int) : rNext u d from_ long = rNext' itN u d from_ long := by unfold rNext; rw [opq_eq]
def E36 : FEnv iseat := ⟨⟨52, [sp62, sp67, sp77], [], [], [], [], [], [], [], true⟩, [(9, ⟨⟨[(4, .bx 4 0), (5, .bx 5 0), (11, .v (.int .i64))], []⟩, [3], [4, 5]⟩)]⟩
theorem e36 (it : It (Int × Int)) (u : Rules) (d : Driver) (from_ : Int) (long : Int) : fnRun (ts := [.int .i64, .int .i64]) it E36 (bodyOf Tryd.f36) Tryd.f36.results.toList (encA [.Rules, .Driver, .int .i64, .int .i64] (u, d, from_, long, ())) = rNext' it u d from_ long := by kernel_rfl
def sp36 : FnSpec iseat.toSeat := mkSpec iseat.toSeat 36 [.Rules, .Driver, .int .i64, .int .i64] [.int .i64, .int .i64] true (fun a => rNext a.1 a.2.1 a.2.2.1 a.2.2.2.1) (fun a x hx h h' => fn_contract (Z := iseat) (ats := [.Rules, .Driver, .int .i64, .int .i64]) (ts := [.int .i64, .int .i64]) (E := E36) (fn := Tryd.f36) (c := bodyOf Tryd.f36) Tryd.func36 (by kernel_rfl) (by kernel_rfl) (by kernel_rfl) (by kernel_rfl) rfl ((e36 itN a.1 a.2.1 a.2.2.1 a.2.2.2.1).trans ((rNext_eq a.1 a.2.1 a.2.2.1 a.2.2.2.1).symm.trans hx)) h h') (fun _ x => rfl)
def awake' (it : It Bool)  : Option Bool :=
  (rules).bind fun r =>
  (ann).bind fun r2 =>
  (pLegal r r2).bind fun r3 =>
  (rules).bind fun r4 =>
  (exact [0, 4]).bind fun r5 =>
  (pLeft r4 r5 6).bind fun r6 =>
  (pWeigh (⟨20, 10000⟩ : Scale) 1000).bind fun r7 =>
  bif (r3.2.2.2 == 0) then
    bif (r6.2 == 0) then
      bif (r7.2 == 0) then
        bif (r3.1 == 3) then
          bif (r3.2.1 == 1) then
            bif (r3.2.2.1 == 5) then
              bif (r6.1 == 2) then
                (span 971 1030).bind fun r8 =>
                some (decide (r7.1.Lo = r8.Lo) && (decide (r7.1.Hi = r8.Hi) && true))
              else
                some false
            else
              some false
          else
            some false
        else
          some false
      else
        some false
    else
      some false
  else
    some false
def awake : Option Bool := opq (awake' itN)
theorem awake_eq  : awake  = awake' itN  := by unfold awake; rw [opq_eq]
def E15 : FEnv iseat := ⟨⟨60, [sp53, sp54, sp21, sp55, sp33, sp40, sp56], [], [], [], [], [], [19], [], true⟩, []⟩
theorem e15 (it : It Bool)  : fnRun (ts := [.bool]) it E15 (bodyOf Tryd.f15) Tryd.f15.results.toList (encA [] (())) = awake' it  := by kernel_rfl
def sp15 : FnSpec iseat.toSeat := mkSpec iseat.toSeat 15 [] [.bool] true (fun a => awake ) (fun a x hx h h' => fn_contract (Z := iseat) (ats := []) (ts := [.bool]) (E := E15) (fn := Tryd.f15) (c := bodyOf Tryd.f15) Tryd.func15 (by kernel_rfl) (by kernel_rfl) (by kernel_rfl) (by kernel_rfl) rfl ((e15 itN ).trans ((awake_eq ).symm.trans hx)) h h') (fun _ x => rfl)
def drives_L2 (d : Driver) (minute : Int) (i : Int) (kn_ : Int → Option Bool) : Option Bool :=
  bif (decide (i < (d.Turns.length : Int))) then
    chk (decide (0 ≤ i) && decide (i < (d.Turns.length : Int))) <|
    bif (decide (minute ≥ (d.Turns.getD i.toNat dfltTurn).From.Lo)) then
      chk (decide (0 ≤ i) && decide (i < (d.Turns.length : Int))) <|
      bif (decide (minute < (d.Turns.getD i.toNat dfltTurn).To.Lo)) then
        some true
      else
        kn_ (w64 (i + 1))
    else
      kn_ (w64 (i + 1))
  else
    some false
def drives' (it : It Bool) (d : Driver) (minute : Int) : Option Bool :=
  it _ (fun (v_0 : (Unit × Int × Unit) × (Unit)) kn => drives_L2 d minute v_0.1.2.1 (fun y0 => kn (((), y0, ()), (())))) (((), 0, ()), (()))
def drives : Driver → Int → Option Bool := opq (fun d minute => drives' itN d minute)
theorem drives_eq (d : Driver) (minute : Int) : drives d minute = drives' itN d minute := by unfold drives; rw [opq_eq]
def E103 : FEnv iseat := ⟨⟨33, [], [], [], [], [], [], [], [], true⟩, [(2, ⟨⟨[(2, .bx 2 0), (5, .v (.int .i64))], []⟩, [1], [2]⟩)]⟩
theorem e103 (it : It Bool) (d : Driver) (minute : Int) : fnRun (ts := [.bool]) it E103 (bodyOf Tryd.f103) Tryd.f103.results.toList (encA [.Driver, .int .i64] (d, minute, ())) = drives' it d minute := by kernel_rfl
def sp103 : FnSpec iseat.toSeat := mkSpec iseat.toSeat 103 [.Driver, .int .i64] [.bool] true (fun a => drives a.1 a.2.1) (fun a x hx h h' => fn_contract (Z := iseat) (ats := [.Driver, .int .i64]) (ts := [.bool]) (E := E103) (fn := Tryd.f103) (c := bodyOf Tryd.f103) Tryd.func103 (by kernel_rfl) (by kernel_rfl) (by kernel_rfl) (by kernel_rfl) rfl ((e103 itN a.1 a.2.1).trans ((drives_eq a.1 a.2.1).symm.trans hx)) h h') (fun _ x => rfl)
def breaks_L14 (minute : Int) (u : Rules) (d : Driver) (window : Int) (m2 : Int) (kn_2 : Int → Int → Option Int) : Option Int :=
  bif (decide (m2 ≥ 0)) then
    bif (decide (m2 > (w64 (minute - u.Day)))) then
      (drives d m2).bind fun r3 =>
      bif r3 then
        kn_2 (w64 (window + 1)) (w64 (m2 - 1))
      else
        kn_2 window (w64 (m2 - 1))
    else
      bif (decide (window > u.Most)) then
        some 2
      else
        some 0
  else
    bif (decide (window > u.Most)) then
      some 2
    else
      some 0
def breaks_L14__2 (minute : Int) (u : Rules) (d : Driver) (window2 : Int) (m3 : Int) (kn_3 : Int → Int → Option Int) : Option Int :=
  bif (decide (m3 ≥ 0)) then
    bif (decide (m3 > (w64 (minute - u.Day)))) then
      (drives d m3).bind fun r4 =>
      bif r4 then
        kn_3 (w64 (window2 + 1)) (w64 (m3 - 1))
      else
        kn_3 window2 (w64 (m3 - 1))
    else
      bif (decide (window2 > u.Most)) then
        some 2
      else
        some 0
  else
    bif (decide (window2 > u.Most)) then
      some 2
    else
      some 0
def breaks_L5 (it : It Int) (u : Rules) (d : Driver) (minute : Int) (run : Int) (idle : Int) (m : Int) (kn_ : Int → Int → Int → Option Int) : Option Int :=
  bif (decide (m ≥ 0)) then
    bif (decide (idle < u.Rest)) then
      (drives d m).bind fun r2 =>
      bif r2 then
        kn_ (w64 (run + 1)) 0 (w64 (m - 1))
      else
        kn_ run (w64 (idle + 1)) (w64 (m - 1))
    else
      bif (decide (run > u.Drive)) then
        some 1
      else
        it _ (fun (v_0 : (Unit × Unit × Int × Int × Unit) × (Unit)) kn => breaks_L14 minute u d v_0.1.2.2.1 v_0.1.2.2.2.1 (fun y0 y1 => kn (((), (), y0, y1, ()), (())))) (((), (), 0, minute, ()), (()))
  else
    bif (decide (run > u.Drive)) then
      some 1
    else
      it _ (fun (v_0 : (Unit × Unit × Int × Int × Unit) × (Unit)) kn => breaks_L14__2 minute u d v_0.1.2.2.1 v_0.1.2.2.2.1 (fun y0 y1 => kn (((), (), y0, y1, ()), (())))) (((), (), 0, minute, ()), (()))
def breaks' (it : It Int) (u : Rules) (d : Driver) (minute : Int) : Option Int :=
  (drives d minute).bind fun r =>
  bif (!r) then
    some 0
  else
    it _ (fun (v_0 : (Unit × Unit × Int × Int × Int × Unit) × (Unit)) kn => breaks_L5 it u d minute v_0.1.2.2.1 v_0.1.2.2.2.1 v_0.1.2.2.2.2.1 (fun y0 y1 y2 => kn (((), (), y0, y1, y2, ()), (())))) (((), (), 0, 0, minute, ()), (()))
def breaks : Rules → Driver → Int → Option Int := opq (fun u d minute => breaks' itN u d minute)
theorem breaks_eq (u : Rules) (d : Driver) (minute : Int) : breaks u d minute = breaks' itN u d minute := by unfold breaks; rw [opq_eq]
def E72 : FEnv iseat := ⟨⟨60, [sp103], [], [], [], [], [], [], [], true⟩, [(5, ⟨⟨[(3, .bx 3 0), (4, .bx 4 0), (7, .v (.int .i64)), (8, .v (.int .i64)), (9, .v (.int .i64))], []⟩, [2], [3, 4]⟩), (14, ⟨⟨[(3, .bx 3 0), (4, .bx 4 0), (10, .v (.int .i64)), (11, .v (.int .i64))], []⟩, [2], [3, 4]⟩)]⟩
theorem e72 (it : It Int) (u : Rules) (d : Driver) (minute : Int) : fnRun (ts := [.int .i64]) it E72 (bodyOf Tryd.f72) Tryd.f72.results.toList (encA [.Rules, .Driver, .int .i64] (u, d, minute, ())) = breaks' it u d minute := by kernel_rfl
def sp72 : FnSpec iseat.toSeat := mkSpec iseat.toSeat 72 [.Rules, .Driver, .int .i64] [.int .i64] true (fun a => breaks a.1 a.2.1 a.2.2.1) (fun a x hx h h' => fn_contract (Z := iseat) (ats := [.Rules, .Driver, .int .i64]) (ts := [.int .i64]) (E := E72) (fn := Tryd.f72) (c := bodyOf Tryd.f72) Tryd.func72 (by kernel_rfl) (by kernel_rfl) (by kernel_rfl) (by kernel_rfl) rfl ((e72 itN a.1 a.2.1 a.2.2.1).trans ((breaks_eq a.1 a.2.1 a.2.2.1).symm.trans hx)) h h') (fun _ x => rfl)
def brokenX_L7 (last : Int) (u : Rules) (d : Driver) (m : Int) (kn_2 : Int → Option (Int × Int)) : Option (Int × Int) :=
  bif (decide (m < last)) then
    (breaks u d m).bind fun r =>
    bif (decide (r > 0)) then
      some (r, m)
    else
      kn_2 (w64 (m + 1))
  else
    some (0, 0)
def brokenX_L3 (it : It (Int × Int)) (d : Driver) (u : Rules) (last : Int) (i : Int) (kn_ : Int → Int → Option (Int × Int)) : Option (Int × Int) :=
  bif (decide (i < (d.Turns.length : Int))) then
    chk (decide (0 ≤ i) && decide (i < (d.Turns.length : Int))) <|
    kn_ (max last ((d.Turns.getD i.toNat dfltTurn).To.Lo)) (w64 (i + 1))
  else
    it _ (fun (v_0 : (Unit × Unit × Int × Unit) × (Unit)) kn => brokenX_L7 last u d v_0.1.2.2.1 (fun y0 => kn (((), (), y0, ()), (())))) (((), (), 0, ()), (()))
def brokenX' (it : It (Int × Int)) (u : Rules) (d : Driver) : Option (Int × Int) :=
  it _ (fun (v_0 : (Unit × Unit × Int × Int × Unit) × (Unit)) kn => brokenX_L3 it d u v_0.1.2.2.1 v_0.1.2.2.2.1 (fun y0 y1 => kn (((), (), y0, y1, ()), (())))) (((), (), 0, 0, ()), (()))
def brokenX : Rules → Driver → Option (Int × Int) := opq (fun u d => brokenX' itN u d)
theorem brokenX_eq (u : Rules) (d : Driver) : brokenX u d = brokenX' itN u d := by unfold brokenX; rw [opq_eq]
def E27 : FEnv iseat := ⟨⟨39, [sp72], [], [], [], [], [], [], [], true⟩, [(3, ⟨⟨[(2, .bx 2 0), (3, .bx 3 0), (6, .v (.int .i64)), (7, .v (.int .i64))], []⟩, [], [2, 3]⟩), (7, ⟨⟨[(2, .bx 2 0), (3, .bx 3 0), (8, .v (.int .i64))], []⟩, [6], [2, 3]⟩)]⟩
theorem e27 (it : It (Int × Int)) (u : Rules) (d : Driver) : fnRun (ts := [.int .i64, .int .i64]) it E27 (bodyOf Tryd.f27) Tryd.f27.results.toList (encA [.Rules, .Driver] (u, d, ())) = brokenX' it u d := by kernel_rfl
def sp27 : FnSpec iseat.toSeat := mkSpec iseat.toSeat 27 [.Rules, .Driver] [.int .i64, .int .i64] true (fun a => brokenX a.1 a.2.1) (fun a x hx h h' => fn_contract (Z := iseat) (ats := [.Rules, .Driver]) (ts := [.int .i64, .int .i64]) (E := E27) (fn := Tryd.f27) (c := bodyOf Tryd.f27) Tryd.func27 (by kernel_rfl) (by kernel_rfl) (by kernel_rfl) (by kernel_rfl) rfl ((e27 itN a.1 a.2.1).trans ((brokenX_eq a.1 a.2.1).symm.trans hx)) h h') (fun _ x => rfl)
def CrewWeighs_L19 (r11 : (Span × Int)) (r16 : (Seed × Int)) (r3 : (Seed × Int)) (r5 : (Seed × Int)) (r10 : (Seed × Int)) (kn_ : (List Int) → Int → Int → Int → Int → Option Bool) (readings : List Int) (most_ : Int) (r9 : (Seed × Int)) (sum : Int) (i : Int) (k : Int) (kn_2 : Int → Option Bool) : Option Bool :=
  bif (decide (k < ([(w64 (r11.1.Lo - 1)), r11.1.Lo, r11.1.Hi, (w64 (r11.1.Hi + 1)), r16.2].length : Int))) then
    chk (decide (0 ≤ k) && decide (k < ([(w64 (r11.1.Lo - 1)), r11.1.Lo, r11.1.Hi, (w64 (r11.1.Hi + 1)), r16.2].length : Int))) <|
    chk (decide (k.toNat < [(w64 (r11.1.Lo - 1)), r11.1.Lo, r11.1.Hi, (w64 (r11.1.Hi + 1)), r16.2].length)) <|
    bif (decide (([(w64 (r11.1.Lo - 1)), r11.1.Lo, r11.1.Hi, (w64 (r11.1.Hi + 1)), r16.2].getD k.toNat 0) ≥ 0)) then
      (Has r11.1 ([(w64 (r11.1.Lo - 1)), r11.1.Lo, r11.1.Hi, (w64 (r11.1.Hi + 1)), r16.2].getD k.toNat 0)).bind fun r17 =>
      (Shown (⟨r3.2, r5.2⟩ : Scale) ([(w64 (r11.1.Lo - 1)), r11.1.Lo, r11.1.Hi, (w64 (r11.1.Hi + 1)), r16.2].getD k.toNat 0) (max 0 r10.2)).bind fun r18 =>
      bif (!(r17 == r18)) then
        some false
      else
        kn_2 (w64 (k + 1))
    else
      kn_2 (w64 (k + 1))
  else
    kn_ (readings ++ [(max 0 r10.2)]) (max most_ r9.2) (w64 (sum + r9.2)) (w64 (i - 1)) r16.1.word
def CrewWeighs_L7 (it : It Bool) (r5 : (Seed × Int)) (r3 : (Seed × Int)) (r6 : (Seed × Int)) (r7 : (Seed × Int)) (readings : List Int) (most_ : Int) (sum : Int) (i : Int) (x27_word : Int) (kn_ : (List Int) → Int → Int → Int → Int → Option Bool) : Option Bool :=
  bif (decide (i > 0)) then
    (Below (⟨x27_word⟩ : Seed) 12000).bind fun r9 =>
    (Of r9.1 [r9.2, (w64 ((w64 ((w64 (r9.2 * (w64 (1000000 + r5.2)))) + (w64 (r3.2 * 1000000)))).tdiv 1000000)), (w64 ((w64 ((w64 ((max 0 (w64 ((w64 (r9.2 * (w64 (1000000 - r5.2)))) - (w64 (r3.2 * 1000000))))) + 1000000)) - 1)).tdiv 1000000))]).bind fun r10 =>
    chk (fitA (readings.length + [(max 0 r10.2)].length) 8) <|
    (pWeigh (⟨r3.2, r5.2⟩ : Scale) (max 0 r10.2)).bind fun r11 =>
    (pWeigh (⟨r6.2, r7.2⟩ : Scale) (max 0 r10.2)).bind fun r12 =>
    bif (r11.2 != 0) then
      some false
    else
      bif (r12.2 != 0) then
        some false
      else
        (Has r11.1 r9.2).bind fun r13 =>
        bif (!r13) then
          some false
        else
          (In r12.1 r11.1).bind fun r14 =>
          bif (!r14) then
            some false
          else
            (Has r12.1 (max 0 r10.2)).bind fun r15 =>
            bif (!r15) then
              some false
            else
              (Inside r10.1 r11.1).bind fun r16 =>
              it _ (fun (v_0 : (Unit × Unit × Unit × Unit × Unit × Unit × Int × Unit) × (Unit)) kn => CrewWeighs_L19 r11 r16 r3 r5 r10 kn_ readings most_ r9 sum i v_0.1.2.2.2.2.2.2.1 (fun y0 => kn (((), (), (), (), (), (), y0, ()), (())))) (((), (), (), (), (), (), 0, ()), (()))
  else
    (Below (⟨x27_word⟩ : Seed) 2000).bind fun r19 =>
    (Of r19.1 [most_, (max 0 (w64 (most_ - 1))), (w64 (most_ + r19.2))]).bind fun r20 =>
    (Below r20.1 3000).bind fun r21 =>
    (Of r21.1 [sum, (max 0 (w64 (sum - 1))), (w64 (sum + r21.2))]).bind fun r22 =>
    (pPass (⟨r3.2, r5.2⟩ : Scale) readings (⟨r20.2, r22.2⟩ : Allow)).bind fun r23 =>
    bif (decide (most_ ≤ r20.2)) then
      bif (r23.2.2 == 0) then
        (Has r23.2.1 sum).bind fun r24 =>
        bif r24 then
          bif (r23.1 != 1) then
            bif (r23.1 != 2) then
              (awake).bind fun r25 =>
              some r25
            else
              bif (!(decide (sum ≤ r22.2))) then
                (awake).bind fun r26 =>
                some r26
              else
                some false
          else
            bif (decide (sum ≤ r22.2)) then
              bif (r23.1 != 2) then
                (awake).bind fun r27 =>
                some r27
              else
                bif (!(decide (sum ≤ r22.2))) then
                  (awake).bind fun r28 =>
                  some r28
                else
                  some false
            else
              some false
        else
          some false
      else
        some false
    else
      bif (r23.2.2 == 0) then
        (Has r23.2.1 sum).bind fun r29 =>
        bif r29 then
          bif (r23.1 != 1) then
            bif (r23.1 != 2) then
              (awake).bind fun r30 =>
              some r30
            else
              (awake).bind fun r31 =>
              some r31
          else
            some false
        else
          some false
      else
        some false
def CrewWeighs' (it : It Bool) (nums : List Int) : Option Bool :=
  (NewSeed nums).bind fun r =>
  (Below r 30).bind fun r2 =>
  (Of r2.1 [0, r2.2, 1000]).bind fun r3 =>
  (Below r3.1 20000).bind fun r4 =>
  (Of r4.1 [0, r4.2, 100000]).bind fun r5 =>
  (From r5.1 0 r3.2).bind fun r6 =>
  (From r6.1 0 r5.2).bind fun r7 =>
  (Below r7.1 4).bind fun r8 =>
  it _ (fun (v_0 : (Unit × Unit × Unit × (List Int) × Int × Int × Int × Unit) × ((Int × Unit) × Unit)) kn => CrewWeighs_L7 it r5 r3 r6 r7 v_0.1.2.2.2.1 v_0.1.2.2.2.2.1 v_0.1.2.2.2.2.2.1 v_0.1.2.2.2.2.2.2.1 v_0.2.1.1 (fun y0 y1 y2 y3 y4 => kn (((), (), (), y0, y1, y2, y3, ()), ((y4, ()), ())))) (((), (), (), ([] : List Int), 0, 0, r8.2, ()), ((r8.1.word, ()), ()))
def E11 : FEnv iseat := ⟨⟨234, [sp40, sp43, sp44, sp45, sp41, sp15], [sp20, sp37, sp30, sp39], [sp16], [], [], [], [31, 36, 83, 88, 177, 188], [], true⟩, [(7, ⟨⟨[(3, .bx 27 0), (4, .bx 4 0), (5, .bx 5 0), (6, .os 6 3 (.int .i64)), (7, .v (.int .i64)), (8, .v (.int .i64)), (9, .v (.int .i64))], [(27, [.v (.int .u64)])]⟩, [], [4, 5]⟩), (19, ⟨⟨[(3, .bx 27 0), (4, .bx 4 0), (5, .bx 5 0), (6, .osr 6), (14, .bx 14 0), (18, .osr 145), (19, .v (.int .i64))], []⟩, [7, 8, 9, 13], [27, 6, 14, 145]⟩)]⟩
theorem e11 (it : It Bool) (nums : List Int) : fnRun (ts := [.bool]) it E11 (bodyOf Tryd.f11) Tryd.f11.results.toList (encA [.sl (.int .i64)] (nums, ())) = CrewWeighs' it nums := by kernel_rfl
def CrewTruth' (it : It Bool) (nums : List Int) : Option Bool :=
  (NewSeed nums).bind fun r =>
  (RulesOf r).bind fun r2 =>
  (DriverOf r2.1 (⟨#[97, 110, 110]⟩ : ByteArray) 5).bind fun r3 =>
  (pLegal r2.2 r3.2).bind fun r4 =>
  (ExactDriver r3.1 r3.2 0).bind fun r5 =>
  (brokenX r2.2 r5.2).bind fun r6 =>
  bif (r4.2.2.2 == 0) then
    bif (r4.1 != 1) then
      bif (r4.1 != 2) then
        (awake).bind fun r7 =>
        some r7
      else
        bif (r6.1 != 0) then
          (awake).bind fun r8 =>
          some r8
        else
          some false
    else
      bif (r6.1 == 0) then
        bif (r4.1 != 2) then
          (awake).bind fun r9 =>
          some r9
        else
          bif (r6.1 != 0) then
            (awake).bind fun r10 =>
            some r10
          else
            some false
      else
        some false
  else
    some false
def E4 : FEnv iseat := ⟨⟨55, [sp21, sp27, sp15], [sp17, sp18, sp28], [sp16], [], [], [], [], [], true⟩, []⟩
theorem e4 (it : It Bool) (nums : List Int) : fnRun (ts := [.bool]) it E4 (bodyOf Tryd.f4) Tryd.f4.results.toList (encA [.sl (.int .i64)] (nums, ())) = CrewTruth' it nums := by kernel_rfl
def CrewWorst' (it : It Bool) (nums : List Int) : Option Bool :=
  (NewSeed nums).bind fun r =>
  (RulesOf r).bind fun r2 =>
  (DriverOf r2.1 (⟨#[97, 110, 110]⟩ : ByteArray) 5).bind fun r3 =>
  (pLegal r2.2 r3.2).bind fun r4 =>
  (ExactDriver r3.1 r3.2 1).bind fun r5 =>
  (brokenX r2.2 r5.2).bind fun r6 =>
  (ExactDriver r5.1 r3.2 2).bind fun r7 =>
  (brokenX r2.2 r7.2).bind fun r8 =>
  bif (r4.2.2.2 == 0) then
    bif (r4.2.1 == r6.1) then
      bif (r4.2.2.1 == r6.2) then
        bif ((r4.1 == 1) == (r6.1 == 0)) then
          bif ((r4.1 == 2) == (r8.1 != 0)) then
            (awake).bind fun r9 =>
            some r9
          else
            some false
        else
          some false
      else
        some false
    else
      some false
  else
    some false
def E5 : FEnv iseat := ⟨⟨73, [sp21, sp27, sp15], [sp17, sp18, sp28], [sp16], [], [], [], [], [], true⟩, []⟩
theorem e5 (it : It Bool) (nums : List Int) : fnRun (ts := [.bool]) it E5 (bodyOf Tryd.f5) Tryd.f5.results.toList (encA [.sl (.int .i64)] (nums, ())) = CrewWorst' it nums := by kernel_rfl
def CrewNarrows' (it : It Bool) (nums : List Int) : Option Bool :=
  (NewSeed nums).bind fun r =>
  (RulesOf r).bind fun r2 =>
  (DriverOf r2.1 (⟨#[97, 110, 110]⟩ : ByteArray) 5).bind fun r3 =>
  (InnerDriver r3.1 r3.2).bind fun r4 =>
  (Below r4.1 5).bind fun r5 =>
  (From r5.1 1 r2.2.Rest).bind fun r6 =>
  (Below r6.1 5).bind fun r7 =>
  (pLegal r2.2 r3.2).bind fun r8 =>
  (pLegal r2.2 r4.2).bind fun r9 =>
  (pLegal (⟨(w64 (r2.2.Drive + r5.2)), r6.2, r2.2.Day, (w64 (r2.2.Most + r7.2))⟩ : Rules) r3.2).bind fun r10 =>
  bif (r8.2.2.2 == 0) then
    bif (r9.2.2.2 == 0) then
      bif (r10.2.2.2 == 0) then
        bif (r8.1 == 3) then
          bif (r8.1 != 1) then
            (awake).bind fun r11 =>
            some r11
          else
            bif (r10.1 == 1) then
              (awake).bind fun r12 =>
              some r12
            else
              some false
        else
          bif (r8.1 == r9.1) then
            bif (r8.1 != 1) then
              (awake).bind fun r13 =>
              some r13
            else
              bif (r10.1 == 1) then
                (awake).bind fun r14 =>
                some r14
              else
                some false
          else
            some false
      else
        some false
    else
      some false
  else
    some false
def E6 : FEnv iseat := ⟨⟨100, [sp21, sp15], [sp17, sp18, sp29, sp20, sp30], [sp16], [], [], [], [], [], true⟩, []⟩
theorem e6 (it : It Bool) (nums : List Int) : fnRun (ts := [.bool]) it E6 (bodyOf Tryd.f6) Tryd.f6.results.toList (encA [.sl (.int .i64)] (nums, ())) = CrewNarrows' it nums := by kernel_rfl
def CrewMore' (it : It Bool) (nums : List Int) : Option Bool :=
  (NewSeed nums).bind fun r =>
  (RulesOf r).bind fun r2 =>
  (DriverOf r2.1 (⟨#[97, 110, 110]⟩ : ByteArray) 5).bind fun r3 =>
  (Below r3.1 150).bind fun r4 =>
  (Below r4.1 20).bind fun r5 =>
  (pLegal r2.2 r3.2).bind fun r6 =>
  (pMay r2.2 r3.2 r4.2 r5.2).bind fun r7 =>
  (pMay r2.2 r3.2 r4.2 0).bind fun r8 =>
  bif (r6.2.2.2 != 0) then
    some false
  else
    bif (r7.2 != 0) then
      bif (r7.2 != 12) then
        some false
      else
        bif (r8.2 != 0) then
          bif (r8.2 != 12) then
            some false
          else
            bif (r7.2 != 0) then
              bif (r8.2 != 0) then
                (awake).bind fun r9 =>
                some r9
              else
                bif (r8.1 == r6.1) then
                  (awake).bind fun r10 =>
                  some r10
                else
                  some false
            else
              bif (r7.1 != 1) then
                bif (r6.1 != 2) then
                  bif (r8.2 != 0) then
                    (awake).bind fun r11 =>
                    some r11
                  else
                    bif (r8.1 == r6.1) then
                      (awake).bind fun r12 =>
                      some r12
                    else
                      some false
                else
                  bif (r7.1 == 2) then
                    bif (r8.2 != 0) then
                      (awake).bind fun r13 =>
                      some r13
                    else
                      bif (r8.1 == r6.1) then
                        (awake).bind fun r14 =>
                        some r14
                      else
                        some false
                  else
                    some false
              else
                bif (r6.1 == 1) then
                  bif (r6.1 != 2) then
                    bif (r8.2 != 0) then
                      (awake).bind fun r15 =>
                      some r15
                    else
                      bif (r8.1 == r6.1) then
                        (awake).bind fun r16 =>
                        some r16
                      else
                        some false
                  else
                    bif (r7.1 == 2) then
                      bif (r8.2 != 0) then
                        (awake).bind fun r17 =>
                        some r17
                      else
                        bif (r8.1 == r6.1) then
                          (awake).bind fun r18 =>
                          some r18
                        else
                          some false
                    else
                      some false
                else
                  some false
        else
          bif (r7.2 != 0) then
            bif (r8.2 != 0) then
              (awake).bind fun r19 =>
              some r19
            else
              bif (r8.1 == r6.1) then
                (awake).bind fun r20 =>
                some r20
              else
                some false
          else
            bif (r7.1 != 1) then
              bif (r6.1 != 2) then
                bif (r8.2 != 0) then
                  (awake).bind fun r21 =>
                  some r21
                else
                  bif (r8.1 == r6.1) then
                    (awake).bind fun r22 =>
                    some r22
                  else
                    some false
              else
                bif (r7.1 == 2) then
                  bif (r8.2 != 0) then
                    (awake).bind fun r23 =>
                    some r23
                  else
                    bif (r8.1 == r6.1) then
                      (awake).bind fun r24 =>
                      some r24
                    else
                      some false
                else
                  some false
            else
              bif (r6.1 == 1) then
                bif (r6.1 != 2) then
                  bif (r8.2 != 0) then
                    (awake).bind fun r25 =>
                    some r25
                  else
                    bif (r8.1 == r6.1) then
                      (awake).bind fun r26 =>
                      some r26
                    else
                      some false
                else
                  bif (r7.1 == 2) then
                    bif (r8.2 != 0) then
                      (awake).bind fun r27 =>
                      some r27
                    else
                      bif (r8.1 == r6.1) then
                        (awake).bind fun r28 =>
                        some r28
                      else
                        some false
                  else
                    some false
              else
                some false
    else
      bif (r8.2 != 0) then
        bif (r8.2 != 12) then
          some false
        else
          bif (r7.2 != 0) then
            bif (r8.2 != 0) then
              (awake).bind fun r29 =>
              some r29
            else
              bif (r8.1 == r6.1) then
                (awake).bind fun r30 =>
                some r30
              else
                some false
          else
            bif (r7.1 != 1) then
              bif (r6.1 != 2) then
                bif (r8.2 != 0) then
                  (awake).bind fun r31 =>
                  some r31
                else
                  bif (r8.1 == r6.1) then
                    (awake).bind fun r32 =>
                    some r32
                  else
                    some false
              else
                bif (r7.1 == 2) then
                  bif (r8.2 != 0) then
                    (awake).bind fun r33 =>
                    some r33
                  else
                    bif (r8.1 == r6.1) then
                      (awake).bind fun r34 =>
                      some r34
                    else
                      some false
                else
                  some false
            else
              bif (r6.1 == 1) then
                bif (r6.1 != 2) then
                  bif (r8.2 != 0) then
                    (awake).bind fun r35 =>
                    some r35
                  else
                    bif (r8.1 == r6.1) then
                      (awake).bind fun r36 =>
                      some r36
                    else
                      some false
                else
                  bif (r7.1 == 2) then
                    bif (r8.2 != 0) then
                      (awake).bind fun r37 =>
                      some r37
                    else
                      bif (r8.1 == r6.1) then
                        (awake).bind fun r38 =>
                        some r38
                      else
                        some false
                  else
                    some false
              else
                some false
      else
        bif (r7.2 != 0) then
          bif (r8.2 != 0) then
            (awake).bind fun r39 =>
            some r39
          else
            bif (r8.1 == r6.1) then
              (awake).bind fun r40 =>
              some r40
            else
              some false
        else
          bif (r7.1 != 1) then
            bif (r6.1 != 2) then
              bif (r8.2 != 0) then
                (awake).bind fun r41 =>
                some r41
              else
                bif (r8.1 == r6.1) then
                  (awake).bind fun r42 =>
                  some r42
                else
                  some false
            else
              bif (r7.1 == 2) then
                bif (r8.2 != 0) then
                  (awake).bind fun r43 =>
                  some r43
                else
                  bif (r8.1 == r6.1) then
                    (awake).bind fun r44 =>
                    some r44
                  else
                    some false
              else
                some false
          else
            bif (r6.1 == 1) then
              bif (r6.1 != 2) then
                bif (r8.2 != 0) then
                  (awake).bind fun r45 =>
                  some r45
                else
                  bif (r8.1 == r6.1) then
                    (awake).bind fun r46 =>
                    some r46
                  else
                    some false
              else
                bif (r7.1 == 2) then
                  bif (r8.2 != 0) then
                    (awake).bind fun r47 =>
                    some r47
                  else
                    bif (r8.1 == r6.1) then
                      (awake).bind fun r48 =>
                      some r48
                    else
                      some false
                else
                  some false
            else
              some false
def E7 : FEnv iseat := ⟨⟨97, [sp21, sp31, sp15], [sp17, sp18, sp20], [sp16], [], [], [], [], [], true⟩, []⟩
theorem e7 (it : It Bool) (nums : List Int) : fnRun (ts := [.bool]) it E7 (bodyOf Tryd.f7) Tryd.f7.results.toList (encA [.sl (.int .i64)] (nums, ())) = CrewMore' it nums := by kernel_rfl
def CrewLeft_L26 (r4 : (Seed × Int)) (r10 : (Int × Int)) (r2 : (Seed × Rules)) (r3 : (Seed × Driver)) (r5 : (Seed × Int)) (k : Int) (kn_ : Int → Option Bool) : Option Bool :=
  bif (decide (k < (min (w64 (r4.2 + 60)) r10.1))) then
    (pMay r2.2 r3.2 k r5.2).bind fun r12 =>
    bif (r12.1 == 1) then
      bif (r12.2 == 0) then
        some false
      else
        kn_ (w64 (k + 1))
    else
      kn_ (w64 (k + 1))
  else
    (awake).bind fun r13 =>
    some r13
def CrewLeft_L26__2 (r4 : (Seed × Int)) (r2 : (Seed × Rules)) (r3 : (Seed × Driver)) (r5 : (Seed × Int)) (k2 : Int) (kn_2 : Int → Option Bool) : Option Bool :=
  bif (decide (k2 < (w64 (r4.2 + 60)))) then
    (pMay r2.2 r3.2 k2 r5.2).bind fun r14 =>
    bif (r14.1 == 1) then
      bif (r14.2 == 0) then
        some false
      else
        kn_2 (w64 (k2 + 1))
    else
      kn_2 (w64 (k2 + 1))
  else
    (awake).bind fun r15 =>
    some r15
def CrewLeft_L26__3 (r4 : (Seed × Int)) (r10 : (Int × Int)) (r2 : (Seed × Rules)) (r3 : (Seed × Driver)) (r5 : (Seed × Int)) (k3 : Int) (kn_3 : Int → Option Bool) : Option Bool :=
  bif (decide (k3 < (min (w64 (r4.2 + 60)) r10.1))) then
    (pMay r2.2 r3.2 k3 r5.2).bind fun r17 =>
    bif (r17.1 == 1) then
      bif (r17.2 == 0) then
        some false
      else
        kn_3 (w64 (k3 + 1))
    else
      kn_3 (w64 (k3 + 1))
  else
    (awake).bind fun r18 =>
    some r18
def CrewLeft_L26__4 (r4 : (Seed × Int)) (r2 : (Seed × Rules)) (r3 : (Seed × Driver)) (r5 : (Seed × Int)) (k4 : Int) (kn_4 : Int → Option Bool) : Option Bool :=
  bif (decide (k4 < (w64 (r4.2 + 60)))) then
    (pMay r2.2 r3.2 k4 r5.2).bind fun r19 =>
    bif (r19.1 == 1) then
      bif (r19.2 == 0) then
        some false
      else
        kn_4 (w64 (k4 + 1))
    else
      kn_4 (w64 (k4 + 1))
  else
    (awake).bind fun r20 =>
    some r20
def CrewLeft_L26__5 (r4 : (Seed × Int)) (r10 : (Int × Int)) (r2 : (Seed × Rules)) (r3 : (Seed × Driver)) (r5 : (Seed × Int)) (k5 : Int) (kn_5 : Int → Option Bool) : Option Bool :=
  bif (decide (k5 < (min (w64 (r4.2 + 60)) r10.1))) then
    (pMay r2.2 r3.2 k5 r5.2).bind fun r22 =>
    bif (r22.1 == 1) then
      bif (r22.2 == 0) then
        some false
      else
        kn_5 (w64 (k5 + 1))
    else
      kn_5 (w64 (k5 + 1))
  else
    (awake).bind fun r23 =>
    some r23
def CrewLeft_L26__6 (r4 : (Seed × Int)) (r2 : (Seed × Rules)) (r3 : (Seed × Driver)) (r5 : (Seed × Int)) (k6 : Int) (kn_6 : Int → Option Bool) : Option Bool :=
  bif (decide (k6 < (w64 (r4.2 + 60)))) then
    (pMay r2.2 r3.2 k6 r5.2).bind fun r24 =>
    bif (r24.1 == 1) then
      bif (r24.2 == 0) then
        some false
      else
        kn_6 (w64 (k6 + 1))
    else
      kn_6 (w64 (k6 + 1))
  else
    (awake).bind fun r25 =>
    some r25
def CrewLeft_L26__7 (r4 : (Seed × Int)) (r10 : (Int × Int)) (r2 : (Seed × Rules)) (r3 : (Seed × Driver)) (r5 : (Seed × Int)) (k7 : Int) (kn_7 : Int → Option Bool) : Option Bool :=
  bif (decide (k7 < (min (w64 (r4.2 + 60)) r10.1))) then
    (pMay r2.2 r3.2 k7 r5.2).bind fun r27 =>
    bif (r27.1 == 1) then
      bif (r27.2 == 0) then
        some false
      else
        kn_7 (w64 (k7 + 1))
    else
      kn_7 (w64 (k7 + 1))
  else
    (awake).bind fun r28 =>
    some r28
def CrewLeft_L26__8 (r4 : (Seed × Int)) (r2 : (Seed × Rules)) (r3 : (Seed × Driver)) (r5 : (Seed × Int)) (k8 : Int) (kn_8 : Int → Option Bool) : Option Bool :=
  bif (decide (k8 < (w64 (r4.2 + 60)))) then
    (pMay r2.2 r3.2 k8 r5.2).bind fun r29 =>
    bif (r29.1 == 1) then
      bif (r29.2 == 0) then
        some false
      else
        kn_8 (w64 (k8 + 1))
    else
      kn_8 (w64 (k8 + 1))
  else
    (awake).bind fun r30 =>
    some r30
def CrewLeft_L26__9 (r4 : (Seed × Int)) (r31 : (Int × Int)) (r2 : (Seed × Rules)) (r3 : (Seed × Driver)) (r5 : (Seed × Int)) (k9 : Int) (kn_9 : Int → Option Bool) : Option Bool :=
  bif (decide (k9 < (min (w64 (r4.2 + 60)) r31.1))) then
    (pMay r2.2 r3.2 k9 r5.2).bind fun r33 =>
    bif (r33.1 == 1) then
      bif (r33.2 == 0) then
        some false
      else
        kn_9 (w64 (k9 + 1))
    else
      kn_9 (w64 (k9 + 1))
  else
    (awake).bind fun r34 =>
    some r34
def CrewLeft_L26__10 (r4 : (Seed × Int)) (r2 : (Seed × Rules)) (r3 : (Seed × Driver)) (r5 : (Seed × Int)) (k10 : Int) (kn_10 : Int → Option Bool) : Option Bool :=
  bif (decide (k10 < (w64 (r4.2 + 60)))) then
    (pMay r2.2 r3.2 k10 r5.2).bind fun r35 =>
    bif (r35.1 == 1) then
      bif (r35.2 == 0) then
        some false
      else
        kn_10 (w64 (k10 + 1))
    else
      kn_10 (w64 (k10 + 1))
  else
    (awake).bind fun r36 =>
    some r36
def CrewLeft_L26__11 (r4 : (Seed × Int)) (r31 : (Int × Int)) (r2 : (Seed × Rules)) (r3 : (Seed × Driver)) (r5 : (Seed × Int)) (k11 : Int) (kn_11 : Int → Option Bool) : Option Bool :=
  bif (decide (k11 < (min (w64 (r4.2 + 60)) r31.1))) then
    (pMay r2.2 r3.2 k11 r5.2).bind fun r38 =>
    bif (r38.1 == 1) then
      bif (r38.2 == 0) then
        some false
      else
        kn_11 (w64 (k11 + 1))
    else
      kn_11 (w64 (k11 + 1))
  else
    (awake).bind fun r39 =>
    some r39
def CrewLeft_L26__12 (r4 : (Seed × Int)) (r2 : (Seed × Rules)) (r3 : (Seed × Driver)) (r5 : (Seed × Int)) (k12 : Int) (kn_12 : Int → Option Bool) : Option Bool :=
  bif (decide (k12 < (w64 (r4.2 + 60)))) then
    (pMay r2.2 r3.2 k12 r5.2).bind fun r40 =>
    bif (r40.1 == 1) then
      bif (r40.2 == 0) then
        some false
      else
        kn_12 (w64 (k12 + 1))
    else
      kn_12 (w64 (k12 + 1))
  else
    (awake).bind fun r41 =>
    some r41
def CrewLeft_L26__13 (r4 : (Seed × Int)) (r31 : (Int × Int)) (r2 : (Seed × Rules)) (r3 : (Seed × Driver)) (r5 : (Seed × Int)) (k13 : Int) (kn_13 : Int → Option Bool) : Option Bool :=
  bif (decide (k13 < (min (w64 (r4.2 + 60)) r31.1))) then
    (pMay r2.2 r3.2 k13 r5.2).bind fun r43 =>
    bif (r43.1 == 1) then
      bif (r43.2 == 0) then
        some false
      else
        kn_13 (w64 (k13 + 1))
    else
      kn_13 (w64 (k13 + 1))
  else
    (awake).bind fun r44 =>
    some r44
def CrewLeft_L26__14 (r4 : (Seed × Int)) (r2 : (Seed × Rules)) (r3 : (Seed × Driver)) (r5 : (Seed × Int)) (k14 : Int) (kn_14 : Int → Option Bool) : Option Bool :=
  bif (decide (k14 < (w64 (r4.2 + 60)))) then
    (pMay r2.2 r3.2 k14 r5.2).bind fun r45 =>
    bif (r45.1 == 1) then
      bif (r45.2 == 0) then
        some false
      else
        kn_14 (w64 (k14 + 1))
    else
      kn_14 (w64 (k14 + 1))
  else
    (awake).bind fun r46 =>
    some r46
def CrewLeft_L26__15 (r4 : (Seed × Int)) (r31 : (Int × Int)) (r2 : (Seed × Rules)) (r3 : (Seed × Driver)) (r5 : (Seed × Int)) (k15 : Int) (kn_15 : Int → Option Bool) : Option Bool :=
  bif (decide (k15 < (min (w64 (r4.2 + 60)) r31.1))) then
    (pMay r2.2 r3.2 k15 r5.2).bind fun r48 =>
    bif (r48.1 == 1) then
      bif (r48.2 == 0) then
        some false
      else
        kn_15 (w64 (k15 + 1))
    else
      kn_15 (w64 (k15 + 1))
  else
    (awake).bind fun r49 =>
    some r49
def CrewLeft_L26__16 (r4 : (Seed × Int)) (r2 : (Seed × Rules)) (r3 : (Seed × Driver)) (r5 : (Seed × Int)) (k16 : Int) (kn_16 : Int → Option Bool) : Option Bool :=
  bif (decide (k16 < (w64 (r4.2 + 60)))) then
    (pMay r2.2 r3.2 k16 r5.2).bind fun r50 =>
    bif (r50.1 == 1) then
      bif (r50.2 == 0) then
        some false
      else
        kn_16 (w64 (k16 + 1))
    else
      kn_16 (w64 (k16 + 1))
  else
    (awake).bind fun r51 =>
    some r51
def CrewLeft_L26__17 (r4 : (Seed × Int)) (r52 : (Int × Int)) (r2 : (Seed × Rules)) (r3 : (Seed × Driver)) (r5 : (Seed × Int)) (k17 : Int) (kn_17 : Int → Option Bool) : Option Bool :=
  bif (decide (k17 < (min (w64 (r4.2 + 60)) r52.1))) then
    (pMay r2.2 r3.2 k17 r5.2).bind fun r54 =>
    bif (r54.1 == 1) then
      bif (r54.2 == 0) then
        some false
      else
        kn_17 (w64 (k17 + 1))
    else
      kn_17 (w64 (k17 + 1))
  else
    (awake).bind fun r55 =>
    some r55
def CrewLeft_L26__18 (r4 : (Seed × Int)) (r2 : (Seed × Rules)) (r3 : (Seed × Driver)) (r5 : (Seed × Int)) (k18 : Int) (kn_18 : Int → Option Bool) : Option Bool :=
  bif (decide (k18 < (w64 (r4.2 + 60)))) then
    (pMay r2.2 r3.2 k18 r5.2).bind fun r56 =>
    bif (r56.1 == 1) then
      bif (r56.2 == 0) then
        some false
      else
        kn_18 (w64 (k18 + 1))
    else
      kn_18 (w64 (k18 + 1))
  else
    (awake).bind fun r57 =>
    some r57
def CrewLeft_L26__19 (r4 : (Seed × Int)) (r52 : (Int × Int)) (r2 : (Seed × Rules)) (r3 : (Seed × Driver)) (r5 : (Seed × Int)) (k19 : Int) (kn_19 : Int → Option Bool) : Option Bool :=
  bif (decide (k19 < (min (w64 (r4.2 + 60)) r52.1))) then
    (pMay r2.2 r3.2 k19 r5.2).bind fun r59 =>
    bif (r59.1 == 1) then
      bif (r59.2 == 0) then
        some false
      else
        kn_19 (w64 (k19 + 1))
    else
      kn_19 (w64 (k19 + 1))
  else
    (awake).bind fun r60 =>
    some r60
def CrewLeft_L26__20 (r4 : (Seed × Int)) (r2 : (Seed × Rules)) (r3 : (Seed × Driver)) (r5 : (Seed × Int)) (k20 : Int) (kn_20 : Int → Option Bool) : Option Bool :=
  bif (decide (k20 < (w64 (r4.2 + 60)))) then
    (pMay r2.2 r3.2 k20 r5.2).bind fun r61 =>
    bif (r61.1 == 1) then
      bif (r61.2 == 0) then
        some false
      else
        kn_20 (w64 (k20 + 1))
    else
      kn_20 (w64 (k20 + 1))
  else
    (awake).bind fun r62 =>
    some r62
def CrewLeft_L26__21 (r4 : (Seed × Int)) (r52 : (Int × Int)) (r2 : (Seed × Rules)) (r3 : (Seed × Driver)) (r5 : (Seed × Int)) (k21 : Int) (kn_21 : Int → Option Bool) : Option Bool :=
  bif (decide (k21 < (min (w64 (r4.2 + 60)) r52.1))) then
    (pMay r2.2 r3.2 k21 r5.2).bind fun r64 =>
    bif (r64.1 == 1) then
      bif (r64.2 == 0) then
        some false
      else
        kn_21 (w64 (k21 + 1))
    else
      kn_21 (w64 (k21 + 1))
  else
    (awake).bind fun r65 =>
    some r65
def CrewLeft_L26__22 (r4 : (Seed × Int)) (r2 : (Seed × Rules)) (r3 : (Seed × Driver)) (r5 : (Seed × Int)) (k22 : Int) (kn_22 : Int → Option Bool) : Option Bool :=
  bif (decide (k22 < (w64 (r4.2 + 60)))) then
    (pMay r2.2 r3.2 k22 r5.2).bind fun r66 =>
    bif (r66.1 == 1) then
      bif (r66.2 == 0) then
        some false
      else
        kn_22 (w64 (k22 + 1))
    else
      kn_22 (w64 (k22 + 1))
  else
    (awake).bind fun r67 =>
    some r67
def CrewLeft_L26__23 (r4 : (Seed × Int)) (r52 : (Int × Int)) (r2 : (Seed × Rules)) (r3 : (Seed × Driver)) (r5 : (Seed × Int)) (k23 : Int) (kn_23 : Int → Option Bool) : Option Bool :=
  bif (decide (k23 < (min (w64 (r4.2 + 60)) r52.1))) then
    (pMay r2.2 r3.2 k23 r5.2).bind fun r69 =>
    bif (r69.1 == 1) then
      bif (r69.2 == 0) then
        some false
      else
        kn_23 (w64 (k23 + 1))
    else
      kn_23 (w64 (k23 + 1))
  else
    (awake).bind fun r70 =>
    some r70
def CrewLeft_L26__24 (r4 : (Seed × Int)) (r2 : (Seed × Rules)) (r3 : (Seed × Driver)) (r5 : (Seed × Int)) (k24 : Int) (kn_24 : Int → Option Bool) : Option Bool :=
  bif (decide (k24 < (w64 (r4.2 + 60)))) then
    (pMay r2.2 r3.2 k24 r5.2).bind fun r71 =>
    bif (r71.1 == 1) then
      bif (r71.2 == 0) then
        some false
      else
        kn_24 (w64 (k24 + 1))
    else
      kn_24 (w64 (k24 + 1))
  else
    (awake).bind fun r72 =>
    some r72
def CrewLeft_L26__25 (r4 : (Seed × Int)) (r73 : (Int × Int)) (r2 : (Seed × Rules)) (r3 : (Seed × Driver)) (r5 : (Seed × Int)) (k25 : Int) (kn_25 : Int → Option Bool) : Option Bool :=
  bif (decide (k25 < (min (w64 (r4.2 + 60)) r73.1))) then
    (pMay r2.2 r3.2 k25 r5.2).bind fun r75 =>
    bif (r75.1 == 1) then
      bif (r75.2 == 0) then
        some false
      else
        kn_25 (w64 (k25 + 1))
    else
      kn_25 (w64 (k25 + 1))
  else
    (awake).bind fun r76 =>
    some r76
def CrewLeft_L26__26 (r4 : (Seed × Int)) (r2 : (Seed × Rules)) (r3 : (Seed × Driver)) (r5 : (Seed × Int)) (k26 : Int) (kn_26 : Int → Option Bool) : Option Bool :=
  bif (decide (k26 < (w64 (r4.2 + 60)))) then
    (pMay r2.2 r3.2 k26 r5.2).bind fun r77 =>
    bif (r77.1 == 1) then
      bif (r77.2 == 0) then
        some false
      else
        kn_26 (w64 (k26 + 1))
    else
      kn_26 (w64 (k26 + 1))
  else
    (awake).bind fun r78 =>
    some r78
def CrewLeft_L26__27 (r4 : (Seed × Int)) (r73 : (Int × Int)) (r2 : (Seed × Rules)) (r3 : (Seed × Driver)) (r5 : (Seed × Int)) (k27 : Int) (kn_27 : Int → Option Bool) : Option Bool :=
  bif (decide (k27 < (min (w64 (r4.2 + 60)) r73.1))) then
    (pMay r2.2 r3.2 k27 r5.2).bind fun r80 =>
    bif (r80.1 == 1) then
      bif (r80.2 == 0) then
        some false
      else
        kn_27 (w64 (k27 + 1))
    else
      kn_27 (w64 (k27 + 1))
  else
    (awake).bind fun r81 =>
    some r81
def CrewLeft_L26__28 (r4 : (Seed × Int)) (r2 : (Seed × Rules)) (r3 : (Seed × Driver)) (r5 : (Seed × Int)) (k28 : Int) (kn_28 : Int → Option Bool) : Option Bool :=
  bif (decide (k28 < (w64 (r4.2 + 60)))) then
    (pMay r2.2 r3.2 k28 r5.2).bind fun r82 =>
    bif (r82.1 == 1) then
      bif (r82.2 == 0) then
        some false
      else
        kn_28 (w64 (k28 + 1))
    else
      kn_28 (w64 (k28 + 1))
  else
    (awake).bind fun r83 =>
    some r83
def CrewLeft_L26__29 (r4 : (Seed × Int)) (r73 : (Int × Int)) (r2 : (Seed × Rules)) (r3 : (Seed × Driver)) (r5 : (Seed × Int)) (k29 : Int) (kn_29 : Int → Option Bool) : Option Bool :=
  bif (decide (k29 < (min (w64 (r4.2 + 60)) r73.1))) then
    (pMay r2.2 r3.2 k29 r5.2).bind fun r85 =>
    bif (r85.1 == 1) then
      bif (r85.2 == 0) then
        some false
      else
        kn_29 (w64 (k29 + 1))
    else
      kn_29 (w64 (k29 + 1))
  else
    (awake).bind fun r86 =>
    some r86
def CrewLeft_L26__30 (r4 : (Seed × Int)) (r2 : (Seed × Rules)) (r3 : (Seed × Driver)) (r5 : (Seed × Int)) (k30 : Int) (kn_30 : Int → Option Bool) : Option Bool :=
  bif (decide (k30 < (w64 (r4.2 + 60)))) then
    (pMay r2.2 r3.2 k30 r5.2).bind fun r87 =>
    bif (r87.1 == 1) then
      bif (r87.2 == 0) then
        some false
      else
        kn_30 (w64 (k30 + 1))
    else
      kn_30 (w64 (k30 + 1))
  else
    (awake).bind fun r88 =>
    some r88
def CrewLeft_L26__31 (r4 : (Seed × Int)) (r73 : (Int × Int)) (r2 : (Seed × Rules)) (r3 : (Seed × Driver)) (r5 : (Seed × Int)) (k31 : Int) (kn_31 : Int → Option Bool) : Option Bool :=
  bif (decide (k31 < (min (w64 (r4.2 + 60)) r73.1))) then
    (pMay r2.2 r3.2 k31 r5.2).bind fun r90 =>
    bif (r90.1 == 1) then
      bif (r90.2 == 0) then
        some false
      else
        kn_31 (w64 (k31 + 1))
    else
      kn_31 (w64 (k31 + 1))
  else
    (awake).bind fun r91 =>
    some r91
def CrewLeft_L26__32 (r4 : (Seed × Int)) (r2 : (Seed × Rules)) (r3 : (Seed × Driver)) (r5 : (Seed × Int)) (k32 : Int) (kn_32 : Int → Option Bool) : Option Bool :=
  bif (decide (k32 < (w64 (r4.2 + 60)))) then
    (pMay r2.2 r3.2 k32 r5.2).bind fun r92 =>
    bif (r92.1 == 1) then
      bif (r92.2 == 0) then
        some false
      else
        kn_32 (w64 (k32 + 1))
    else
      kn_32 (w64 (k32 + 1))
  else
    (awake).bind fun r93 =>
    some r93
def CrewLeft_L26__33 (r4 : (Seed × Int)) (r94 : (Int × Int)) (r2 : (Seed × Rules)) (r3 : (Seed × Driver)) (r5 : (Seed × Int)) (k33 : Int) (kn_33 : Int → Option Bool) : Option Bool :=
  bif (decide (k33 < (min (w64 (r4.2 + 60)) r94.1))) then
    (pMay r2.2 r3.2 k33 r5.2).bind fun r96 =>
    bif (r96.1 == 1) then
      bif (r96.2 == 0) then
        some false
      else
        kn_33 (w64 (k33 + 1))
    else
      kn_33 (w64 (k33 + 1))
  else
    (awake).bind fun r97 =>
    some r97
def CrewLeft_L26__34 (r4 : (Seed × Int)) (r2 : (Seed × Rules)) (r3 : (Seed × Driver)) (r5 : (Seed × Int)) (k34 : Int) (kn_34 : Int → Option Bool) : Option Bool :=
  bif (decide (k34 < (w64 (r4.2 + 60)))) then
    (pMay r2.2 r3.2 k34 r5.2).bind fun r98 =>
    bif (r98.1 == 1) then
      bif (r98.2 == 0) then
        some false
      else
        kn_34 (w64 (k34 + 1))
    else
      kn_34 (w64 (k34 + 1))
  else
    (awake).bind fun r99 =>
    some r99
def CrewLeft_L26__35 (r4 : (Seed × Int)) (r94 : (Int × Int)) (r2 : (Seed × Rules)) (r3 : (Seed × Driver)) (r5 : (Seed × Int)) (k35 : Int) (kn_35 : Int → Option Bool) : Option Bool :=
  bif (decide (k35 < (min (w64 (r4.2 + 60)) r94.1))) then
    (pMay r2.2 r3.2 k35 r5.2).bind fun r101 =>
    bif (r101.1 == 1) then
      bif (r101.2 == 0) then
        some false
      else
        kn_35 (w64 (k35 + 1))
    else
      kn_35 (w64 (k35 + 1))
  else
    (awake).bind fun r102 =>
    some r102
def CrewLeft_L26__36 (r4 : (Seed × Int)) (r2 : (Seed × Rules)) (r3 : (Seed × Driver)) (r5 : (Seed × Int)) (k36 : Int) (kn_36 : Int → Option Bool) : Option Bool :=
  bif (decide (k36 < (w64 (r4.2 + 60)))) then
    (pMay r2.2 r3.2 k36 r5.2).bind fun r103 =>
    bif (r103.1 == 1) then
      bif (r103.2 == 0) then
        some false
      else
        kn_36 (w64 (k36 + 1))
    else
      kn_36 (w64 (k36 + 1))
  else
    (awake).bind fun r104 =>
    some r104
def CrewLeft_L26__37 (r4 : (Seed × Int)) (r94 : (Int × Int)) (r2 : (Seed × Rules)) (r3 : (Seed × Driver)) (r5 : (Seed × Int)) (k37 : Int) (kn_37 : Int → Option Bool) : Option Bool :=
  bif (decide (k37 < (min (w64 (r4.2 + 60)) r94.1))) then
    (pMay r2.2 r3.2 k37 r5.2).bind fun r106 =>
    bif (r106.1 == 1) then
      bif (r106.2 == 0) then
        some false
      else
        kn_37 (w64 (k37 + 1))
    else
      kn_37 (w64 (k37 + 1))
  else
    (awake).bind fun r107 =>
    some r107
def CrewLeft_L26__38 (r4 : (Seed × Int)) (r2 : (Seed × Rules)) (r3 : (Seed × Driver)) (r5 : (Seed × Int)) (k38 : Int) (kn_38 : Int → Option Bool) : Option Bool :=
  bif (decide (k38 < (w64 (r4.2 + 60)))) then
    (pMay r2.2 r3.2 k38 r5.2).bind fun r108 =>
    bif (r108.1 == 1) then
      bif (r108.2 == 0) then
        some false
      else
        kn_38 (w64 (k38 + 1))
    else
      kn_38 (w64 (k38 + 1))
  else
    (awake).bind fun r109 =>
    some r109
def CrewLeft_L26__39 (r4 : (Seed × Int)) (r94 : (Int × Int)) (r2 : (Seed × Rules)) (r3 : (Seed × Driver)) (r5 : (Seed × Int)) (k39 : Int) (kn_39 : Int → Option Bool) : Option Bool :=
  bif (decide (k39 < (min (w64 (r4.2 + 60)) r94.1))) then
    (pMay r2.2 r3.2 k39 r5.2).bind fun r111 =>
    bif (r111.1 == 1) then
      bif (r111.2 == 0) then
        some false
      else
        kn_39 (w64 (k39 + 1))
    else
      kn_39 (w64 (k39 + 1))
  else
    (awake).bind fun r112 =>
    some r112
def CrewLeft_L26__40 (r4 : (Seed × Int)) (r2 : (Seed × Rules)) (r3 : (Seed × Driver)) (r5 : (Seed × Int)) (k40 : Int) (kn_40 : Int → Option Bool) : Option Bool :=
  bif (decide (k40 < (w64 (r4.2 + 60)))) then
    (pMay r2.2 r3.2 k40 r5.2).bind fun r113 =>
    bif (r113.1 == 1) then
      bif (r113.2 == 0) then
        some false
      else
        kn_40 (w64 (k40 + 1))
    else
      kn_40 (w64 (k40 + 1))
  else
    (awake).bind fun r114 =>
    some r114
def CrewLeft_L26__41 (r4 : (Seed × Int)) (r115 : (Int × Int)) (r2 : (Seed × Rules)) (r3 : (Seed × Driver)) (r5 : (Seed × Int)) (k41 : Int) (kn_41 : Int → Option Bool) : Option Bool :=
  bif (decide (k41 < (min (w64 (r4.2 + 60)) r115.1))) then
    (pMay r2.2 r3.2 k41 r5.2).bind fun r117 =>
    bif (r117.1 == 1) then
      bif (r117.2 == 0) then
        some false
      else
        kn_41 (w64 (k41 + 1))
    else
      kn_41 (w64 (k41 + 1))
  else
    (awake).bind fun r118 =>
    some r118
def CrewLeft_L26__42 (r4 : (Seed × Int)) (r2 : (Seed × Rules)) (r3 : (Seed × Driver)) (r5 : (Seed × Int)) (k42 : Int) (kn_42 : Int → Option Bool) : Option Bool :=
  bif (decide (k42 < (w64 (r4.2 + 60)))) then
    (pMay r2.2 r3.2 k42 r5.2).bind fun r119 =>
    bif (r119.1 == 1) then
      bif (r119.2 == 0) then
        some false
      else
        kn_42 (w64 (k42 + 1))
    else
      kn_42 (w64 (k42 + 1))
  else
    (awake).bind fun r120 =>
    some r120
def CrewLeft_L26__43 (r4 : (Seed × Int)) (r115 : (Int × Int)) (r2 : (Seed × Rules)) (r3 : (Seed × Driver)) (r5 : (Seed × Int)) (k43 : Int) (kn_43 : Int → Option Bool) : Option Bool :=
  bif (decide (k43 < (min (w64 (r4.2 + 60)) r115.1))) then
    (pMay r2.2 r3.2 k43 r5.2).bind fun r122 =>
    bif (r122.1 == 1) then
      bif (r122.2 == 0) then
        some false
      else
        kn_43 (w64 (k43 + 1))
    else
      kn_43 (w64 (k43 + 1))
  else
    (awake).bind fun r123 =>
    some r123
def CrewLeft_L26__44 (r4 : (Seed × Int)) (r2 : (Seed × Rules)) (r3 : (Seed × Driver)) (r5 : (Seed × Int)) (k44 : Int) (kn_44 : Int → Option Bool) : Option Bool :=
  bif (decide (k44 < (w64 (r4.2 + 60)))) then
    (pMay r2.2 r3.2 k44 r5.2).bind fun r124 =>
    bif (r124.1 == 1) then
      bif (r124.2 == 0) then
        some false
      else
        kn_44 (w64 (k44 + 1))
    else
      kn_44 (w64 (k44 + 1))
  else
    (awake).bind fun r125 =>
    some r125
def CrewLeft_L26__45 (r4 : (Seed × Int)) (r115 : (Int × Int)) (r2 : (Seed × Rules)) (r3 : (Seed × Driver)) (r5 : (Seed × Int)) (k45 : Int) (kn_45 : Int → Option Bool) : Option Bool :=
  bif (decide (k45 < (min (w64 (r4.2 + 60)) r115.1))) then
    (pMay r2.2 r3.2 k45 r5.2).bind fun r127 =>
    bif (r127.1 == 1) then
      bif (r127.2 == 0) then
        some false
      else
        kn_45 (w64 (k45 + 1))
    else
      kn_45 (w64 (k45 + 1))
  else
    (awake).bind fun r128 =>
    some r128
def CrewLeft_L26__46 (r4 : (Seed × Int)) (r2 : (Seed × Rules)) (r3 : (Seed × Driver)) (r5 : (Seed × Int)) (k46 : Int) (kn_46 : Int → Option Bool) : Option Bool :=
  bif (decide (k46 < (w64 (r4.2 + 60)))) then
    (pMay r2.2 r3.2 k46 r5.2).bind fun r129 =>
    bif (r129.1 == 1) then
      bif (r129.2 == 0) then
        some false
      else
        kn_46 (w64 (k46 + 1))
    else
      kn_46 (w64 (k46 + 1))
  else
    (awake).bind fun r130 =>
    some r130
def CrewLeft_L26__47 (r4 : (Seed × Int)) (r115 : (Int × Int)) (r2 : (Seed × Rules)) (r3 : (Seed × Driver)) (r5 : (Seed × Int)) (k47 : Int) (kn_47 : Int → Option Bool) : Option Bool :=
  bif (decide (k47 < (min (w64 (r4.2 + 60)) r115.1))) then
    (pMay r2.2 r3.2 k47 r5.2).bind fun r132 =>
    bif (r132.1 == 1) then
      bif (r132.2 == 0) then
        some false
      else
        kn_47 (w64 (k47 + 1))
    else
      kn_47 (w64 (k47 + 1))
  else
    (awake).bind fun r133 =>
    some r133
def CrewLeft_L26__48 (r4 : (Seed × Int)) (r2 : (Seed × Rules)) (r3 : (Seed × Driver)) (r5 : (Seed × Int)) (k48 : Int) (kn_48 : Int → Option Bool) : Option Bool :=
  bif (decide (k48 < (w64 (r4.2 + 60)))) then
    (pMay r2.2 r3.2 k48 r5.2).bind fun r134 =>
    bif (r134.1 == 1) then
      bif (r134.2 == 0) then
        some false
      else
        kn_48 (w64 (k48 + 1))
    else
      kn_48 (w64 (k48 + 1))
  else
    (awake).bind fun r135 =>
    some r135
def CrewLeft_L26__49 (r4 : (Seed × Int)) (r137 : (Int × Int)) (r2 : (Seed × Rules)) (r3 : (Seed × Driver)) (r5 : (Seed × Int)) (k49 : Int) (kn_49 : Int → Option Bool) : Option Bool :=
  bif (decide (k49 < (min (w64 (r4.2 + 60)) r137.1))) then
    (pMay r2.2 r3.2 k49 r5.2).bind fun r139 =>
    bif (r139.1 == 1) then
      bif (r139.2 == 0) then
        some false
      else
        kn_49 (w64 (k49 + 1))
    else
      kn_49 (w64 (k49 + 1))
  else
    (awake).bind fun r140 =>
    some r140
def CrewLeft_L26__50 (r4 : (Seed × Int)) (r2 : (Seed × Rules)) (r3 : (Seed × Driver)) (r5 : (Seed × Int)) (k50 : Int) (kn_50 : Int → Option Bool) : Option Bool :=
  bif (decide (k50 < (w64 (r4.2 + 60)))) then
    (pMay r2.2 r3.2 k50 r5.2).bind fun r141 =>
    bif (r141.1 == 1) then
      bif (r141.2 == 0) then
        some false
      else
        kn_50 (w64 (k50 + 1))
    else
      kn_50 (w64 (k50 + 1))
  else
    (awake).bind fun r142 =>
    some r142
def CrewLeft_L26__51 (r4 : (Seed × Int)) (r137 : (Int × Int)) (r2 : (Seed × Rules)) (r3 : (Seed × Driver)) (r5 : (Seed × Int)) (k51 : Int) (kn_51 : Int → Option Bool) : Option Bool :=
  bif (decide (k51 < (min (w64 (r4.2 + 60)) r137.1))) then
    (pMay r2.2 r3.2 k51 r5.2).bind fun r144 =>
    bif (r144.1 == 1) then
      bif (r144.2 == 0) then
        some false
      else
        kn_51 (w64 (k51 + 1))
    else
      kn_51 (w64 (k51 + 1))
  else
    (awake).bind fun r145 =>
    some r145
def CrewLeft_L26__52 (r4 : (Seed × Int)) (r2 : (Seed × Rules)) (r3 : (Seed × Driver)) (r5 : (Seed × Int)) (k52 : Int) (kn_52 : Int → Option Bool) : Option Bool :=
  bif (decide (k52 < (w64 (r4.2 + 60)))) then
    (pMay r2.2 r3.2 k52 r5.2).bind fun r146 =>
    bif (r146.1 == 1) then
      bif (r146.2 == 0) then
        some false
      else
        kn_52 (w64 (k52 + 1))
    else
      kn_52 (w64 (k52 + 1))
  else
    (awake).bind fun r147 =>
    some r147
def CrewLeft_L26__53 (r4 : (Seed × Int)) (r137 : (Int × Int)) (r2 : (Seed × Rules)) (r3 : (Seed × Driver)) (r5 : (Seed × Int)) (k53 : Int) (kn_53 : Int → Option Bool) : Option Bool :=
  bif (decide (k53 < (min (w64 (r4.2 + 60)) r137.1))) then
    (pMay r2.2 r3.2 k53 r5.2).bind fun r149 =>
    bif (r149.1 == 1) then
      bif (r149.2 == 0) then
        some false
      else
        kn_53 (w64 (k53 + 1))
    else
      kn_53 (w64 (k53 + 1))
  else
    (awake).bind fun r150 =>
    some r150
def CrewLeft_L26__54 (r4 : (Seed × Int)) (r2 : (Seed × Rules)) (r3 : (Seed × Driver)) (r5 : (Seed × Int)) (k54 : Int) (kn_54 : Int → Option Bool) : Option Bool :=
  bif (decide (k54 < (w64 (r4.2 + 60)))) then
    (pMay r2.2 r3.2 k54 r5.2).bind fun r151 =>
    bif (r151.1 == 1) then
      bif (r151.2 == 0) then
        some false
      else
        kn_54 (w64 (k54 + 1))
    else
      kn_54 (w64 (k54 + 1))
  else
    (awake).bind fun r152 =>
    some r152
def CrewLeft_L26__55 (r4 : (Seed × Int)) (r137 : (Int × Int)) (r2 : (Seed × Rules)) (r3 : (Seed × Driver)) (r5 : (Seed × Int)) (k55 : Int) (kn_55 : Int → Option Bool) : Option Bool :=
  bif (decide (k55 < (min (w64 (r4.2 + 60)) r137.1))) then
    (pMay r2.2 r3.2 k55 r5.2).bind fun r154 =>
    bif (r154.1 == 1) then
      bif (r154.2 == 0) then
        some false
      else
        kn_55 (w64 (k55 + 1))
    else
      kn_55 (w64 (k55 + 1))
  else
    (awake).bind fun r155 =>
    some r155
def CrewLeft_L26__56 (r4 : (Seed × Int)) (r2 : (Seed × Rules)) (r3 : (Seed × Driver)) (r5 : (Seed × Int)) (k56 : Int) (kn_56 : Int → Option Bool) : Option Bool :=
  bif (decide (k56 < (w64 (r4.2 + 60)))) then
    (pMay r2.2 r3.2 k56 r5.2).bind fun r156 =>
    bif (r156.1 == 1) then
      bif (r156.2 == 0) then
        some false
      else
        kn_56 (w64 (k56 + 1))
    else
      kn_56 (w64 (k56 + 1))
  else
    (awake).bind fun r157 =>
    some r157
def CrewLeft_L26__57 (r4 : (Seed × Int)) (r158 : (Int × Int)) (r2 : (Seed × Rules)) (r3 : (Seed × Driver)) (r5 : (Seed × Int)) (k57 : Int) (kn_57 : Int → Option Bool) : Option Bool :=
  bif (decide (k57 < (min (w64 (r4.2 + 60)) r158.1))) then
    (pMay r2.2 r3.2 k57 r5.2).bind fun r160 =>
    bif (r160.1 == 1) then
      bif (r160.2 == 0) then
        some false
      else
        kn_57 (w64 (k57 + 1))
    else
      kn_57 (w64 (k57 + 1))
  else
    (awake).bind fun r161 =>
    some r161
def CrewLeft_L26__58 (r4 : (Seed × Int)) (r2 : (Seed × Rules)) (r3 : (Seed × Driver)) (r5 : (Seed × Int)) (k58 : Int) (kn_58 : Int → Option Bool) : Option Bool :=
  bif (decide (k58 < (w64 (r4.2 + 60)))) then
    (pMay r2.2 r3.2 k58 r5.2).bind fun r162 =>
    bif (r162.1 == 1) then
      bif (r162.2 == 0) then
        some false
      else
        kn_58 (w64 (k58 + 1))
    else
      kn_58 (w64 (k58 + 1))
  else
    (awake).bind fun r163 =>
    some r163
def CrewLeft_L26__59 (r4 : (Seed × Int)) (r158 : (Int × Int)) (r2 : (Seed × Rules)) (r3 : (Seed × Driver)) (r5 : (Seed × Int)) (k59 : Int) (kn_59 : Int → Option Bool) : Option Bool :=
  bif (decide (k59 < (min (w64 (r4.2 + 60)) r158.1))) then
    (pMay r2.2 r3.2 k59 r5.2).bind fun r165 =>
    bif (r165.1 == 1) then
      bif (r165.2 == 0) then
        some false
      else
        kn_59 (w64 (k59 + 1))
    else
      kn_59 (w64 (k59 + 1))
  else
    (awake).bind fun r166 =>
    some r166
def CrewLeft_L26__60 (r4 : (Seed × Int)) (r2 : (Seed × Rules)) (r3 : (Seed × Driver)) (r5 : (Seed × Int)) (k60 : Int) (kn_60 : Int → Option Bool) : Option Bool :=
  bif (decide (k60 < (w64 (r4.2 + 60)))) then
    (pMay r2.2 r3.2 k60 r5.2).bind fun r167 =>
    bif (r167.1 == 1) then
      bif (r167.2 == 0) then
        some false
      else
        kn_60 (w64 (k60 + 1))
    else
      kn_60 (w64 (k60 + 1))
  else
    (awake).bind fun r168 =>
    some r168
def CrewLeft_L26__61 (r4 : (Seed × Int)) (r158 : (Int × Int)) (r2 : (Seed × Rules)) (r3 : (Seed × Driver)) (r5 : (Seed × Int)) (k61 : Int) (kn_61 : Int → Option Bool) : Option Bool :=
  bif (decide (k61 < (min (w64 (r4.2 + 60)) r158.1))) then
    (pMay r2.2 r3.2 k61 r5.2).bind fun r170 =>
    bif (r170.1 == 1) then
      bif (r170.2 == 0) then
        some false
      else
        kn_61 (w64 (k61 + 1))
    else
      kn_61 (w64 (k61 + 1))
  else
    (awake).bind fun r171 =>
    some r171
def CrewLeft_L26__62 (r4 : (Seed × Int)) (r2 : (Seed × Rules)) (r3 : (Seed × Driver)) (r5 : (Seed × Int)) (k62 : Int) (kn_62 : Int → Option Bool) : Option Bool :=
  bif (decide (k62 < (w64 (r4.2 + 60)))) then
    (pMay r2.2 r3.2 k62 r5.2).bind fun r172 =>
    bif (r172.1 == 1) then
      bif (r172.2 == 0) then
        some false
      else
        kn_62 (w64 (k62 + 1))
    else
      kn_62 (w64 (k62 + 1))
  else
    (awake).bind fun r173 =>
    some r173
def CrewLeft_L26__63 (r4 : (Seed × Int)) (r158 : (Int × Int)) (r2 : (Seed × Rules)) (r3 : (Seed × Driver)) (r5 : (Seed × Int)) (k63 : Int) (kn_63 : Int → Option Bool) : Option Bool :=
  bif (decide (k63 < (min (w64 (r4.2 + 60)) r158.1))) then
    (pMay r2.2 r3.2 k63 r5.2).bind fun r175 =>
    bif (r175.1 == 1) then
      bif (r175.2 == 0) then
        some false
      else
        kn_63 (w64 (k63 + 1))
    else
      kn_63 (w64 (k63 + 1))
  else
    (awake).bind fun r176 =>
    some r176
def CrewLeft_L26__64 (r4 : (Seed × Int)) (r2 : (Seed × Rules)) (r3 : (Seed × Driver)) (r5 : (Seed × Int)) (k64 : Int) (kn_64 : Int → Option Bool) : Option Bool :=
  bif (decide (k64 < (w64 (r4.2 + 60)))) then
    (pMay r2.2 r3.2 k64 r5.2).bind fun r177 =>
    bif (r177.1 == 1) then
      bif (r177.2 == 0) then
        some false
      else
        kn_64 (w64 (k64 + 1))
    else
      kn_64 (w64 (k64 + 1))
  else
    (awake).bind fun r178 =>
    some r178
def CrewLeft_L26__65 (r4 : (Seed × Int)) (r179 : (Int × Int)) (r2 : (Seed × Rules)) (r3 : (Seed × Driver)) (r5 : (Seed × Int)) (k65 : Int) (kn_65 : Int → Option Bool) : Option Bool :=
  bif (decide (k65 < (min (w64 (r4.2 + 60)) r179.1))) then
    (pMay r2.2 r3.2 k65 r5.2).bind fun r181 =>
    bif (r181.1 == 1) then
      bif (r181.2 == 0) then
        some false
      else
        kn_65 (w64 (k65 + 1))
    else
      kn_65 (w64 (k65 + 1))
  else
    (awake).bind fun r182 =>
    some r182
def CrewLeft_L26__66 (r4 : (Seed × Int)) (r2 : (Seed × Rules)) (r3 : (Seed × Driver)) (r5 : (Seed × Int)) (k66 : Int) (kn_66 : Int → Option Bool) : Option Bool :=
  bif (decide (k66 < (w64 (r4.2 + 60)))) then
    (pMay r2.2 r3.2 k66 r5.2).bind fun r183 =>
    bif (r183.1 == 1) then
      bif (r183.2 == 0) then
        some false
      else
        kn_66 (w64 (k66 + 1))
    else
      kn_66 (w64 (k66 + 1))
  else
    (awake).bind fun r184 =>
    some r184
def CrewLeft_L26__67 (r4 : (Seed × Int)) (r179 : (Int × Int)) (r2 : (Seed × Rules)) (r3 : (Seed × Driver)) (r5 : (Seed × Int)) (k67 : Int) (kn_67 : Int → Option Bool) : Option Bool :=
  bif (decide (k67 < (min (w64 (r4.2 + 60)) r179.1))) then
    (pMay r2.2 r3.2 k67 r5.2).bind fun r186 =>
    bif (r186.1 == 1) then
      bif (r186.2 == 0) then
        some false
      else
        kn_67 (w64 (k67 + 1))
    else
      kn_67 (w64 (k67 + 1))
  else
    (awake).bind fun r187 =>
    some r187
def CrewLeft_L26__68 (r4 : (Seed × Int)) (r2 : (Seed × Rules)) (r3 : (Seed × Driver)) (r5 : (Seed × Int)) (k68 : Int) (kn_68 : Int → Option Bool) : Option Bool :=
  bif (decide (k68 < (w64 (r4.2 + 60)))) then
    (pMay r2.2 r3.2 k68 r5.2).bind fun r188 =>
    bif (r188.1 == 1) then
      bif (r188.2 == 0) then
        some false
      else
        kn_68 (w64 (k68 + 1))
    else
      kn_68 (w64 (k68 + 1))
  else
    (awake).bind fun r189 =>
    some r189
def CrewLeft_L26__69 (r4 : (Seed × Int)) (r179 : (Int × Int)) (r2 : (Seed × Rules)) (r3 : (Seed × Driver)) (r5 : (Seed × Int)) (k69 : Int) (kn_69 : Int → Option Bool) : Option Bool :=
  bif (decide (k69 < (min (w64 (r4.2 + 60)) r179.1))) then
    (pMay r2.2 r3.2 k69 r5.2).bind fun r191 =>
    bif (r191.1 == 1) then
      bif (r191.2 == 0) then
        some false
      else
        kn_69 (w64 (k69 + 1))
    else
      kn_69 (w64 (k69 + 1))
  else
    (awake).bind fun r192 =>
    some r192
def CrewLeft_L26__70 (r4 : (Seed × Int)) (r2 : (Seed × Rules)) (r3 : (Seed × Driver)) (r5 : (Seed × Int)) (k70 : Int) (kn_70 : Int → Option Bool) : Option Bool :=
  bif (decide (k70 < (w64 (r4.2 + 60)))) then
    (pMay r2.2 r3.2 k70 r5.2).bind fun r193 =>
    bif (r193.1 == 1) then
      bif (r193.2 == 0) then
        some false
      else
        kn_70 (w64 (k70 + 1))
    else
      kn_70 (w64 (k70 + 1))
  else
    (awake).bind fun r194 =>
    some r194
def CrewLeft_L26__71 (r4 : (Seed × Int)) (r179 : (Int × Int)) (r2 : (Seed × Rules)) (r3 : (Seed × Driver)) (r5 : (Seed × Int)) (k71 : Int) (kn_71 : Int → Option Bool) : Option Bool :=
  bif (decide (k71 < (min (w64 (r4.2 + 60)) r179.1))) then
    (pMay r2.2 r3.2 k71 r5.2).bind fun r196 =>
    bif (r196.1 == 1) then
      bif (r196.2 == 0) then
        some false
      else
        kn_71 (w64 (k71 + 1))
    else
      kn_71 (w64 (k71 + 1))
  else
    (awake).bind fun r197 =>
    some r197
def CrewLeft_L26__72 (r4 : (Seed × Int)) (r2 : (Seed × Rules)) (r3 : (Seed × Driver)) (r5 : (Seed × Int)) (k72 : Int) (kn_72 : Int → Option Bool) : Option Bool :=
  bif (decide (k72 < (w64 (r4.2 + 60)))) then
    (pMay r2.2 r3.2 k72 r5.2).bind fun r198 =>
    bif (r198.1 == 1) then
      bif (r198.2 == 0) then
        some false
      else
        kn_72 (w64 (k72 + 1))
    else
      kn_72 (w64 (k72 + 1))
  else
    (awake).bind fun r199 =>
    some r199
def CrewLeft_L26__73 (r4 : (Seed × Int)) (r200 : (Int × Int)) (r2 : (Seed × Rules)) (r3 : (Seed × Driver)) (r5 : (Seed × Int)) (k73 : Int) (kn_73 : Int → Option Bool) : Option Bool :=
  bif (decide (k73 < (min (w64 (r4.2 + 60)) r200.1))) then
    (pMay r2.2 r3.2 k73 r5.2).bind fun r202 =>
    bif (r202.1 == 1) then
      bif (r202.2 == 0) then
        some false
      else
        kn_73 (w64 (k73 + 1))
    else
      kn_73 (w64 (k73 + 1))
  else
    (awake).bind fun r203 =>
    some r203
def CrewLeft_L26__74 (r4 : (Seed × Int)) (r2 : (Seed × Rules)) (r3 : (Seed × Driver)) (r5 : (Seed × Int)) (k74 : Int) (kn_74 : Int → Option Bool) : Option Bool :=
  bif (decide (k74 < (w64 (r4.2 + 60)))) then
    (pMay r2.2 r3.2 k74 r5.2).bind fun r204 =>
    bif (r204.1 == 1) then
      bif (r204.2 == 0) then
        some false
      else
        kn_74 (w64 (k74 + 1))
    else
      kn_74 (w64 (k74 + 1))
  else
    (awake).bind fun r205 =>
    some r205
def CrewLeft_L26__75 (r4 : (Seed × Int)) (r200 : (Int × Int)) (r2 : (Seed × Rules)) (r3 : (Seed × Driver)) (r5 : (Seed × Int)) (k75 : Int) (kn_75 : Int → Option Bool) : Option Bool :=
  bif (decide (k75 < (min (w64 (r4.2 + 60)) r200.1))) then
    (pMay r2.2 r3.2 k75 r5.2).bind fun r207 =>
    bif (r207.1 == 1) then
      bif (r207.2 == 0) then
        some false
      else
        kn_75 (w64 (k75 + 1))
    else
      kn_75 (w64 (k75 + 1))
  else
    (awake).bind fun r208 =>
    some r208
def CrewLeft_L26__76 (r4 : (Seed × Int)) (r2 : (Seed × Rules)) (r3 : (Seed × Driver)) (r5 : (Seed × Int)) (k76 : Int) (kn_76 : Int → Option Bool) : Option Bool :=
  bif (decide (k76 < (w64 (r4.2 + 60)))) then
    (pMay r2.2 r3.2 k76 r5.2).bind fun r209 =>
    bif (r209.1 == 1) then
      bif (r209.2 == 0) then
        some false
      else
        kn_76 (w64 (k76 + 1))
    else
      kn_76 (w64 (k76 + 1))
  else
    (awake).bind fun r210 =>
    some r210
def CrewLeft_L26__77 (r4 : (Seed × Int)) (r200 : (Int × Int)) (r2 : (Seed × Rules)) (r3 : (Seed × Driver)) (r5 : (Seed × Int)) (k77 : Int) (kn_77 : Int → Option Bool) : Option Bool :=
  bif (decide (k77 < (min (w64 (r4.2 + 60)) r200.1))) then
    (pMay r2.2 r3.2 k77 r5.2).bind fun r212 =>
    bif (r212.1 == 1) then
      bif (r212.2 == 0) then
        some false
      else
        kn_77 (w64 (k77 + 1))
    else
      kn_77 (w64 (k77 + 1))
  else
    (awake).bind fun r213 =>
    some r213
def CrewLeft_L26__78 (r4 : (Seed × Int)) (r2 : (Seed × Rules)) (r3 : (Seed × Driver)) (r5 : (Seed × Int)) (k78 : Int) (kn_78 : Int → Option Bool) : Option Bool :=
  bif (decide (k78 < (w64 (r4.2 + 60)))) then
    (pMay r2.2 r3.2 k78 r5.2).bind fun r214 =>
    bif (r214.1 == 1) then
      bif (r214.2 == 0) then
        some false
      else
        kn_78 (w64 (k78 + 1))
    else
      kn_78 (w64 (k78 + 1))
  else
    (awake).bind fun r215 =>
    some r215
def CrewLeft_L26__79 (r4 : (Seed × Int)) (r200 : (Int × Int)) (r2 : (Seed × Rules)) (r3 : (Seed × Driver)) (r5 : (Seed × Int)) (k79 : Int) (kn_79 : Int → Option Bool) : Option Bool :=
  bif (decide (k79 < (min (w64 (r4.2 + 60)) r200.1))) then
    (pMay r2.2 r3.2 k79 r5.2).bind fun r217 =>
    bif (r217.1 == 1) then
      bif (r217.2 == 0) then
        some false
      else
        kn_79 (w64 (k79 + 1))
    else
      kn_79 (w64 (k79 + 1))
  else
    (awake).bind fun r218 =>
    some r218
def CrewLeft_L26__80 (r4 : (Seed × Int)) (r2 : (Seed × Rules)) (r3 : (Seed × Driver)) (r5 : (Seed × Int)) (k80 : Int) (kn_80 : Int → Option Bool) : Option Bool :=
  bif (decide (k80 < (w64 (r4.2 + 60)))) then
    (pMay r2.2 r3.2 k80 r5.2).bind fun r219 =>
    bif (r219.1 == 1) then
      bif (r219.2 == 0) then
        some false
      else
        kn_80 (w64 (k80 + 1))
    else
      kn_80 (w64 (k80 + 1))
  else
    (awake).bind fun r220 =>
    some r220
def CrewLeft_L26__81 (r4 : (Seed × Int)) (r221 : (Int × Int)) (r2 : (Seed × Rules)) (r3 : (Seed × Driver)) (r5 : (Seed × Int)) (k81 : Int) (kn_81 : Int → Option Bool) : Option Bool :=
  bif (decide (k81 < (min (w64 (r4.2 + 60)) r221.1))) then
    (pMay r2.2 r3.2 k81 r5.2).bind fun r223 =>
    bif (r223.1 == 1) then
      bif (r223.2 == 0) then
        some false
      else
        kn_81 (w64 (k81 + 1))
    else
      kn_81 (w64 (k81 + 1))
  else
    (awake).bind fun r224 =>
    some r224
def CrewLeft_L26__82 (r4 : (Seed × Int)) (r2 : (Seed × Rules)) (r3 : (Seed × Driver)) (r5 : (Seed × Int)) (k82 : Int) (kn_82 : Int → Option Bool) : Option Bool :=
  bif (decide (k82 < (w64 (r4.2 + 60)))) then
    (pMay r2.2 r3.2 k82 r5.2).bind fun r225 =>
    bif (r225.1 == 1) then
      bif (r225.2 == 0) then
        some false
      else
        kn_82 (w64 (k82 + 1))
    else
      kn_82 (w64 (k82 + 1))
  else
    (awake).bind fun r226 =>
    some r226
def CrewLeft_L26__83 (r4 : (Seed × Int)) (r221 : (Int × Int)) (r2 : (Seed × Rules)) (r3 : (Seed × Driver)) (r5 : (Seed × Int)) (k83 : Int) (kn_83 : Int → Option Bool) : Option Bool :=
  bif (decide (k83 < (min (w64 (r4.2 + 60)) r221.1))) then
    (pMay r2.2 r3.2 k83 r5.2).bind fun r228 =>
    bif (r228.1 == 1) then
      bif (r228.2 == 0) then
        some false
      else
        kn_83 (w64 (k83 + 1))
    else
      kn_83 (w64 (k83 + 1))
  else
    (awake).bind fun r229 =>
    some r229
def CrewLeft_L26__84 (r4 : (Seed × Int)) (r2 : (Seed × Rules)) (r3 : (Seed × Driver)) (r5 : (Seed × Int)) (k84 : Int) (kn_84 : Int → Option Bool) : Option Bool :=
  bif (decide (k84 < (w64 (r4.2 + 60)))) then
    (pMay r2.2 r3.2 k84 r5.2).bind fun r230 =>
    bif (r230.1 == 1) then
      bif (r230.2 == 0) then
        some false
      else
        kn_84 (w64 (k84 + 1))
    else
      kn_84 (w64 (k84 + 1))
  else
    (awake).bind fun r231 =>
    some r231
def CrewLeft_L26__85 (r4 : (Seed × Int)) (r221 : (Int × Int)) (r2 : (Seed × Rules)) (r3 : (Seed × Driver)) (r5 : (Seed × Int)) (k85 : Int) (kn_85 : Int → Option Bool) : Option Bool :=
  bif (decide (k85 < (min (w64 (r4.2 + 60)) r221.1))) then
    (pMay r2.2 r3.2 k85 r5.2).bind fun r233 =>
    bif (r233.1 == 1) then
      bif (r233.2 == 0) then
        some false
      else
        kn_85 (w64 (k85 + 1))
    else
      kn_85 (w64 (k85 + 1))
  else
    (awake).bind fun r234 =>
    some r234
def CrewLeft_L26__86 (r4 : (Seed × Int)) (r2 : (Seed × Rules)) (r3 : (Seed × Driver)) (r5 : (Seed × Int)) (k86 : Int) (kn_86 : Int → Option Bool) : Option Bool :=
  bif (decide (k86 < (w64 (r4.2 + 60)))) then
    (pMay r2.2 r3.2 k86 r5.2).bind fun r235 =>
    bif (r235.1 == 1) then
      bif (r235.2 == 0) then
        some false
      else
        kn_86 (w64 (k86 + 1))
    else
      kn_86 (w64 (k86 + 1))
  else
    (awake).bind fun r236 =>
    some r236
def CrewLeft_L26__87 (r4 : (Seed × Int)) (r221 : (Int × Int)) (r2 : (Seed × Rules)) (r3 : (Seed × Driver)) (r5 : (Seed × Int)) (k87 : Int) (kn_87 : Int → Option Bool) : Option Bool :=
  bif (decide (k87 < (min (w64 (r4.2 + 60)) r221.1))) then
    (pMay r2.2 r3.2 k87 r5.2).bind fun r238 =>
    bif (r238.1 == 1) then
      bif (r238.2 == 0) then
        some false
      else
        kn_87 (w64 (k87 + 1))
    else
      kn_87 (w64 (k87 + 1))
  else
    (awake).bind fun r239 =>
    some r239
def CrewLeft_L26__88 (r4 : (Seed × Int)) (r2 : (Seed × Rules)) (r3 : (Seed × Driver)) (r5 : (Seed × Int)) (k88 : Int) (kn_88 : Int → Option Bool) : Option Bool :=
  bif (decide (k88 < (w64 (r4.2 + 60)))) then
    (pMay r2.2 r3.2 k88 r5.2).bind fun r240 =>
    bif (r240.1 == 1) then
      bif (r240.2 == 0) then
        some false
      else
        kn_88 (w64 (k88 + 1))
    else
      kn_88 (w64 (k88 + 1))
  else
    (awake).bind fun r241 =>
    some r241
def CrewLeft_L26__89 (r4 : (Seed × Int)) (r242 : (Int × Int)) (r2 : (Seed × Rules)) (r3 : (Seed × Driver)) (r5 : (Seed × Int)) (k89 : Int) (kn_89 : Int → Option Bool) : Option Bool :=
  bif (decide (k89 < (min (w64 (r4.2 + 60)) r242.1))) then
    (pMay r2.2 r3.2 k89 r5.2).bind fun r244 =>
    bif (r244.1 == 1) then
      bif (r244.2 == 0) then
        some false
      else
        kn_89 (w64 (k89 + 1))
    else
      kn_89 (w64 (k89 + 1))
  else
    (awake).bind fun r245 =>
    some r245
def CrewLeft_L26__90 (r4 : (Seed × Int)) (r2 : (Seed × Rules)) (r3 : (Seed × Driver)) (r5 : (Seed × Int)) (k90 : Int) (kn_90 : Int → Option Bool) : Option Bool :=
  bif (decide (k90 < (w64 (r4.2 + 60)))) then
    (pMay r2.2 r3.2 k90 r5.2).bind fun r246 =>
    bif (r246.1 == 1) then
      bif (r246.2 == 0) then
        some false
      else
        kn_90 (w64 (k90 + 1))
    else
      kn_90 (w64 (k90 + 1))
  else
    (awake).bind fun r247 =>
    some r247
def CrewLeft_L26__91 (r4 : (Seed × Int)) (r242 : (Int × Int)) (r2 : (Seed × Rules)) (r3 : (Seed × Driver)) (r5 : (Seed × Int)) (k91 : Int) (kn_91 : Int → Option Bool) : Option Bool :=
  bif (decide (k91 < (min (w64 (r4.2 + 60)) r242.1))) then
    (pMay r2.2 r3.2 k91 r5.2).bind fun r249 =>
    bif (r249.1 == 1) then
      bif (r249.2 == 0) then
        some false
      else
        kn_91 (w64 (k91 + 1))
    else
      kn_91 (w64 (k91 + 1))
  else
    (awake).bind fun r250 =>
    some r250
def CrewLeft_L26__92 (r4 : (Seed × Int)) (r2 : (Seed × Rules)) (r3 : (Seed × Driver)) (r5 : (Seed × Int)) (k92 : Int) (kn_92 : Int → Option Bool) : Option Bool :=
  bif (decide (k92 < (w64 (r4.2 + 60)))) then
    (pMay r2.2 r3.2 k92 r5.2).bind fun r251 =>
    bif (r251.1 == 1) then
      bif (r251.2 == 0) then
        some false
      else
        kn_92 (w64 (k92 + 1))
    else
      kn_92 (w64 (k92 + 1))
  else
    (awake).bind fun r252 =>
    some r252
def CrewLeft_L26__93 (r4 : (Seed × Int)) (r242 : (Int × Int)) (r2 : (Seed × Rules)) (r3 : (Seed × Driver)) (r5 : (Seed × Int)) (k93 : Int) (kn_93 : Int → Option Bool) : Option Bool :=
  bif (decide (k93 < (min (w64 (r4.2 + 60)) r242.1))) then
    (pMay r2.2 r3.2 k93 r5.2).bind fun r254 =>
    bif (r254.1 == 1) then
      bif (r254.2 == 0) then
        some false
      else
        kn_93 (w64 (k93 + 1))
    else
      kn_93 (w64 (k93 + 1))
  else
    (awake).bind fun r255 =>
    some r255
def CrewLeft_L26__94 (r4 : (Seed × Int)) (r2 : (Seed × Rules)) (r3 : (Seed × Driver)) (r5 : (Seed × Int)) (k94 : Int) (kn_94 : Int → Option Bool) : Option Bool :=
  bif (decide (k94 < (w64 (r4.2 + 60)))) then
    (pMay r2.2 r3.2 k94 r5.2).bind fun r256 =>
    bif (r256.1 == 1) then
      bif (r256.2 == 0) then
        some false
      else
        kn_94 (w64 (k94 + 1))
    else
      kn_94 (w64 (k94 + 1))
  else
    (awake).bind fun r257 =>
    some r257
def CrewLeft_L26__95 (r4 : (Seed × Int)) (r242 : (Int × Int)) (r2 : (Seed × Rules)) (r3 : (Seed × Driver)) (r5 : (Seed × Int)) (k95 : Int) (kn_95 : Int → Option Bool) : Option Bool :=
  bif (decide (k95 < (min (w64 (r4.2 + 60)) r242.1))) then
    (pMay r2.2 r3.2 k95 r5.2).bind fun r259 =>
    bif (r259.1 == 1) then
      bif (r259.2 == 0) then
        some false
      else
        kn_95 (w64 (k95 + 1))
    else
      kn_95 (w64 (k95 + 1))
  else
    (awake).bind fun r260 =>
    some r260
def CrewLeft_L26__96 (r4 : (Seed × Int)) (r2 : (Seed × Rules)) (r3 : (Seed × Driver)) (r5 : (Seed × Int)) (k96 : Int) (kn_96 : Int → Option Bool) : Option Bool :=
  bif (decide (k96 < (w64 (r4.2 + 60)))) then
    (pMay r2.2 r3.2 k96 r5.2).bind fun r261 =>
    bif (r261.1 == 1) then
      bif (r261.2 == 0) then
        some false
      else
        kn_96 (w64 (k96 + 1))
    else
      kn_96 (w64 (k96 + 1))
  else
    (awake).bind fun r262 =>
    some r262
def CrewLeft_L26__97 (r4 : (Seed × Int)) (r264 : (Int × Int)) (r2 : (Seed × Rules)) (r3 : (Seed × Driver)) (r5 : (Seed × Int)) (k97 : Int) (kn_97 : Int → Option Bool) : Option Bool :=
  bif (decide (k97 < (min (w64 (r4.2 + 60)) r264.1))) then
    (pMay r2.2 r3.2 k97 r5.2).bind fun r266 =>
    bif (r266.1 == 1) then
      bif (r266.2 == 0) then
        some false
      else
        kn_97 (w64 (k97 + 1))
    else
      kn_97 (w64 (k97 + 1))
  else
    (awake).bind fun r267 =>
    some r267
def CrewLeft_L26__98 (r4 : (Seed × Int)) (r2 : (Seed × Rules)) (r3 : (Seed × Driver)) (r5 : (Seed × Int)) (k98 : Int) (kn_98 : Int → Option Bool) : Option Bool :=
  bif (decide (k98 < (w64 (r4.2 + 60)))) then
    (pMay r2.2 r3.2 k98 r5.2).bind fun r268 =>
    bif (r268.1 == 1) then
      bif (r268.2 == 0) then
        some false
      else
        kn_98 (w64 (k98 + 1))
    else
      kn_98 (w64 (k98 + 1))
  else
    (awake).bind fun r269 =>
    some r269
def CrewLeft_L26__99 (r4 : (Seed × Int)) (r264 : (Int × Int)) (r2 : (Seed × Rules)) (r3 : (Seed × Driver)) (r5 : (Seed × Int)) (k99 : Int) (kn_99 : Int → Option Bool) : Option Bool :=
  bif (decide (k99 < (min (w64 (r4.2 + 60)) r264.1))) then
    (pMay r2.2 r3.2 k99 r5.2).bind fun r271 =>
    bif (r271.1 == 1) then
      bif (r271.2 == 0) then
        some false
      else
        kn_99 (w64 (k99 + 1))
    else
      kn_99 (w64 (k99 + 1))
  else
    (awake).bind fun r272 =>
    some r272
def CrewLeft_L26__100 (r4 : (Seed × Int)) (r2 : (Seed × Rules)) (r3 : (Seed × Driver)) (r5 : (Seed × Int)) (k100 : Int) (kn_100 : Int → Option Bool) : Option Bool :=
  bif (decide (k100 < (w64 (r4.2 + 60)))) then
    (pMay r2.2 r3.2 k100 r5.2).bind fun r273 =>
    bif (r273.1 == 1) then
      bif (r273.2 == 0) then
        some false
      else
        kn_100 (w64 (k100 + 1))
    else
      kn_100 (w64 (k100 + 1))
  else
    (awake).bind fun r274 =>
    some r274
def CrewLeft_L26__101 (r4 : (Seed × Int)) (r264 : (Int × Int)) (r2 : (Seed × Rules)) (r3 : (Seed × Driver)) (r5 : (Seed × Int)) (k101 : Int) (kn_101 : Int → Option Bool) : Option Bool :=
  bif (decide (k101 < (min (w64 (r4.2 + 60)) r264.1))) then
    (pMay r2.2 r3.2 k101 r5.2).bind fun r276 =>
    bif (r276.1 == 1) then
      bif (r276.2 == 0) then
        some false
      else
        kn_101 (w64 (k101 + 1))
    else
      kn_101 (w64 (k101 + 1))
  else
    (awake).bind fun r277 =>
    some r277
def CrewLeft_L26__102 (r4 : (Seed × Int)) (r2 : (Seed × Rules)) (r3 : (Seed × Driver)) (r5 : (Seed × Int)) (k102 : Int) (kn_102 : Int → Option Bool) : Option Bool :=
  bif (decide (k102 < (w64 (r4.2 + 60)))) then
    (pMay r2.2 r3.2 k102 r5.2).bind fun r278 =>
    bif (r278.1 == 1) then
      bif (r278.2 == 0) then
        some false
      else
        kn_102 (w64 (k102 + 1))
    else
      kn_102 (w64 (k102 + 1))
  else
    (awake).bind fun r279 =>
    some r279
def CrewLeft_L26__103 (r4 : (Seed × Int)) (r264 : (Int × Int)) (r2 : (Seed × Rules)) (r3 : (Seed × Driver)) (r5 : (Seed × Int)) (k103 : Int) (kn_103 : Int → Option Bool) : Option Bool :=
  bif (decide (k103 < (min (w64 (r4.2 + 60)) r264.1))) then
    (pMay r2.2 r3.2 k103 r5.2).bind fun r281 =>
    bif (r281.1 == 1) then
      bif (r281.2 == 0) then
        some false
      else
        kn_103 (w64 (k103 + 1))
    else
      kn_103 (w64 (k103 + 1))
  else
    (awake).bind fun r282 =>
    some r282
def CrewLeft_L26__104 (r4 : (Seed × Int)) (r2 : (Seed × Rules)) (r3 : (Seed × Driver)) (r5 : (Seed × Int)) (k104 : Int) (kn_104 : Int → Option Bool) : Option Bool :=
  bif (decide (k104 < (w64 (r4.2 + 60)))) then
    (pMay r2.2 r3.2 k104 r5.2).bind fun r283 =>
    bif (r283.1 == 1) then
      bif (r283.2 == 0) then
        some false
      else
        kn_104 (w64 (k104 + 1))
    else
      kn_104 (w64 (k104 + 1))
  else
    (awake).bind fun r284 =>
    some r284
def CrewLeft_L26__105 (r4 : (Seed × Int)) (r285 : (Int × Int)) (r2 : (Seed × Rules)) (r3 : (Seed × Driver)) (r5 : (Seed × Int)) (k105 : Int) (kn_105 : Int → Option Bool) : Option Bool :=
  bif (decide (k105 < (min (w64 (r4.2 + 60)) r285.1))) then
    (pMay r2.2 r3.2 k105 r5.2).bind fun r287 =>
    bif (r287.1 == 1) then
      bif (r287.2 == 0) then
        some false
      else
        kn_105 (w64 (k105 + 1))
    else
      kn_105 (w64 (k105 + 1))
  else
    (awake).bind fun r288 =>
    some r288
def CrewLeft_L26__106 (r4 : (Seed × Int)) (r2 : (Seed × Rules)) (r3 : (Seed × Driver)) (r5 : (Seed × Int)) (k106 : Int) (kn_106 : Int → Option Bool) : Option Bool :=
  bif (decide (k106 < (w64 (r4.2 + 60)))) then
    (pMay r2.2 r3.2 k106 r5.2).bind fun r289 =>
    bif (r289.1 == 1) then
      bif (r289.2 == 0) then
        some false
      else
        kn_106 (w64 (k106 + 1))
    else
      kn_106 (w64 (k106 + 1))
  else
    (awake).bind fun r290 =>
    some r290
def CrewLeft_L26__107 (r4 : (Seed × Int)) (r285 : (Int × Int)) (r2 : (Seed × Rules)) (r3 : (Seed × Driver)) (r5 : (Seed × Int)) (k107 : Int) (kn_107 : Int → Option Bool) : Option Bool :=
  bif (decide (k107 < (min (w64 (r4.2 + 60)) r285.1))) then
    (pMay r2.2 r3.2 k107 r5.2).bind fun r292 =>
    bif (r292.1 == 1) then
      bif (r292.2 == 0) then
        some false
      else
        kn_107 (w64 (k107 + 1))
    else
      kn_107 (w64 (k107 + 1))
  else
    (awake).bind fun r293 =>
    some r293
def CrewLeft_L26__108 (r4 : (Seed × Int)) (r2 : (Seed × Rules)) (r3 : (Seed × Driver)) (r5 : (Seed × Int)) (k108 : Int) (kn_108 : Int → Option Bool) : Option Bool :=
  bif (decide (k108 < (w64 (r4.2 + 60)))) then
    (pMay r2.2 r3.2 k108 r5.2).bind fun r294 =>
    bif (r294.1 == 1) then
      bif (r294.2 == 0) then
        some false
      else
        kn_108 (w64 (k108 + 1))
    else
      kn_108 (w64 (k108 + 1))
  else
    (awake).bind fun r295 =>
    some r295
def CrewLeft_L26__109 (r4 : (Seed × Int)) (r285 : (Int × Int)) (r2 : (Seed × Rules)) (r3 : (Seed × Driver)) (r5 : (Seed × Int)) (k109 : Int) (kn_109 : Int → Option Bool) : Option Bool :=
  bif (decide (k109 < (min (w64 (r4.2 + 60)) r285.1))) then
    (pMay r2.2 r3.2 k109 r5.2).bind fun r297 =>
    bif (r297.1 == 1) then
      bif (r297.2 == 0) then
        some false
      else
        kn_109 (w64 (k109 + 1))
    else
      kn_109 (w64 (k109 + 1))
  else
    (awake).bind fun r298 =>
    some r298
def CrewLeft_L26__110 (r4 : (Seed × Int)) (r2 : (Seed × Rules)) (r3 : (Seed × Driver)) (r5 : (Seed × Int)) (k110 : Int) (kn_110 : Int → Option Bool) : Option Bool :=
  bif (decide (k110 < (w64 (r4.2 + 60)))) then
    (pMay r2.2 r3.2 k110 r5.2).bind fun r299 =>
    bif (r299.1 == 1) then
      bif (r299.2 == 0) then
        some false
      else
        kn_110 (w64 (k110 + 1))
    else
      kn_110 (w64 (k110 + 1))
  else
    (awake).bind fun r300 =>
    some r300
def CrewLeft_L26__111 (r4 : (Seed × Int)) (r285 : (Int × Int)) (r2 : (Seed × Rules)) (r3 : (Seed × Driver)) (r5 : (Seed × Int)) (k111 : Int) (kn_111 : Int → Option Bool) : Option Bool :=
  bif (decide (k111 < (min (w64 (r4.2 + 60)) r285.1))) then
    (pMay r2.2 r3.2 k111 r5.2).bind fun r302 =>
    bif (r302.1 == 1) then
      bif (r302.2 == 0) then
        some false
      else
        kn_111 (w64 (k111 + 1))
    else
      kn_111 (w64 (k111 + 1))
  else
    (awake).bind fun r303 =>
    some r303
def CrewLeft_L26__112 (r4 : (Seed × Int)) (r2 : (Seed × Rules)) (r3 : (Seed × Driver)) (r5 : (Seed × Int)) (k112 : Int) (kn_112 : Int → Option Bool) : Option Bool :=
  bif (decide (k112 < (w64 (r4.2 + 60)))) then
    (pMay r2.2 r3.2 k112 r5.2).bind fun r304 =>
    bif (r304.1 == 1) then
      bif (r304.2 == 0) then
        some false
      else
        kn_112 (w64 (k112 + 1))
    else
      kn_112 (w64 (k112 + 1))
  else
    (awake).bind fun r305 =>
    some r305
def CrewLeft_L26__113 (r4 : (Seed × Int)) (r306 : (Int × Int)) (r2 : (Seed × Rules)) (r3 : (Seed × Driver)) (r5 : (Seed × Int)) (k113 : Int) (kn_113 : Int → Option Bool) : Option Bool :=
  bif (decide (k113 < (min (w64 (r4.2 + 60)) r306.1))) then
    (pMay r2.2 r3.2 k113 r5.2).bind fun r308 =>
    bif (r308.1 == 1) then
      bif (r308.2 == 0) then
        some false
      else
        kn_113 (w64 (k113 + 1))
    else
      kn_113 (w64 (k113 + 1))
  else
    (awake).bind fun r309 =>
    some r309
def CrewLeft_L26__114 (r4 : (Seed × Int)) (r2 : (Seed × Rules)) (r3 : (Seed × Driver)) (r5 : (Seed × Int)) (k114 : Int) (kn_114 : Int → Option Bool) : Option Bool :=
  bif (decide (k114 < (w64 (r4.2 + 60)))) then
    (pMay r2.2 r3.2 k114 r5.2).bind fun r310 =>
    bif (r310.1 == 1) then
      bif (r310.2 == 0) then
        some false
      else
        kn_114 (w64 (k114 + 1))
    else
      kn_114 (w64 (k114 + 1))
  else
    (awake).bind fun r311 =>
    some r311
def CrewLeft_L26__115 (r4 : (Seed × Int)) (r306 : (Int × Int)) (r2 : (Seed × Rules)) (r3 : (Seed × Driver)) (r5 : (Seed × Int)) (k115 : Int) (kn_115 : Int → Option Bool) : Option Bool :=
  bif (decide (k115 < (min (w64 (r4.2 + 60)) r306.1))) then
    (pMay r2.2 r3.2 k115 r5.2).bind fun r313 =>
    bif (r313.1 == 1) then
      bif (r313.2 == 0) then
        some false
      else
        kn_115 (w64 (k115 + 1))
    else
      kn_115 (w64 (k115 + 1))
  else
    (awake).bind fun r314 =>
    some r314
def CrewLeft_L26__116 (r4 : (Seed × Int)) (r2 : (Seed × Rules)) (r3 : (Seed × Driver)) (r5 : (Seed × Int)) (k116 : Int) (kn_116 : Int → Option Bool) : Option Bool :=
  bif (decide (k116 < (w64 (r4.2 + 60)))) then
    (pMay r2.2 r3.2 k116 r5.2).bind fun r315 =>
    bif (r315.1 == 1) then
      bif (r315.2 == 0) then
        some false
      else
        kn_116 (w64 (k116 + 1))
    else
      kn_116 (w64 (k116 + 1))
  else
    (awake).bind fun r316 =>
    some r316
def CrewLeft_L26__117 (r4 : (Seed × Int)) (r306 : (Int × Int)) (r2 : (Seed × Rules)) (r3 : (Seed × Driver)) (r5 : (Seed × Int)) (k117 : Int) (kn_117 : Int → Option Bool) : Option Bool :=
  bif (decide (k117 < (min (w64 (r4.2 + 60)) r306.1))) then
    (pMay r2.2 r3.2 k117 r5.2).bind fun r318 =>
    bif (r318.1 == 1) then
      bif (r318.2 == 0) then
        some false
      else
        kn_117 (w64 (k117 + 1))
    else
      kn_117 (w64 (k117 + 1))
  else
    (awake).bind fun r319 =>
    some r319
def CrewLeft_L26__118 (r4 : (Seed × Int)) (r2 : (Seed × Rules)) (r3 : (Seed × Driver)) (r5 : (Seed × Int)) (k118 : Int) (kn_118 : Int → Option Bool) : Option Bool :=
  bif (decide (k118 < (w64 (r4.2 + 60)))) then
    (pMay r2.2 r3.2 k118 r5.2).bind fun r320 =>
    bif (r320.1 == 1) then
      bif (r320.2 == 0) then
        some false
      else
        kn_118 (w64 (k118 + 1))
    else
      kn_118 (w64 (k118 + 1))
  else
    (awake).bind fun r321 =>
    some r321
def CrewLeft_L26__119 (r4 : (Seed × Int)) (r306 : (Int × Int)) (r2 : (Seed × Rules)) (r3 : (Seed × Driver)) (r5 : (Seed × Int)) (k119 : Int) (kn_119 : Int → Option Bool) : Option Bool :=
  bif (decide (k119 < (min (w64 (r4.2 + 60)) r306.1))) then
    (pMay r2.2 r3.2 k119 r5.2).bind fun r323 =>
    bif (r323.1 == 1) then
      bif (r323.2 == 0) then
        some false
      else
        kn_119 (w64 (k119 + 1))
    else
      kn_119 (w64 (k119 + 1))
  else
    (awake).bind fun r324 =>
    some r324
def CrewLeft_L26__120 (r4 : (Seed × Int)) (r2 : (Seed × Rules)) (r3 : (Seed × Driver)) (r5 : (Seed × Int)) (k120 : Int) (kn_120 : Int → Option Bool) : Option Bool :=
  bif (decide (k120 < (w64 (r4.2 + 60)))) then
    (pMay r2.2 r3.2 k120 r5.2).bind fun r325 =>
    bif (r325.1 == 1) then
      bif (r325.2 == 0) then
        some false
      else
        kn_120 (w64 (k120 + 1))
    else
      kn_120 (w64 (k120 + 1))
  else
    (awake).bind fun r326 =>
    some r326
def CrewLeft_L26__121 (r4 : (Seed × Int)) (r327 : (Int × Int)) (r2 : (Seed × Rules)) (r3 : (Seed × Driver)) (r5 : (Seed × Int)) (k121 : Int) (kn_121 : Int → Option Bool) : Option Bool :=
  bif (decide (k121 < (min (w64 (r4.2 + 60)) r327.1))) then
    (pMay r2.2 r3.2 k121 r5.2).bind fun r329 =>
    bif (r329.1 == 1) then
      bif (r329.2 == 0) then
        some false
      else
        kn_121 (w64 (k121 + 1))
    else
      kn_121 (w64 (k121 + 1))
  else
    (awake).bind fun r330 =>
    some r330
def CrewLeft_L26__122 (r4 : (Seed × Int)) (r2 : (Seed × Rules)) (r3 : (Seed × Driver)) (r5 : (Seed × Int)) (k122 : Int) (kn_122 : Int → Option Bool) : Option Bool :=
  bif (decide (k122 < (w64 (r4.2 + 60)))) then
    (pMay r2.2 r3.2 k122 r5.2).bind fun r331 =>
    bif (r331.1 == 1) then
      bif (r331.2 == 0) then
        some false
      else
        kn_122 (w64 (k122 + 1))
    else
      kn_122 (w64 (k122 + 1))
  else
    (awake).bind fun r332 =>
    some r332
def CrewLeft_L26__123 (r4 : (Seed × Int)) (r327 : (Int × Int)) (r2 : (Seed × Rules)) (r3 : (Seed × Driver)) (r5 : (Seed × Int)) (k123 : Int) (kn_123 : Int → Option Bool) : Option Bool :=
  bif (decide (k123 < (min (w64 (r4.2 + 60)) r327.1))) then
    (pMay r2.2 r3.2 k123 r5.2).bind fun r334 =>
    bif (r334.1 == 1) then
      bif (r334.2 == 0) then
        some false
      else
        kn_123 (w64 (k123 + 1))
    else
      kn_123 (w64 (k123 + 1))
  else
    (awake).bind fun r335 =>
    some r335
def CrewLeft_L26__124 (r4 : (Seed × Int)) (r2 : (Seed × Rules)) (r3 : (Seed × Driver)) (r5 : (Seed × Int)) (k124 : Int) (kn_124 : Int → Option Bool) : Option Bool :=
  bif (decide (k124 < (w64 (r4.2 + 60)))) then
    (pMay r2.2 r3.2 k124 r5.2).bind fun r336 =>
    bif (r336.1 == 1) then
      bif (r336.2 == 0) then
        some false
      else
        kn_124 (w64 (k124 + 1))
    else
      kn_124 (w64 (k124 + 1))
  else
    (awake).bind fun r337 =>
    some r337
def CrewLeft_L26__125 (r4 : (Seed × Int)) (r327 : (Int × Int)) (r2 : (Seed × Rules)) (r3 : (Seed × Driver)) (r5 : (Seed × Int)) (k125 : Int) (kn_125 : Int → Option Bool) : Option Bool :=
  bif (decide (k125 < (min (w64 (r4.2 + 60)) r327.1))) then
    (pMay r2.2 r3.2 k125 r5.2).bind fun r339 =>
    bif (r339.1 == 1) then
      bif (r339.2 == 0) then
        some false
      else
        kn_125 (w64 (k125 + 1))
    else
      kn_125 (w64 (k125 + 1))
  else
    (awake).bind fun r340 =>
    some r340
def CrewLeft_L26__126 (r4 : (Seed × Int)) (r2 : (Seed × Rules)) (r3 : (Seed × Driver)) (r5 : (Seed × Int)) (k126 : Int) (kn_126 : Int → Option Bool) : Option Bool :=
  bif (decide (k126 < (w64 (r4.2 + 60)))) then
    (pMay r2.2 r3.2 k126 r5.2).bind fun r341 =>
    bif (r341.1 == 1) then
      bif (r341.2 == 0) then
        some false
      else
        kn_126 (w64 (k126 + 1))
    else
      kn_126 (w64 (k126 + 1))
  else
    (awake).bind fun r342 =>
    some r342
def CrewLeft_L26__127 (r4 : (Seed × Int)) (r327 : (Int × Int)) (r2 : (Seed × Rules)) (r3 : (Seed × Driver)) (r5 : (Seed × Int)) (k127 : Int) (kn_127 : Int → Option Bool) : Option Bool :=
  bif (decide (k127 < (min (w64 (r4.2 + 60)) r327.1))) then
    (pMay r2.2 r3.2 k127 r5.2).bind fun r344 =>
    bif (r344.1 == 1) then
      bif (r344.2 == 0) then
        some false
      else
        kn_127 (w64 (k127 + 1))
    else
      kn_127 (w64 (k127 + 1))
  else
    (awake).bind fun r345 =>
    some r345
def CrewLeft_L26__128 (r4 : (Seed × Int)) (r2 : (Seed × Rules)) (r3 : (Seed × Driver)) (r5 : (Seed × Int)) (k128 : Int) (kn_128 : Int → Option Bool) : Option Bool :=
  bif (decide (k128 < (w64 (r4.2 + 60)))) then
    (pMay r2.2 r3.2 k128 r5.2).bind fun r346 =>
    bif (r346.1 == 1) then
      bif (r346.2 == 0) then
        some false
      else
        kn_128 (w64 (k128 + 1))
    else
      kn_128 (w64 (k128 + 1))
  else
    (awake).bind fun r347 =>
    some r347
def CrewLeft_L26__129 (r4 : (Seed × Int)) (r348 : (Int × Int)) (r2 : (Seed × Rules)) (r3 : (Seed × Driver)) (r5 : (Seed × Int)) (k129 : Int) (kn_129 : Int → Option Bool) : Option Bool :=
  bif (decide (k129 < (min (w64 (r4.2 + 60)) r348.1))) then
    (pMay r2.2 r3.2 k129 r5.2).bind fun r350 =>
    bif (r350.1 == 1) then
      bif (r350.2 == 0) then
        some false
      else
        kn_129 (w64 (k129 + 1))
    else
      kn_129 (w64 (k129 + 1))
  else
    (awake).bind fun r351 =>
    some r351
def CrewLeft_L26__130 (r4 : (Seed × Int)) (r2 : (Seed × Rules)) (r3 : (Seed × Driver)) (r5 : (Seed × Int)) (k130 : Int) (kn_130 : Int → Option Bool) : Option Bool :=
  bif (decide (k130 < (w64 (r4.2 + 60)))) then
    (pMay r2.2 r3.2 k130 r5.2).bind fun r352 =>
    bif (r352.1 == 1) then
      bif (r352.2 == 0) then
        some false
      else
        kn_130 (w64 (k130 + 1))
    else
      kn_130 (w64 (k130 + 1))
  else
    (awake).bind fun r353 =>
    some r353
def CrewLeft_L26__131 (r4 : (Seed × Int)) (r348 : (Int × Int)) (r2 : (Seed × Rules)) (r3 : (Seed × Driver)) (r5 : (Seed × Int)) (k131 : Int) (kn_131 : Int → Option Bool) : Option Bool :=
  bif (decide (k131 < (min (w64 (r4.2 + 60)) r348.1))) then
    (pMay r2.2 r3.2 k131 r5.2).bind fun r355 =>
    bif (r355.1 == 1) then
      bif (r355.2 == 0) then
        some false
      else
        kn_131 (w64 (k131 + 1))
    else
      kn_131 (w64 (k131 + 1))
  else
    (awake).bind fun r356 =>
    some r356
def CrewLeft_L26__132 (r4 : (Seed × Int)) (r2 : (Seed × Rules)) (r3 : (Seed × Driver)) (r5 : (Seed × Int)) (k132 : Int) (kn_132 : Int → Option Bool) : Option Bool :=
  bif (decide (k132 < (w64 (r4.2 + 60)))) then
    (pMay r2.2 r3.2 k132 r5.2).bind fun r357 =>
    bif (r357.1 == 1) then
      bif (r357.2 == 0) then
        some false
      else
        kn_132 (w64 (k132 + 1))
    else
      kn_132 (w64 (k132 + 1))
  else
    (awake).bind fun r358 =>
    some r358
def CrewLeft_L26__133 (r4 : (Seed × Int)) (r348 : (Int × Int)) (r2 : (Seed × Rules)) (r3 : (Seed × Driver)) (r5 : (Seed × Int)) (k133 : Int) (kn_133 : Int → Option Bool) : Option Bool :=
  bif (decide (k133 < (min (w64 (r4.2 + 60)) r348.1))) then
    (pMay r2.2 r3.2 k133 r5.2).bind fun r360 =>
    bif (r360.1 == 1) then
      bif (r360.2 == 0) then
        some false
      else
        kn_133 (w64 (k133 + 1))
    else
      kn_133 (w64 (k133 + 1))
  else
    (awake).bind fun r361 =>
    some r361
def CrewLeft_L26__134 (r4 : (Seed × Int)) (r2 : (Seed × Rules)) (r3 : (Seed × Driver)) (r5 : (Seed × Int)) (k134 : Int) (kn_134 : Int → Option Bool) : Option Bool :=
  bif (decide (k134 < (w64 (r4.2 + 60)))) then
    (pMay r2.2 r3.2 k134 r5.2).bind fun r362 =>
    bif (r362.1 == 1) then
      bif (r362.2 == 0) then
        some false
      else
        kn_134 (w64 (k134 + 1))
    else
      kn_134 (w64 (k134 + 1))
  else
    (awake).bind fun r363 =>
    some r363
def CrewLeft_L26__135 (r4 : (Seed × Int)) (r348 : (Int × Int)) (r2 : (Seed × Rules)) (r3 : (Seed × Driver)) (r5 : (Seed × Int)) (k135 : Int) (kn_135 : Int → Option Bool) : Option Bool :=
  bif (decide (k135 < (min (w64 (r4.2 + 60)) r348.1))) then
    (pMay r2.2 r3.2 k135 r5.2).bind fun r365 =>
    bif (r365.1 == 1) then
      bif (r365.2 == 0) then
        some false
      else
        kn_135 (w64 (k135 + 1))
    else
      kn_135 (w64 (k135 + 1))
  else
    (awake).bind fun r366 =>
    some r366
def CrewLeft_L26__136 (r4 : (Seed × Int)) (r2 : (Seed × Rules)) (r3 : (Seed × Driver)) (r5 : (Seed × Int)) (k136 : Int) (kn_136 : Int → Option Bool) : Option Bool :=
  bif (decide (k136 < (w64 (r4.2 + 60)))) then
    (pMay r2.2 r3.2 k136 r5.2).bind fun r367 =>
    bif (r367.1 == 1) then
      bif (r367.2 == 0) then
        some false
      else
        kn_136 (w64 (k136 + 1))
    else
      kn_136 (w64 (k136 + 1))
  else
    (awake).bind fun r368 =>
    some r368
def CrewLeft_L26__137 (r4 : (Seed × Int)) (r369 : (Int × Int)) (r2 : (Seed × Rules)) (r3 : (Seed × Driver)) (r5 : (Seed × Int)) (k137 : Int) (kn_137 : Int → Option Bool) : Option Bool :=
  bif (decide (k137 < (min (w64 (r4.2 + 60)) r369.1))) then
    (pMay r2.2 r3.2 k137 r5.2).bind fun r371 =>
    bif (r371.1 == 1) then
      bif (r371.2 == 0) then
        some false
      else
        kn_137 (w64 (k137 + 1))
    else
      kn_137 (w64 (k137 + 1))
  else
    (awake).bind fun r372 =>
    some r372
def CrewLeft_L26__138 (r4 : (Seed × Int)) (r2 : (Seed × Rules)) (r3 : (Seed × Driver)) (r5 : (Seed × Int)) (k138 : Int) (kn_138 : Int → Option Bool) : Option Bool :=
  bif (decide (k138 < (w64 (r4.2 + 60)))) then
    (pMay r2.2 r3.2 k138 r5.2).bind fun r373 =>
    bif (r373.1 == 1) then
      bif (r373.2 == 0) then
        some false
      else
        kn_138 (w64 (k138 + 1))
    else
      kn_138 (w64 (k138 + 1))
  else
    (awake).bind fun r374 =>
    some r374
def CrewLeft_L26__139 (r4 : (Seed × Int)) (r369 : (Int × Int)) (r2 : (Seed × Rules)) (r3 : (Seed × Driver)) (r5 : (Seed × Int)) (k139 : Int) (kn_139 : Int → Option Bool) : Option Bool :=
  bif (decide (k139 < (min (w64 (r4.2 + 60)) r369.1))) then
    (pMay r2.2 r3.2 k139 r5.2).bind fun r376 =>
    bif (r376.1 == 1) then
      bif (r376.2 == 0) then
        some false
      else
        kn_139 (w64 (k139 + 1))
    else
      kn_139 (w64 (k139 + 1))
  else
    (awake).bind fun r377 =>
    some r377
def CrewLeft_L26__140 (r4 : (Seed × Int)) (r2 : (Seed × Rules)) (r3 : (Seed × Driver)) (r5 : (Seed × Int)) (k140 : Int) (kn_140 : Int → Option Bool) : Option Bool :=
  bif (decide (k140 < (w64 (r4.2 + 60)))) then
    (pMay r2.2 r3.2 k140 r5.2).bind fun r378 =>
    bif (r378.1 == 1) then
      bif (r378.2 == 0) then
        some false
      else
        kn_140 (w64 (k140 + 1))
    else
      kn_140 (w64 (k140 + 1))
  else
    (awake).bind fun r379 =>
    some r379
def CrewLeft_L26__141 (r4 : (Seed × Int)) (r369 : (Int × Int)) (r2 : (Seed × Rules)) (r3 : (Seed × Driver)) (r5 : (Seed × Int)) (k141 : Int) (kn_141 : Int → Option Bool) : Option Bool :=
  bif (decide (k141 < (min (w64 (r4.2 + 60)) r369.1))) then
    (pMay r2.2 r3.2 k141 r5.2).bind fun r381 =>
    bif (r381.1 == 1) then
      bif (r381.2 == 0) then
        some false
      else
        kn_141 (w64 (k141 + 1))
    else
      kn_141 (w64 (k141 + 1))
  else
    (awake).bind fun r382 =>
    some r382
def CrewLeft_L26__142 (r4 : (Seed × Int)) (r2 : (Seed × Rules)) (r3 : (Seed × Driver)) (r5 : (Seed × Int)) (k142 : Int) (kn_142 : Int → Option Bool) : Option Bool :=
  bif (decide (k142 < (w64 (r4.2 + 60)))) then
    (pMay r2.2 r3.2 k142 r5.2).bind fun r383 =>
    bif (r383.1 == 1) then
      bif (r383.2 == 0) then
        some false
      else
        kn_142 (w64 (k142 + 1))
    else
      kn_142 (w64 (k142 + 1))
  else
    (awake).bind fun r384 =>
    some r384
def CrewLeft_L26__143 (r4 : (Seed × Int)) (r369 : (Int × Int)) (r2 : (Seed × Rules)) (r3 : (Seed × Driver)) (r5 : (Seed × Int)) (k143 : Int) (kn_143 : Int → Option Bool) : Option Bool :=
  bif (decide (k143 < (min (w64 (r4.2 + 60)) r369.1))) then
    (pMay r2.2 r3.2 k143 r5.2).bind fun r386 =>
    bif (r386.1 == 1) then
      bif (r386.2 == 0) then
        some false
      else
        kn_143 (w64 (k143 + 1))
    else
      kn_143 (w64 (k143 + 1))
  else
    (awake).bind fun r387 =>
    some r387
def CrewLeft_L26__144 (r4 : (Seed × Int)) (r2 : (Seed × Rules)) (r3 : (Seed × Driver)) (r5 : (Seed × Int)) (k144 : Int) (kn_144 : Int → Option Bool) : Option Bool :=
  bif (decide (k144 < (w64 (r4.2 + 60)))) then
    (pMay r2.2 r3.2 k144 r5.2).bind fun r388 =>
    bif (r388.1 == 1) then
      bif (r388.2 == 0) then
        some false
      else
        kn_144 (w64 (k144 + 1))
    else
      kn_144 (w64 (k144 + 1))
  else
    (awake).bind fun r389 =>
    some r389
def CrewLeft_L26__145 (r4 : (Seed × Int)) (r391 : (Int × Int)) (r2 : (Seed × Rules)) (r3 : (Seed × Driver)) (r5 : (Seed × Int)) (k145 : Int) (kn_145 : Int → Option Bool) : Option Bool :=
  bif (decide (k145 < (min (w64 (r4.2 + 60)) r391.1))) then
    (pMay r2.2 r3.2 k145 r5.2).bind fun r393 =>
    bif (r393.1 == 1) then
      bif (r393.2 == 0) then
        some false
      else
        kn_145 (w64 (k145 + 1))
    else
      kn_145 (w64 (k145 + 1))
  else
    (awake).bind fun r394 =>
    some r394
def CrewLeft_L26__146 (r4 : (Seed × Int)) (r2 : (Seed × Rules)) (r3 : (Seed × Driver)) (r5 : (Seed × Int)) (k146 : Int) (kn_146 : Int → Option Bool) : Option Bool :=
  bif (decide (k146 < (w64 (r4.2 + 60)))) then
    (pMay r2.2 r3.2 k146 r5.2).bind fun r395 =>
    bif (r395.1 == 1) then
      bif (r395.2 == 0) then
        some false
      else
        kn_146 (w64 (k146 + 1))
    else
      kn_146 (w64 (k146 + 1))
  else
    (awake).bind fun r396 =>
    some r396
def CrewLeft_L26__147 (r4 : (Seed × Int)) (r391 : (Int × Int)) (r2 : (Seed × Rules)) (r3 : (Seed × Driver)) (r5 : (Seed × Int)) (k147 : Int) (kn_147 : Int → Option Bool) : Option Bool :=
  bif (decide (k147 < (min (w64 (r4.2 + 60)) r391.1))) then
    (pMay r2.2 r3.2 k147 r5.2).bind fun r398 =>
    bif (r398.1 == 1) then
      bif (r398.2 == 0) then
        some false
      else
        kn_147 (w64 (k147 + 1))
    else
      kn_147 (w64 (k147 + 1))
  else
    (awake).bind fun r399 =>
    some r399
def CrewLeft_L26__148 (r4 : (Seed × Int)) (r2 : (Seed × Rules)) (r3 : (Seed × Driver)) (r5 : (Seed × Int)) (k148 : Int) (kn_148 : Int → Option Bool) : Option Bool :=
  bif (decide (k148 < (w64 (r4.2 + 60)))) then
    (pMay r2.2 r3.2 k148 r5.2).bind fun r400 =>
    bif (r400.1 == 1) then
      bif (r400.2 == 0) then
        some false
      else
        kn_148 (w64 (k148 + 1))
    else
      kn_148 (w64 (k148 + 1))
  else
    (awake).bind fun r401 =>
    some r401
def CrewLeft_L26__149 (r4 : (Seed × Int)) (r391 : (Int × Int)) (r2 : (Seed × Rules)) (r3 : (Seed × Driver)) (r5 : (Seed × Int)) (k149 : Int) (kn_149 : Int → Option Bool) : Option Bool :=
  bif (decide (k149 < (min (w64 (r4.2 + 60)) r391.1))) then
    (pMay r2.2 r3.2 k149 r5.2).bind fun r403 =>
    bif (r403.1 == 1) then
      bif (r403.2 == 0) then
        some false
      else
        kn_149 (w64 (k149 + 1))
    else
      kn_149 (w64 (k149 + 1))
  else
    (awake).bind fun r404 =>
    some r404
def CrewLeft_L26__150 (r4 : (Seed × Int)) (r2 : (Seed × Rules)) (r3 : (Seed × Driver)) (r5 : (Seed × Int)) (k150 : Int) (kn_150 : Int → Option Bool) : Option Bool :=
  bif (decide (k150 < (w64 (r4.2 + 60)))) then
    (pMay r2.2 r3.2 k150 r5.2).bind fun r405 =>
    bif (r405.1 == 1) then
      bif (r405.2 == 0) then
        some false
      else
        kn_150 (w64 (k150 + 1))
    else
      kn_150 (w64 (k150 + 1))
  else
    (awake).bind fun r406 =>
    some r406
def CrewLeft_L26__151 (r4 : (Seed × Int)) (r391 : (Int × Int)) (r2 : (Seed × Rules)) (r3 : (Seed × Driver)) (r5 : (Seed × Int)) (k151 : Int) (kn_151 : Int → Option Bool) : Option Bool :=
  bif (decide (k151 < (min (w64 (r4.2 + 60)) r391.1))) then
    (pMay r2.2 r3.2 k151 r5.2).bind fun r408 =>
    bif (r408.1 == 1) then
      bif (r408.2 == 0) then
        some false
      else
        kn_151 (w64 (k151 + 1))
    else
      kn_151 (w64 (k151 + 1))
  else
    (awake).bind fun r409 =>
    some r409
def CrewLeft_L26__152 (r4 : (Seed × Int)) (r2 : (Seed × Rules)) (r3 : (Seed × Driver)) (r5 : (Seed × Int)) (k152 : Int) (kn_152 : Int → Option Bool) : Option Bool :=
  bif (decide (k152 < (w64 (r4.2 + 60)))) then
    (pMay r2.2 r3.2 k152 r5.2).bind fun r410 =>
    bif (r410.1 == 1) then
      bif (r410.2 == 0) then
        some false
      else
        kn_152 (w64 (k152 + 1))
    else
      kn_152 (w64 (k152 + 1))
  else
    (awake).bind fun r411 =>
    some r411
def CrewLeft_L26__153 (r4 : (Seed × Int)) (r412 : (Int × Int)) (r2 : (Seed × Rules)) (r3 : (Seed × Driver)) (r5 : (Seed × Int)) (k153 : Int) (kn_153 : Int → Option Bool) : Option Bool :=
  bif (decide (k153 < (min (w64 (r4.2 + 60)) r412.1))) then
    (pMay r2.2 r3.2 k153 r5.2).bind fun r414 =>
    bif (r414.1 == 1) then
      bif (r414.2 == 0) then
        some false
      else
        kn_153 (w64 (k153 + 1))
    else
      kn_153 (w64 (k153 + 1))
  else
    (awake).bind fun r415 =>
    some r415
def CrewLeft_L26__154 (r4 : (Seed × Int)) (r2 : (Seed × Rules)) (r3 : (Seed × Driver)) (r5 : (Seed × Int)) (k154 : Int) (kn_154 : Int → Option Bool) : Option Bool :=
  bif (decide (k154 < (w64 (r4.2 + 60)))) then
    (pMay r2.2 r3.2 k154 r5.2).bind fun r416 =>
    bif (r416.1 == 1) then
      bif (r416.2 == 0) then
        some false
      else
        kn_154 (w64 (k154 + 1))
    else
      kn_154 (w64 (k154 + 1))
  else
    (awake).bind fun r417 =>
    some r417
def CrewLeft_L26__155 (r4 : (Seed × Int)) (r412 : (Int × Int)) (r2 : (Seed × Rules)) (r3 : (Seed × Driver)) (r5 : (Seed × Int)) (k155 : Int) (kn_155 : Int → Option Bool) : Option Bool :=
  bif (decide (k155 < (min (w64 (r4.2 + 60)) r412.1))) then
    (pMay r2.2 r3.2 k155 r5.2).bind fun r419 =>
    bif (r419.1 == 1) then
      bif (r419.2 == 0) then
        some false
      else
        kn_155 (w64 (k155 + 1))
    else
      kn_155 (w64 (k155 + 1))
  else
    (awake).bind fun r420 =>
    some r420
def CrewLeft_L26__156 (r4 : (Seed × Int)) (r2 : (Seed × Rules)) (r3 : (Seed × Driver)) (r5 : (Seed × Int)) (k156 : Int) (kn_156 : Int → Option Bool) : Option Bool :=
  bif (decide (k156 < (w64 (r4.2 + 60)))) then
    (pMay r2.2 r3.2 k156 r5.2).bind fun r421 =>
    bif (r421.1 == 1) then
      bif (r421.2 == 0) then
        some false
      else
        kn_156 (w64 (k156 + 1))
    else
      kn_156 (w64 (k156 + 1))
  else
    (awake).bind fun r422 =>
    some r422
def CrewLeft_L26__157 (r4 : (Seed × Int)) (r412 : (Int × Int)) (r2 : (Seed × Rules)) (r3 : (Seed × Driver)) (r5 : (Seed × Int)) (k157 : Int) (kn_157 : Int → Option Bool) : Option Bool :=
  bif (decide (k157 < (min (w64 (r4.2 + 60)) r412.1))) then
    (pMay r2.2 r3.2 k157 r5.2).bind fun r424 =>
    bif (r424.1 == 1) then
      bif (r424.2 == 0) then
        some false
      else
        kn_157 (w64 (k157 + 1))
    else
      kn_157 (w64 (k157 + 1))
  else
    (awake).bind fun r425 =>
    some r425
def CrewLeft_L26__158 (r4 : (Seed × Int)) (r2 : (Seed × Rules)) (r3 : (Seed × Driver)) (r5 : (Seed × Int)) (k158 : Int) (kn_158 : Int → Option Bool) : Option Bool :=
  bif (decide (k158 < (w64 (r4.2 + 60)))) then
    (pMay r2.2 r3.2 k158 r5.2).bind fun r426 =>
    bif (r426.1 == 1) then
      bif (r426.2 == 0) then
        some false
      else
        kn_158 (w64 (k158 + 1))
    else
      kn_158 (w64 (k158 + 1))
  else
    (awake).bind fun r427 =>
    some r427
def CrewLeft_L26__159 (r4 : (Seed × Int)) (r412 : (Int × Int)) (r2 : (Seed × Rules)) (r3 : (Seed × Driver)) (r5 : (Seed × Int)) (k159 : Int) (kn_159 : Int → Option Bool) : Option Bool :=
  bif (decide (k159 < (min (w64 (r4.2 + 60)) r412.1))) then
    (pMay r2.2 r3.2 k159 r5.2).bind fun r429 =>
    bif (r429.1 == 1) then
      bif (r429.2 == 0) then
        some false
      else
        kn_159 (w64 (k159 + 1))
    else
      kn_159 (w64 (k159 + 1))
  else
    (awake).bind fun r430 =>
    some r430
def CrewLeft_L26__160 (r4 : (Seed × Int)) (r2 : (Seed × Rules)) (r3 : (Seed × Driver)) (r5 : (Seed × Int)) (k160 : Int) (kn_160 : Int → Option Bool) : Option Bool :=
  bif (decide (k160 < (w64 (r4.2 + 60)))) then
    (pMay r2.2 r3.2 k160 r5.2).bind fun r431 =>
    bif (r431.1 == 1) then
      bif (r431.2 == 0) then
        some false
      else
        kn_160 (w64 (k160 + 1))
    else
      kn_160 (w64 (k160 + 1))
  else
    (awake).bind fun r432 =>
    some r432
def CrewLeft_L26__161 (r4 : (Seed × Int)) (r433 : (Int × Int)) (r2 : (Seed × Rules)) (r3 : (Seed × Driver)) (r5 : (Seed × Int)) (k161 : Int) (kn_161 : Int → Option Bool) : Option Bool :=
  bif (decide (k161 < (min (w64 (r4.2 + 60)) r433.1))) then
    (pMay r2.2 r3.2 k161 r5.2).bind fun r435 =>
    bif (r435.1 == 1) then
      bif (r435.2 == 0) then
        some false
      else
        kn_161 (w64 (k161 + 1))
    else
      kn_161 (w64 (k161 + 1))
  else
    (awake).bind fun r436 =>
    some r436
def CrewLeft_L26__162 (r4 : (Seed × Int)) (r2 : (Seed × Rules)) (r3 : (Seed × Driver)) (r5 : (Seed × Int)) (k162 : Int) (kn_162 : Int → Option Bool) : Option Bool :=
  bif (decide (k162 < (w64 (r4.2 + 60)))) then
    (pMay r2.2 r3.2 k162 r5.2).bind fun r437 =>
    bif (r437.1 == 1) then
      bif (r437.2 == 0) then
        some false
      else
        kn_162 (w64 (k162 + 1))
    else
      kn_162 (w64 (k162 + 1))
  else
    (awake).bind fun r438 =>
    some r438
def CrewLeft_L26__163 (r4 : (Seed × Int)) (r433 : (Int × Int)) (r2 : (Seed × Rules)) (r3 : (Seed × Driver)) (r5 : (Seed × Int)) (k163 : Int) (kn_163 : Int → Option Bool) : Option Bool :=
  bif (decide (k163 < (min (w64 (r4.2 + 60)) r433.1))) then
    (pMay r2.2 r3.2 k163 r5.2).bind fun r440 =>
    bif (r440.1 == 1) then
      bif (r440.2 == 0) then
        some false
      else
        kn_163 (w64 (k163 + 1))
    else
      kn_163 (w64 (k163 + 1))
  else
    (awake).bind fun r441 =>
    some r441
def CrewLeft_L26__164 (r4 : (Seed × Int)) (r2 : (Seed × Rules)) (r3 : (Seed × Driver)) (r5 : (Seed × Int)) (k164 : Int) (kn_164 : Int → Option Bool) : Option Bool :=
  bif (decide (k164 < (w64 (r4.2 + 60)))) then
    (pMay r2.2 r3.2 k164 r5.2).bind fun r442 =>
    bif (r442.1 == 1) then
      bif (r442.2 == 0) then
        some false
      else
        kn_164 (w64 (k164 + 1))
    else
      kn_164 (w64 (k164 + 1))
  else
    (awake).bind fun r443 =>
    some r443
def CrewLeft_L26__165 (r4 : (Seed × Int)) (r433 : (Int × Int)) (r2 : (Seed × Rules)) (r3 : (Seed × Driver)) (r5 : (Seed × Int)) (k165 : Int) (kn_165 : Int → Option Bool) : Option Bool :=
  bif (decide (k165 < (min (w64 (r4.2 + 60)) r433.1))) then
    (pMay r2.2 r3.2 k165 r5.2).bind fun r445 =>
    bif (r445.1 == 1) then
      bif (r445.2 == 0) then
        some false
      else
        kn_165 (w64 (k165 + 1))
    else
      kn_165 (w64 (k165 + 1))
  else
    (awake).bind fun r446 =>
    some r446
def CrewLeft_L26__166 (r4 : (Seed × Int)) (r2 : (Seed × Rules)) (r3 : (Seed × Driver)) (r5 : (Seed × Int)) (k166 : Int) (kn_166 : Int → Option Bool) : Option Bool :=
  bif (decide (k166 < (w64 (r4.2 + 60)))) then
    (pMay r2.2 r3.2 k166 r5.2).bind fun r447 =>
    bif (r447.1 == 1) then
      bif (r447.2 == 0) then
        some false
      else
        kn_166 (w64 (k166 + 1))
    else
      kn_166 (w64 (k166 + 1))
  else
    (awake).bind fun r448 =>
    some r448
def CrewLeft_L26__167 (r4 : (Seed × Int)) (r433 : (Int × Int)) (r2 : (Seed × Rules)) (r3 : (Seed × Driver)) (r5 : (Seed × Int)) (k167 : Int) (kn_167 : Int → Option Bool) : Option Bool :=
  bif (decide (k167 < (min (w64 (r4.2 + 60)) r433.1))) then
    (pMay r2.2 r3.2 k167 r5.2).bind fun r450 =>
    bif (r450.1 == 1) then
      bif (r450.2 == 0) then
        some false
      else
        kn_167 (w64 (k167 + 1))
    else
      kn_167 (w64 (k167 + 1))
  else
    (awake).bind fun r451 =>
    some r451
def CrewLeft_L26__168 (r4 : (Seed × Int)) (r2 : (Seed × Rules)) (r3 : (Seed × Driver)) (r5 : (Seed × Int)) (k168 : Int) (kn_168 : Int → Option Bool) : Option Bool :=
  bif (decide (k168 < (w64 (r4.2 + 60)))) then
    (pMay r2.2 r3.2 k168 r5.2).bind fun r452 =>
    bif (r452.1 == 1) then
      bif (r452.2 == 0) then
        some false
      else
        kn_168 (w64 (k168 + 1))
    else
      kn_168 (w64 (k168 + 1))
  else
    (awake).bind fun r453 =>
    some r453
def CrewLeft_L26__169 (r4 : (Seed × Int)) (r454 : (Int × Int)) (r2 : (Seed × Rules)) (r3 : (Seed × Driver)) (r5 : (Seed × Int)) (k169 : Int) (kn_169 : Int → Option Bool) : Option Bool :=
  bif (decide (k169 < (min (w64 (r4.2 + 60)) r454.1))) then
    (pMay r2.2 r3.2 k169 r5.2).bind fun r456 =>
    bif (r456.1 == 1) then
      bif (r456.2 == 0) then
        some false
      else
        kn_169 (w64 (k169 + 1))
    else
      kn_169 (w64 (k169 + 1))
  else
    (awake).bind fun r457 =>
    some r457
def CrewLeft_L26__170 (r4 : (Seed × Int)) (r2 : (Seed × Rules)) (r3 : (Seed × Driver)) (r5 : (Seed × Int)) (k170 : Int) (kn_170 : Int → Option Bool) : Option Bool :=
  bif (decide (k170 < (w64 (r4.2 + 60)))) then
    (pMay r2.2 r3.2 k170 r5.2).bind fun r458 =>
    bif (r458.1 == 1) then
      bif (r458.2 == 0) then
        some false
      else
        kn_170 (w64 (k170 + 1))
    else
      kn_170 (w64 (k170 + 1))
  else
    (awake).bind fun r459 =>
    some r459
def CrewLeft_L26__171 (r4 : (Seed × Int)) (r454 : (Int × Int)) (r2 : (Seed × Rules)) (r3 : (Seed × Driver)) (r5 : (Seed × Int)) (k171 : Int) (kn_171 : Int → Option Bool) : Option Bool :=
  bif (decide (k171 < (min (w64 (r4.2 + 60)) r454.1))) then
    (pMay r2.2 r3.2 k171 r5.2).bind fun r461 =>
    bif (r461.1 == 1) then
      bif (r461.2 == 0) then
        some false
      else
        kn_171 (w64 (k171 + 1))
    else
      kn_171 (w64 (k171 + 1))
  else
    (awake).bind fun r462 =>
    some r462
def CrewLeft_L26__172 (r4 : (Seed × Int)) (r2 : (Seed × Rules)) (r3 : (Seed × Driver)) (r5 : (Seed × Int)) (k172 : Int) (kn_172 : Int → Option Bool) : Option Bool :=
  bif (decide (k172 < (w64 (r4.2 + 60)))) then
    (pMay r2.2 r3.2 k172 r5.2).bind fun r463 =>
    bif (r463.1 == 1) then
      bif (r463.2 == 0) then
        some false
      else
        kn_172 (w64 (k172 + 1))
    else
      kn_172 (w64 (k172 + 1))
  else
    (awake).bind fun r464 =>
    some r464
def CrewLeft_L26__173 (r4 : (Seed × Int)) (r454 : (Int × Int)) (r2 : (Seed × Rules)) (r3 : (Seed × Driver)) (r5 : (Seed × Int)) (k173 : Int) (kn_173 : Int → Option Bool) : Option Bool :=
  bif (decide (k173 < (min (w64 (r4.2 + 60)) r454.1))) then
    (pMay r2.2 r3.2 k173 r5.2).bind fun r466 =>
    bif (r466.1 == 1) then
      bif (r466.2 == 0) then
        some false
      else
        kn_173 (w64 (k173 + 1))
    else
      kn_173 (w64 (k173 + 1))
  else
    (awake).bind fun r467 =>
    some r467
def CrewLeft_L26__174 (r4 : (Seed × Int)) (r2 : (Seed × Rules)) (r3 : (Seed × Driver)) (r5 : (Seed × Int)) (k174 : Int) (kn_174 : Int → Option Bool) : Option Bool :=
  bif (decide (k174 < (w64 (r4.2 + 60)))) then
    (pMay r2.2 r3.2 k174 r5.2).bind fun r468 =>
    bif (r468.1 == 1) then
      bif (r468.2 == 0) then
        some false
      else
        kn_174 (w64 (k174 + 1))
    else
      kn_174 (w64 (k174 + 1))
  else
    (awake).bind fun r469 =>
    some r469
def CrewLeft_L26__175 (r4 : (Seed × Int)) (r454 : (Int × Int)) (r2 : (Seed × Rules)) (r3 : (Seed × Driver)) (r5 : (Seed × Int)) (k175 : Int) (kn_175 : Int → Option Bool) : Option Bool :=
  bif (decide (k175 < (min (w64 (r4.2 + 60)) r454.1))) then
    (pMay r2.2 r3.2 k175 r5.2).bind fun r471 =>
    bif (r471.1 == 1) then
      bif (r471.2 == 0) then
        some false
      else
        kn_175 (w64 (k175 + 1))
    else
      kn_175 (w64 (k175 + 1))
  else
    (awake).bind fun r472 =>
    some r472
def CrewLeft_L26__176 (r4 : (Seed × Int)) (r2 : (Seed × Rules)) (r3 : (Seed × Driver)) (r5 : (Seed × Int)) (k176 : Int) (kn_176 : Int → Option Bool) : Option Bool :=
  bif (decide (k176 < (w64 (r4.2 + 60)))) then
    (pMay r2.2 r3.2 k176 r5.2).bind fun r473 =>
    bif (r473.1 == 1) then
      bif (r473.2 == 0) then
        some false
      else
        kn_176 (w64 (k176 + 1))
    else
      kn_176 (w64 (k176 + 1))
  else
    (awake).bind fun r474 =>
    some r474
def CrewLeft_L26__177 (r4 : (Seed × Int)) (r475 : (Int × Int)) (r2 : (Seed × Rules)) (r3 : (Seed × Driver)) (r5 : (Seed × Int)) (k177 : Int) (kn_177 : Int → Option Bool) : Option Bool :=
  bif (decide (k177 < (min (w64 (r4.2 + 60)) r475.1))) then
    (pMay r2.2 r3.2 k177 r5.2).bind fun r477 =>
    bif (r477.1 == 1) then
      bif (r477.2 == 0) then
        some false
      else
        kn_177 (w64 (k177 + 1))
    else
      kn_177 (w64 (k177 + 1))
  else
    (awake).bind fun r478 =>
    some r478
def CrewLeft_L26__178 (r4 : (Seed × Int)) (r2 : (Seed × Rules)) (r3 : (Seed × Driver)) (r5 : (Seed × Int)) (k178 : Int) (kn_178 : Int → Option Bool) : Option Bool :=
  bif (decide (k178 < (w64 (r4.2 + 60)))) then
    (pMay r2.2 r3.2 k178 r5.2).bind fun r479 =>
    bif (r479.1 == 1) then
      bif (r479.2 == 0) then
        some false
      else
        kn_178 (w64 (k178 + 1))
    else
      kn_178 (w64 (k178 + 1))
  else
    (awake).bind fun r480 =>
    some r480
def CrewLeft_L26__179 (r4 : (Seed × Int)) (r475 : (Int × Int)) (r2 : (Seed × Rules)) (r3 : (Seed × Driver)) (r5 : (Seed × Int)) (k179 : Int) (kn_179 : Int → Option Bool) : Option Bool :=
  bif (decide (k179 < (min (w64 (r4.2 + 60)) r475.1))) then
    (pMay r2.2 r3.2 k179 r5.2).bind fun r482 =>
    bif (r482.1 == 1) then
      bif (r482.2 == 0) then
        some false
      else
        kn_179 (w64 (k179 + 1))
    else
      kn_179 (w64 (k179 + 1))
  else
    (awake).bind fun r483 =>
    some r483
def CrewLeft_L26__180 (r4 : (Seed × Int)) (r2 : (Seed × Rules)) (r3 : (Seed × Driver)) (r5 : (Seed × Int)) (k180 : Int) (kn_180 : Int → Option Bool) : Option Bool :=
  bif (decide (k180 < (w64 (r4.2 + 60)))) then
    (pMay r2.2 r3.2 k180 r5.2).bind fun r484 =>
    bif (r484.1 == 1) then
      bif (r484.2 == 0) then
        some false
      else
        kn_180 (w64 (k180 + 1))
    else
      kn_180 (w64 (k180 + 1))
  else
    (awake).bind fun r485 =>
    some r485
def CrewLeft_L26__181 (r4 : (Seed × Int)) (r475 : (Int × Int)) (r2 : (Seed × Rules)) (r3 : (Seed × Driver)) (r5 : (Seed × Int)) (k181 : Int) (kn_181 : Int → Option Bool) : Option Bool :=
  bif (decide (k181 < (min (w64 (r4.2 + 60)) r475.1))) then
    (pMay r2.2 r3.2 k181 r5.2).bind fun r487 =>
    bif (r487.1 == 1) then
      bif (r487.2 == 0) then
        some false
      else
        kn_181 (w64 (k181 + 1))
    else
      kn_181 (w64 (k181 + 1))
  else
    (awake).bind fun r488 =>
    some r488
def CrewLeft_L26__182 (r4 : (Seed × Int)) (r2 : (Seed × Rules)) (r3 : (Seed × Driver)) (r5 : (Seed × Int)) (k182 : Int) (kn_182 : Int → Option Bool) : Option Bool :=
  bif (decide (k182 < (w64 (r4.2 + 60)))) then
    (pMay r2.2 r3.2 k182 r5.2).bind fun r489 =>
    bif (r489.1 == 1) then
      bif (r489.2 == 0) then
        some false
      else
        kn_182 (w64 (k182 + 1))
    else
      kn_182 (w64 (k182 + 1))
  else
    (awake).bind fun r490 =>
    some r490
def CrewLeft_L26__183 (r4 : (Seed × Int)) (r475 : (Int × Int)) (r2 : (Seed × Rules)) (r3 : (Seed × Driver)) (r5 : (Seed × Int)) (k183 : Int) (kn_183 : Int → Option Bool) : Option Bool :=
  bif (decide (k183 < (min (w64 (r4.2 + 60)) r475.1))) then
    (pMay r2.2 r3.2 k183 r5.2).bind fun r492 =>
    bif (r492.1 == 1) then
      bif (r492.2 == 0) then
        some false
      else
        kn_183 (w64 (k183 + 1))
    else
      kn_183 (w64 (k183 + 1))
  else
    (awake).bind fun r493 =>
    some r493
def CrewLeft_L26__184 (r4 : (Seed × Int)) (r2 : (Seed × Rules)) (r3 : (Seed × Driver)) (r5 : (Seed × Int)) (k184 : Int) (kn_184 : Int → Option Bool) : Option Bool :=
  bif (decide (k184 < (w64 (r4.2 + 60)))) then
    (pMay r2.2 r3.2 k184 r5.2).bind fun r494 =>
    bif (r494.1 == 1) then
      bif (r494.2 == 0) then
        some false
      else
        kn_184 (w64 (k184 + 1))
    else
      kn_184 (w64 (k184 + 1))
  else
    (awake).bind fun r495 =>
    some r495
def CrewLeft_L26__185 (r4 : (Seed × Int)) (r496 : (Int × Int)) (r2 : (Seed × Rules)) (r3 : (Seed × Driver)) (r5 : (Seed × Int)) (k185 : Int) (kn_185 : Int → Option Bool) : Option Bool :=
  bif (decide (k185 < (min (w64 (r4.2 + 60)) r496.1))) then
    (pMay r2.2 r3.2 k185 r5.2).bind fun r498 =>
    bif (r498.1 == 1) then
      bif (r498.2 == 0) then
        some false
      else
        kn_185 (w64 (k185 + 1))
    else
      kn_185 (w64 (k185 + 1))
  else
    (awake).bind fun r499 =>
    some r499
def CrewLeft_L26__186 (r4 : (Seed × Int)) (r2 : (Seed × Rules)) (r3 : (Seed × Driver)) (r5 : (Seed × Int)) (k186 : Int) (kn_186 : Int → Option Bool) : Option Bool :=
  bif (decide (k186 < (w64 (r4.2 + 60)))) then
    (pMay r2.2 r3.2 k186 r5.2).bind fun r500 =>
    bif (r500.1 == 1) then
      bif (r500.2 == 0) then
        some false
      else
        kn_186 (w64 (k186 + 1))
    else
      kn_186 (w64 (k186 + 1))
  else
    (awake).bind fun r501 =>
    some r501
def CrewLeft_L26__187 (r4 : (Seed × Int)) (r496 : (Int × Int)) (r2 : (Seed × Rules)) (r3 : (Seed × Driver)) (r5 : (Seed × Int)) (k187 : Int) (kn_187 : Int → Option Bool) : Option Bool :=
  bif (decide (k187 < (min (w64 (r4.2 + 60)) r496.1))) then
    (pMay r2.2 r3.2 k187 r5.2).bind fun r503 =>
    bif (r503.1 == 1) then
      bif (r503.2 == 0) then
        some false
      else
        kn_187 (w64 (k187 + 1))
    else
      kn_187 (w64 (k187 + 1))
  else
    (awake).bind fun r504 =>
    some r504
def CrewLeft_L26__188 (r4 : (Seed × Int)) (r2 : (Seed × Rules)) (r3 : (Seed × Driver)) (r5 : (Seed × Int)) (k188 : Int) (kn_188 : Int → Option Bool) : Option Bool :=
  bif (decide (k188 < (w64 (r4.2 + 60)))) then
    (pMay r2.2 r3.2 k188 r5.2).bind fun r505 =>
    bif (r505.1 == 1) then
      bif (r505.2 == 0) then
        some false
      else
        kn_188 (w64 (k188 + 1))
    else
      kn_188 (w64 (k188 + 1))
  else
    (awake).bind fun r506 =>
    some r506
def CrewLeft_L26__189 (r4 : (Seed × Int)) (r496 : (Int × Int)) (r2 : (Seed × Rules)) (r3 : (Seed × Driver)) (r5 : (Seed × Int)) (k189 : Int) (kn_189 : Int → Option Bool) : Option Bool :=
  bif (decide (k189 < (min (w64 (r4.2 + 60)) r496.1))) then
    (pMay r2.2 r3.2 k189 r5.2).bind fun r508 =>
    bif (r508.1 == 1) then
      bif (r508.2 == 0) then
        some false
      else
        kn_189 (w64 (k189 + 1))
    else
      kn_189 (w64 (k189 + 1))
  else
    (awake).bind fun r509 =>
    some r509
def CrewLeft_L26__190 (r4 : (Seed × Int)) (r2 : (Seed × Rules)) (r3 : (Seed × Driver)) (r5 : (Seed × Int)) (k190 : Int) (kn_190 : Int → Option Bool) : Option Bool :=
  bif (decide (k190 < (w64 (r4.2 + 60)))) then
    (pMay r2.2 r3.2 k190 r5.2).bind fun r510 =>
    bif (r510.1 == 1) then
      bif (r510.2 == 0) then
        some false
      else
        kn_190 (w64 (k190 + 1))
    else
      kn_190 (w64 (k190 + 1))
  else
    (awake).bind fun r511 =>
    some r511
def CrewLeft_L26__191 (r4 : (Seed × Int)) (r496 : (Int × Int)) (r2 : (Seed × Rules)) (r3 : (Seed × Driver)) (r5 : (Seed × Int)) (k191 : Int) (kn_191 : Int → Option Bool) : Option Bool :=
  bif (decide (k191 < (min (w64 (r4.2 + 60)) r496.1))) then
    (pMay r2.2 r3.2 k191 r5.2).bind fun r513 =>
    bif (r513.1 == 1) then
      bif (r513.2 == 0) then
        some false
      else
        kn_191 (w64 (k191 + 1))
    else
      kn_191 (w64 (k191 + 1))
  else
    (awake).bind fun r514 =>
    some r514
def CrewLeft_L26__192 (r4 : (Seed × Int)) (r2 : (Seed × Rules)) (r3 : (Seed × Driver)) (r5 : (Seed × Int)) (k192 : Int) (kn_192 : Int → Option Bool) : Option Bool :=
  bif (decide (k192 < (w64 (r4.2 + 60)))) then
    (pMay r2.2 r3.2 k192 r5.2).bind fun r515 =>
    bif (r515.1 == 1) then
      bif (r515.2 == 0) then
        some false
      else
        kn_192 (w64 (k192 + 1))
    else
      kn_192 (w64 (k192 + 1))
  else
    (awake).bind fun r516 =>
    some r516
def CrewLeft' (it : It Bool) (nums : List Int) : Option Bool :=
  (NewSeed nums).bind fun r =>
  (RulesOf r).bind fun r2 =>
  (DriverOf r2.1 (⟨#[97, 110, 110]⟩ : ByteArray) 4).bind fun r3 =>
  (Below r3.1 120).bind fun r4 =>
  (From r4.1 1 20).bind fun r5 =>
  (pLeft r2.2 r3.2 r4.2).bind fun r6 =>
  bif (r6.2 == 0) then
    bif (decide (r6.1 ≥ 0)) then
      (pMay r2.2 r3.2 r4.2 r6.1).bind fun r7 =>
      (pMay r2.2 r3.2 r4.2 (w64 (r6.1 + 1))).bind fun r8 =>
      bif (r7.1 != 1) then
        some false
      else
        bif (r7.2 != 0) then
          some false
        else
          bif (r8.1 == 1) then
            some false
          else
            bif ((w64 (r4.2 + r6.1)) == 3000) then
              bif (r8.2 != 2) then
                some false
              else
                bif (r6.2 == 0) then
                  bif (decide (r6.1 < 0)) then
                    (pMay r2.2 r3.2 r4.2 0).bind fun r9 =>
                    bif (r9.1 == 1) then
                      some false
                    else
                      bif (r9.2 != 0) then
                        some false
                      else
                        bif (r6.2 != 0) then
                          bif (r6.2 != 12) then
                            some false
                          else
                            (pNext r2.2 r3.2 r4.2 r5.2).bind fun r10 =>
                            bif (r10.2 != 0) then
                              bif (r10.2 != 7) then
                                some false
                              else
                                bif (r10.2 == 0) then
                                  bif (decide (r10.1 < r4.2)) then
                                    some false
                                  else
                                    bif (r10.2 == 0) then
                                      (pMay r2.2 r3.2 r10.1 r5.2).bind fun r11 =>
                                      bif (r11.1 != 1) then
                                        some false
                                      else
                                        bif (r11.2 != 0) then
                                          some false
                                        else
                                          it _ (fun (v_0 : (Unit × Unit × Int × Unit) × (Unit)) kn => CrewLeft_L26 r4 r10 r2 r3 r5 v_0.1.2.2.1 (fun y0 => kn (((), (), y0, ()), (())))) (((), (), r4.2, ()), (()))
                                    else
                                      it _ (fun (v_0 : (Unit × Unit × Int × Unit) × (Unit)) kn => CrewLeft_L26__2 r4 r2 r3 r5 v_0.1.2.2.1 (fun y0 => kn (((), (), y0, ()), (())))) (((), (), r4.2, ()), (()))
                                else
                                  bif (r10.2 == 0) then
                                    (pMay r2.2 r3.2 r10.1 r5.2).bind fun r16 =>
                                    bif (r16.1 != 1) then
                                      some false
                                    else
                                      bif (r16.2 != 0) then
                                        some false
                                      else
                                        it _ (fun (v_0 : (Unit × Unit × Int × Unit) × (Unit)) kn => CrewLeft_L26__3 r4 r10 r2 r3 r5 v_0.1.2.2.1 (fun y0 => kn (((), (), y0, ()), (())))) (((), (), r4.2, ()), (()))
                                  else
                                    it _ (fun (v_0 : (Unit × Unit × Int × Unit) × (Unit)) kn => CrewLeft_L26__4 r4 r2 r3 r5 v_0.1.2.2.1 (fun y0 => kn (((), (), y0, ()), (())))) (((), (), r4.2, ()), (()))
                            else
                              bif (r10.2 == 0) then
                                bif (decide (r10.1 < r4.2)) then
                                  some false
                                else
                                  bif (r10.2 == 0) then
                                    (pMay r2.2 r3.2 r10.1 r5.2).bind fun r21 =>
                                    bif (r21.1 != 1) then
                                      some false
                                    else
                                      bif (r21.2 != 0) then
                                        some false
                                      else
                                        it _ (fun (v_0 : (Unit × Unit × Int × Unit) × (Unit)) kn => CrewLeft_L26__5 r4 r10 r2 r3 r5 v_0.1.2.2.1 (fun y0 => kn (((), (), y0, ()), (())))) (((), (), r4.2, ()), (()))
                                  else
                                    it _ (fun (v_0 : (Unit × Unit × Int × Unit) × (Unit)) kn => CrewLeft_L26__6 r4 r2 r3 r5 v_0.1.2.2.1 (fun y0 => kn (((), (), y0, ()), (())))) (((), (), r4.2, ()), (()))
                              else
                                bif (r10.2 == 0) then
                                  (pMay r2.2 r3.2 r10.1 r5.2).bind fun r26 =>
                                  bif (r26.1 != 1) then
                                    some false
                                  else
                                    bif (r26.2 != 0) then
                                      some false
                                    else
                                      it _ (fun (v_0 : (Unit × Unit × Int × Unit) × (Unit)) kn => CrewLeft_L26__7 r4 r10 r2 r3 r5 v_0.1.2.2.1 (fun y0 => kn (((), (), y0, ()), (())))) (((), (), r4.2, ()), (()))
                                else
                                  it _ (fun (v_0 : (Unit × Unit × Int × Unit) × (Unit)) kn => CrewLeft_L26__8 r4 r2 r3 r5 v_0.1.2.2.1 (fun y0 => kn (((), (), y0, ()), (())))) (((), (), r4.2, ()), (()))
                        else
                          (pNext r2.2 r3.2 r4.2 r5.2).bind fun r31 =>
                          bif (r31.2 != 0) then
                            bif (r31.2 != 7) then
                              some false
                            else
                              bif (r31.2 == 0) then
                                bif (decide (r31.1 < r4.2)) then
                                  some false
                                else
                                  bif (r31.2 == 0) then
                                    (pMay r2.2 r3.2 r31.1 r5.2).bind fun r32 =>
                                    bif (r32.1 != 1) then
                                      some false
                                    else
                                      bif (r32.2 != 0) then
                                        some false
                                      else
                                        it _ (fun (v_0 : (Unit × Unit × Int × Unit) × (Unit)) kn => CrewLeft_L26__9 r4 r31 r2 r3 r5 v_0.1.2.2.1 (fun y0 => kn (((), (), y0, ()), (())))) (((), (), r4.2, ()), (()))
                                  else
                                    it _ (fun (v_0 : (Unit × Unit × Int × Unit) × (Unit)) kn => CrewLeft_L26__10 r4 r2 r3 r5 v_0.1.2.2.1 (fun y0 => kn (((), (), y0, ()), (())))) (((), (), r4.2, ()), (()))
                              else
                                bif (r31.2 == 0) then
                                  (pMay r2.2 r3.2 r31.1 r5.2).bind fun r37 =>
                                  bif (r37.1 != 1) then
                                    some false
                                  else
                                    bif (r37.2 != 0) then
                                      some false
                                    else
                                      it _ (fun (v_0 : (Unit × Unit × Int × Unit) × (Unit)) kn => CrewLeft_L26__11 r4 r31 r2 r3 r5 v_0.1.2.2.1 (fun y0 => kn (((), (), y0, ()), (())))) (((), (), r4.2, ()), (()))
                                else
                                  it _ (fun (v_0 : (Unit × Unit × Int × Unit) × (Unit)) kn => CrewLeft_L26__12 r4 r2 r3 r5 v_0.1.2.2.1 (fun y0 => kn (((), (), y0, ()), (())))) (((), (), r4.2, ()), (()))
                          else
                            bif (r31.2 == 0) then
                              bif (decide (r31.1 < r4.2)) then
                                some false
                              else
                                bif (r31.2 == 0) then
                                  (pMay r2.2 r3.2 r31.1 r5.2).bind fun r42 =>
                                  bif (r42.1 != 1) then
                                    some false
                                  else
                                    bif (r42.2 != 0) then
                                      some false
                                    else
                                      it _ (fun (v_0 : (Unit × Unit × Int × Unit) × (Unit)) kn => CrewLeft_L26__13 r4 r31 r2 r3 r5 v_0.1.2.2.1 (fun y0 => kn (((), (), y0, ()), (())))) (((), (), r4.2, ()), (()))
                                else
                                  it _ (fun (v_0 : (Unit × Unit × Int × Unit) × (Unit)) kn => CrewLeft_L26__14 r4 r2 r3 r5 v_0.1.2.2.1 (fun y0 => kn (((), (), y0, ()), (())))) (((), (), r4.2, ()), (()))
                            else
                              bif (r31.2 == 0) then
                                (pMay r2.2 r3.2 r31.1 r5.2).bind fun r47 =>
                                bif (r47.1 != 1) then
                                  some false
                                else
                                  bif (r47.2 != 0) then
                                    some false
                                  else
                                    it _ (fun (v_0 : (Unit × Unit × Int × Unit) × (Unit)) kn => CrewLeft_L26__15 r4 r31 r2 r3 r5 v_0.1.2.2.1 (fun y0 => kn (((), (), y0, ()), (())))) (((), (), r4.2, ()), (()))
                              else
                                it _ (fun (v_0 : (Unit × Unit × Int × Unit) × (Unit)) kn => CrewLeft_L26__16 r4 r2 r3 r5 v_0.1.2.2.1 (fun y0 => kn (((), (), y0, ()), (())))) (((), (), r4.2, ()), (()))
                  else
                    bif (r6.2 != 0) then
                      bif (r6.2 != 12) then
                        some false
                      else
                        (pNext r2.2 r3.2 r4.2 r5.2).bind fun r52 =>
                        bif (r52.2 != 0) then
                          bif (r52.2 != 7) then
                            some false
                          else
                            bif (r52.2 == 0) then
                              bif (decide (r52.1 < r4.2)) then
                                some false
                              else
                                bif (r52.2 == 0) then
                                  (pMay r2.2 r3.2 r52.1 r5.2).bind fun r53 =>
                                  bif (r53.1 != 1) then
                                    some false
                                  else
                                    bif (r53.2 != 0) then
                                      some false
                                    else
                                      it _ (fun (v_0 : (Unit × Unit × Int × Unit) × (Unit)) kn => CrewLeft_L26__17 r4 r52 r2 r3 r5 v_0.1.2.2.1 (fun y0 => kn (((), (), y0, ()), (())))) (((), (), r4.2, ()), (()))
                                else
                                  it _ (fun (v_0 : (Unit × Unit × Int × Unit) × (Unit)) kn => CrewLeft_L26__18 r4 r2 r3 r5 v_0.1.2.2.1 (fun y0 => kn (((), (), y0, ()), (())))) (((), (), r4.2, ()), (()))
                            else
                              bif (r52.2 == 0) then
                                (pMay r2.2 r3.2 r52.1 r5.2).bind fun r58 =>
                                bif (r58.1 != 1) then
                                  some false
                                else
                                  bif (r58.2 != 0) then
                                    some false
                                  else
                                    it _ (fun (v_0 : (Unit × Unit × Int × Unit) × (Unit)) kn => CrewLeft_L26__19 r4 r52 r2 r3 r5 v_0.1.2.2.1 (fun y0 => kn (((), (), y0, ()), (())))) (((), (), r4.2, ()), (()))
                              else
                                it _ (fun (v_0 : (Unit × Unit × Int × Unit) × (Unit)) kn => CrewLeft_L26__20 r4 r2 r3 r5 v_0.1.2.2.1 (fun y0 => kn (((), (), y0, ()), (())))) (((), (), r4.2, ()), (()))
                        else
                          bif (r52.2 == 0) then
                            bif (decide (r52.1 < r4.2)) then
                              some false
                            else
                              bif (r52.2 == 0) then
                                (pMay r2.2 r3.2 r52.1 r5.2).bind fun r63 =>
                                bif (r63.1 != 1) then
                                  some false
                                else
                                  bif (r63.2 != 0) then
                                    some false
                                  else
                                    it _ (fun (v_0 : (Unit × Unit × Int × Unit) × (Unit)) kn => CrewLeft_L26__21 r4 r52 r2 r3 r5 v_0.1.2.2.1 (fun y0 => kn (((), (), y0, ()), (())))) (((), (), r4.2, ()), (()))
                              else
                                it _ (fun (v_0 : (Unit × Unit × Int × Unit) × (Unit)) kn => CrewLeft_L26__22 r4 r2 r3 r5 v_0.1.2.2.1 (fun y0 => kn (((), (), y0, ()), (())))) (((), (), r4.2, ()), (()))
                          else
                            bif (r52.2 == 0) then
                              (pMay r2.2 r3.2 r52.1 r5.2).bind fun r68 =>
                              bif (r68.1 != 1) then
                                some false
                              else
                                bif (r68.2 != 0) then
                                  some false
                                else
                                  it _ (fun (v_0 : (Unit × Unit × Int × Unit) × (Unit)) kn => CrewLeft_L26__23 r4 r52 r2 r3 r5 v_0.1.2.2.1 (fun y0 => kn (((), (), y0, ()), (())))) (((), (), r4.2, ()), (()))
                            else
                              it _ (fun (v_0 : (Unit × Unit × Int × Unit) × (Unit)) kn => CrewLeft_L26__24 r4 r2 r3 r5 v_0.1.2.2.1 (fun y0 => kn (((), (), y0, ()), (())))) (((), (), r4.2, ()), (()))
                    else
                      (pNext r2.2 r3.2 r4.2 r5.2).bind fun r73 =>
                      bif (r73.2 != 0) then
                        bif (r73.2 != 7) then
                          some false
                        else
                          bif (r73.2 == 0) then
                            bif (decide (r73.1 < r4.2)) then
                              some false
                            else
                              bif (r73.2 == 0) then
                                (pMay r2.2 r3.2 r73.1 r5.2).bind fun r74 =>
                                bif (r74.1 != 1) then
                                  some false
                                else
                                  bif (r74.2 != 0) then
                                    some false
                                  else
                                    it _ (fun (v_0 : (Unit × Unit × Int × Unit) × (Unit)) kn => CrewLeft_L26__25 r4 r73 r2 r3 r5 v_0.1.2.2.1 (fun y0 => kn (((), (), y0, ()), (())))) (((), (), r4.2, ()), (()))
                              else
                                it _ (fun (v_0 : (Unit × Unit × Int × Unit) × (Unit)) kn => CrewLeft_L26__26 r4 r2 r3 r5 v_0.1.2.2.1 (fun y0 => kn (((), (), y0, ()), (())))) (((), (), r4.2, ()), (()))
                          else
                            bif (r73.2 == 0) then
                              (pMay r2.2 r3.2 r73.1 r5.2).bind fun r79 =>
                              bif (r79.1 != 1) then
                                some false
                              else
                                bif (r79.2 != 0) then
                                  some false
                                else
                                  it _ (fun (v_0 : (Unit × Unit × Int × Unit) × (Unit)) kn => CrewLeft_L26__27 r4 r73 r2 r3 r5 v_0.1.2.2.1 (fun y0 => kn (((), (), y0, ()), (())))) (((), (), r4.2, ()), (()))
                            else
                              it _ (fun (v_0 : (Unit × Unit × Int × Unit) × (Unit)) kn => CrewLeft_L26__28 r4 r2 r3 r5 v_0.1.2.2.1 (fun y0 => kn (((), (), y0, ()), (())))) (((), (), r4.2, ()), (()))
                      else
                        bif (r73.2 == 0) then
                          bif (decide (r73.1 < r4.2)) then
                            some false
                          else
                            bif (r73.2 == 0) then
                              (pMay r2.2 r3.2 r73.1 r5.2).bind fun r84 =>
                              bif (r84.1 != 1) then
                                some false
                              else
                                bif (r84.2 != 0) then
                                  some false
                                else
                                  it _ (fun (v_0 : (Unit × Unit × Int × Unit) × (Unit)) kn => CrewLeft_L26__29 r4 r73 r2 r3 r5 v_0.1.2.2.1 (fun y0 => kn (((), (), y0, ()), (())))) (((), (), r4.2, ()), (()))
                            else
                              it _ (fun (v_0 : (Unit × Unit × Int × Unit) × (Unit)) kn => CrewLeft_L26__30 r4 r2 r3 r5 v_0.1.2.2.1 (fun y0 => kn (((), (), y0, ()), (())))) (((), (), r4.2, ()), (()))
                        else
                          bif (r73.2 == 0) then
                            (pMay r2.2 r3.2 r73.1 r5.2).bind fun r89 =>
                            bif (r89.1 != 1) then
                              some false
                            else
                              bif (r89.2 != 0) then
                                some false
                              else
                                it _ (fun (v_0 : (Unit × Unit × Int × Unit) × (Unit)) kn => CrewLeft_L26__31 r4 r73 r2 r3 r5 v_0.1.2.2.1 (fun y0 => kn (((), (), y0, ()), (())))) (((), (), r4.2, ()), (()))
                          else
                            it _ (fun (v_0 : (Unit × Unit × Int × Unit) × (Unit)) kn => CrewLeft_L26__32 r4 r2 r3 r5 v_0.1.2.2.1 (fun y0 => kn (((), (), y0, ()), (())))) (((), (), r4.2, ()), (()))
                else
                  bif (r6.2 != 0) then
                    bif (r6.2 != 12) then
                      some false
                    else
                      (pNext r2.2 r3.2 r4.2 r5.2).bind fun r94 =>
                      bif (r94.2 != 0) then
                        bif (r94.2 != 7) then
                          some false
                        else
                          bif (r94.2 == 0) then
                            bif (decide (r94.1 < r4.2)) then
                              some false
                            else
                              bif (r94.2 == 0) then
                                (pMay r2.2 r3.2 r94.1 r5.2).bind fun r95 =>
                                bif (r95.1 != 1) then
                                  some false
                                else
                                  bif (r95.2 != 0) then
                                    some false
                                  else
                                    it _ (fun (v_0 : (Unit × Unit × Int × Unit) × (Unit)) kn => CrewLeft_L26__33 r4 r94 r2 r3 r5 v_0.1.2.2.1 (fun y0 => kn (((), (), y0, ()), (())))) (((), (), r4.2, ()), (()))
                              else
                                it _ (fun (v_0 : (Unit × Unit × Int × Unit) × (Unit)) kn => CrewLeft_L26__34 r4 r2 r3 r5 v_0.1.2.2.1 (fun y0 => kn (((), (), y0, ()), (())))) (((), (), r4.2, ()), (()))
                          else
                            bif (r94.2 == 0) then
                              (pMay r2.2 r3.2 r94.1 r5.2).bind fun r100 =>
                              bif (r100.1 != 1) then
                                some false
                              else
                                bif (r100.2 != 0) then
                                  some false
                                else
                                  it _ (fun (v_0 : (Unit × Unit × Int × Unit) × (Unit)) kn => CrewLeft_L26__35 r4 r94 r2 r3 r5 v_0.1.2.2.1 (fun y0 => kn (((), (), y0, ()), (())))) (((), (), r4.2, ()), (()))
                            else
                              it _ (fun (v_0 : (Unit × Unit × Int × Unit) × (Unit)) kn => CrewLeft_L26__36 r4 r2 r3 r5 v_0.1.2.2.1 (fun y0 => kn (((), (), y0, ()), (())))) (((), (), r4.2, ()), (()))
                      else
                        bif (r94.2 == 0) then
                          bif (decide (r94.1 < r4.2)) then
                            some false
                          else
                            bif (r94.2 == 0) then
                              (pMay r2.2 r3.2 r94.1 r5.2).bind fun r105 =>
                              bif (r105.1 != 1) then
                                some false
                              else
                                bif (r105.2 != 0) then
                                  some false
                                else
                                  it _ (fun (v_0 : (Unit × Unit × Int × Unit) × (Unit)) kn => CrewLeft_L26__37 r4 r94 r2 r3 r5 v_0.1.2.2.1 (fun y0 => kn (((), (), y0, ()), (())))) (((), (), r4.2, ()), (()))
                            else
                              it _ (fun (v_0 : (Unit × Unit × Int × Unit) × (Unit)) kn => CrewLeft_L26__38 r4 r2 r3 r5 v_0.1.2.2.1 (fun y0 => kn (((), (), y0, ()), (())))) (((), (), r4.2, ()), (()))
                        else
                          bif (r94.2 == 0) then
                            (pMay r2.2 r3.2 r94.1 r5.2).bind fun r110 =>
                            bif (r110.1 != 1) then
                              some false
                            else
                              bif (r110.2 != 0) then
                                some false
                              else
                                it _ (fun (v_0 : (Unit × Unit × Int × Unit) × (Unit)) kn => CrewLeft_L26__39 r4 r94 r2 r3 r5 v_0.1.2.2.1 (fun y0 => kn (((), (), y0, ()), (())))) (((), (), r4.2, ()), (()))
                          else
                            it _ (fun (v_0 : (Unit × Unit × Int × Unit) × (Unit)) kn => CrewLeft_L26__40 r4 r2 r3 r5 v_0.1.2.2.1 (fun y0 => kn (((), (), y0, ()), (())))) (((), (), r4.2, ()), (()))
                  else
                    (pNext r2.2 r3.2 r4.2 r5.2).bind fun r115 =>
                    bif (r115.2 != 0) then
                      bif (r115.2 != 7) then
                        some false
                      else
                        bif (r115.2 == 0) then
                          bif (decide (r115.1 < r4.2)) then
                            some false
                          else
                            bif (r115.2 == 0) then
                              (pMay r2.2 r3.2 r115.1 r5.2).bind fun r116 =>
                              bif (r116.1 != 1) then
                                some false
                              else
                                bif (r116.2 != 0) then
                                  some false
                                else
                                  it _ (fun (v_0 : (Unit × Unit × Int × Unit) × (Unit)) kn => CrewLeft_L26__41 r4 r115 r2 r3 r5 v_0.1.2.2.1 (fun y0 => kn (((), (), y0, ()), (())))) (((), (), r4.2, ()), (()))
                            else
                              it _ (fun (v_0 : (Unit × Unit × Int × Unit) × (Unit)) kn => CrewLeft_L26__42 r4 r2 r3 r5 v_0.1.2.2.1 (fun y0 => kn (((), (), y0, ()), (())))) (((), (), r4.2, ()), (()))
                        else
                          bif (r115.2 == 0) then
                            (pMay r2.2 r3.2 r115.1 r5.2).bind fun r121 =>
                            bif (r121.1 != 1) then
                              some false
                            else
                              bif (r121.2 != 0) then
                                some false
                              else
                                it _ (fun (v_0 : (Unit × Unit × Int × Unit) × (Unit)) kn => CrewLeft_L26__43 r4 r115 r2 r3 r5 v_0.1.2.2.1 (fun y0 => kn (((), (), y0, ()), (())))) (((), (), r4.2, ()), (()))
                          else
                            it _ (fun (v_0 : (Unit × Unit × Int × Unit) × (Unit)) kn => CrewLeft_L26__44 r4 r2 r3 r5 v_0.1.2.2.1 (fun y0 => kn (((), (), y0, ()), (())))) (((), (), r4.2, ()), (()))
                    else
                      bif (r115.2 == 0) then
                        bif (decide (r115.1 < r4.2)) then
                          some false
                        else
                          bif (r115.2 == 0) then
                            (pMay r2.2 r3.2 r115.1 r5.2).bind fun r126 =>
                            bif (r126.1 != 1) then
                              some false
                            else
                              bif (r126.2 != 0) then
                                some false
                              else
                                it _ (fun (v_0 : (Unit × Unit × Int × Unit) × (Unit)) kn => CrewLeft_L26__45 r4 r115 r2 r3 r5 v_0.1.2.2.1 (fun y0 => kn (((), (), y0, ()), (())))) (((), (), r4.2, ()), (()))
                          else
                            it _ (fun (v_0 : (Unit × Unit × Int × Unit) × (Unit)) kn => CrewLeft_L26__46 r4 r2 r3 r5 v_0.1.2.2.1 (fun y0 => kn (((), (), y0, ()), (())))) (((), (), r4.2, ()), (()))
                      else
                        bif (r115.2 == 0) then
                          (pMay r2.2 r3.2 r115.1 r5.2).bind fun r131 =>
                          bif (r131.1 != 1) then
                            some false
                          else
                            bif (r131.2 != 0) then
                              some false
                            else
                              it _ (fun (v_0 : (Unit × Unit × Int × Unit) × (Unit)) kn => CrewLeft_L26__47 r4 r115 r2 r3 r5 v_0.1.2.2.1 (fun y0 => kn (((), (), y0, ()), (())))) (((), (), r4.2, ()), (()))
                        else
                          it _ (fun (v_0 : (Unit × Unit × Int × Unit) × (Unit)) kn => CrewLeft_L26__48 r4 r2 r3 r5 v_0.1.2.2.1 (fun y0 => kn (((), (), y0, ()), (())))) (((), (), r4.2, ()), (()))
            else
              bif (r6.2 == 0) then
                bif (decide (r6.1 < 0)) then
                  (pMay r2.2 r3.2 r4.2 0).bind fun r136 =>
                  bif (r136.1 == 1) then
                    some false
                  else
                    bif (r136.2 != 0) then
                      some false
                    else
                      bif (r6.2 != 0) then
                        bif (r6.2 != 12) then
                          some false
                        else
                          (pNext r2.2 r3.2 r4.2 r5.2).bind fun r137 =>
                          bif (r137.2 != 0) then
                            bif (r137.2 != 7) then
                              some false
                            else
                              bif (r137.2 == 0) then
                                bif (decide (r137.1 < r4.2)) then
                                  some false
                                else
                                  bif (r137.2 == 0) then
                                    (pMay r2.2 r3.2 r137.1 r5.2).bind fun r138 =>
                                    bif (r138.1 != 1) then
                                      some false
                                    else
                                      bif (r138.2 != 0) then
                                        some false
                                      else
                                        it _ (fun (v_0 : (Unit × Unit × Int × Unit) × (Unit)) kn => CrewLeft_L26__49 r4 r137 r2 r3 r5 v_0.1.2.2.1 (fun y0 => kn (((), (), y0, ()), (())))) (((), (), r4.2, ()), (()))
                                  else
                                    it _ (fun (v_0 : (Unit × Unit × Int × Unit) × (Unit)) kn => CrewLeft_L26__50 r4 r2 r3 r5 v_0.1.2.2.1 (fun y0 => kn (((), (), y0, ()), (())))) (((), (), r4.2, ()), (()))
                              else
                                bif (r137.2 == 0) then
                                  (pMay r2.2 r3.2 r137.1 r5.2).bind fun r143 =>
                                  bif (r143.1 != 1) then
                                    some false
                                  else
                                    bif (r143.2 != 0) then
                                      some false
                                    else
                                      it _ (fun (v_0 : (Unit × Unit × Int × Unit) × (Unit)) kn => CrewLeft_L26__51 r4 r137 r2 r3 r5 v_0.1.2.2.1 (fun y0 => kn (((), (), y0, ()), (())))) (((), (), r4.2, ()), (()))
                                else
                                  it _ (fun (v_0 : (Unit × Unit × Int × Unit) × (Unit)) kn => CrewLeft_L26__52 r4 r2 r3 r5 v_0.1.2.2.1 (fun y0 => kn (((), (), y0, ()), (())))) (((), (), r4.2, ()), (()))
                          else
                            bif (r137.2 == 0) then
                              bif (decide (r137.1 < r4.2)) then
                                some false
                              else
                                bif (r137.2 == 0) then
                                  (pMay r2.2 r3.2 r137.1 r5.2).bind fun r148 =>
                                  bif (r148.1 != 1) then
                                    some false
                                  else
                                    bif (r148.2 != 0) then
                                      some false
                                    else
                                      it _ (fun (v_0 : (Unit × Unit × Int × Unit) × (Unit)) kn => CrewLeft_L26__53 r4 r137 r2 r3 r5 v_0.1.2.2.1 (fun y0 => kn (((), (), y0, ()), (())))) (((), (), r4.2, ()), (()))
                                else
                                  it _ (fun (v_0 : (Unit × Unit × Int × Unit) × (Unit)) kn => CrewLeft_L26__54 r4 r2 r3 r5 v_0.1.2.2.1 (fun y0 => kn (((), (), y0, ()), (())))) (((), (), r4.2, ()), (()))
                            else
                              bif (r137.2 == 0) then
                                (pMay r2.2 r3.2 r137.1 r5.2).bind fun r153 =>
                                bif (r153.1 != 1) then
                                  some false
                                else
                                  bif (r153.2 != 0) then
                                    some false
                                  else
                                    it _ (fun (v_0 : (Unit × Unit × Int × Unit) × (Unit)) kn => CrewLeft_L26__55 r4 r137 r2 r3 r5 v_0.1.2.2.1 (fun y0 => kn (((), (), y0, ()), (())))) (((), (), r4.2, ()), (()))
                              else
                                it _ (fun (v_0 : (Unit × Unit × Int × Unit) × (Unit)) kn => CrewLeft_L26__56 r4 r2 r3 r5 v_0.1.2.2.1 (fun y0 => kn (((), (), y0, ()), (())))) (((), (), r4.2, ()), (()))
                      else
                        (pNext r2.2 r3.2 r4.2 r5.2).bind fun r158 =>
                        bif (r158.2 != 0) then
                          bif (r158.2 != 7) then
                            some false
                          else
                            bif (r158.2 == 0) then
                              bif (decide (r158.1 < r4.2)) then
                                some false
                              else
                                bif (r158.2 == 0) then
                                  (pMay r2.2 r3.2 r158.1 r5.2).bind fun r159 =>
                                  bif (r159.1 != 1) then
                                    some false
                                  else
                                    bif (r159.2 != 0) then
                                      some false
                                    else
                                      it _ (fun (v_0 : (Unit × Unit × Int × Unit) × (Unit)) kn => CrewLeft_L26__57 r4 r158 r2 r3 r5 v_0.1.2.2.1 (fun y0 => kn (((), (), y0, ()), (())))) (((), (), r4.2, ()), (()))
                                else
                                  it _ (fun (v_0 : (Unit × Unit × Int × Unit) × (Unit)) kn => CrewLeft_L26__58 r4 r2 r3 r5 v_0.1.2.2.1 (fun y0 => kn (((), (), y0, ()), (())))) (((), (), r4.2, ()), (()))
                            else
                              bif (r158.2 == 0) then
                                (pMay r2.2 r3.2 r158.1 r5.2).bind fun r164 =>
                                bif (r164.1 != 1) then
                                  some false
                                else
                                  bif (r164.2 != 0) then
                                    some false
                                  else
                                    it _ (fun (v_0 : (Unit × Unit × Int × Unit) × (Unit)) kn => CrewLeft_L26__59 r4 r158 r2 r3 r5 v_0.1.2.2.1 (fun y0 => kn (((), (), y0, ()), (())))) (((), (), r4.2, ()), (()))
                              else
                                it _ (fun (v_0 : (Unit × Unit × Int × Unit) × (Unit)) kn => CrewLeft_L26__60 r4 r2 r3 r5 v_0.1.2.2.1 (fun y0 => kn (((), (), y0, ()), (())))) (((), (), r4.2, ()), (()))
                        else
                          bif (r158.2 == 0) then
                            bif (decide (r158.1 < r4.2)) then
                              some false
                            else
                              bif (r158.2 == 0) then
                                (pMay r2.2 r3.2 r158.1 r5.2).bind fun r169 =>
                                bif (r169.1 != 1) then
                                  some false
                                else
                                  bif (r169.2 != 0) then
                                    some false
                                  else
                                    it _ (fun (v_0 : (Unit × Unit × Int × Unit) × (Unit)) kn => CrewLeft_L26__61 r4 r158 r2 r3 r5 v_0.1.2.2.1 (fun y0 => kn (((), (), y0, ()), (())))) (((), (), r4.2, ()), (()))
                              else
                                it _ (fun (v_0 : (Unit × Unit × Int × Unit) × (Unit)) kn => CrewLeft_L26__62 r4 r2 r3 r5 v_0.1.2.2.1 (fun y0 => kn (((), (), y0, ()), (())))) (((), (), r4.2, ()), (()))
                          else
                            bif (r158.2 == 0) then
                              (pMay r2.2 r3.2 r158.1 r5.2).bind fun r174 =>
                              bif (r174.1 != 1) then
                                some false
                              else
                                bif (r174.2 != 0) then
                                  some false
                                else
                                  it _ (fun (v_0 : (Unit × Unit × Int × Unit) × (Unit)) kn => CrewLeft_L26__63 r4 r158 r2 r3 r5 v_0.1.2.2.1 (fun y0 => kn (((), (), y0, ()), (())))) (((), (), r4.2, ()), (()))
                            else
                              it _ (fun (v_0 : (Unit × Unit × Int × Unit) × (Unit)) kn => CrewLeft_L26__64 r4 r2 r3 r5 v_0.1.2.2.1 (fun y0 => kn (((), (), y0, ()), (())))) (((), (), r4.2, ()), (()))
                else
                  bif (r6.2 != 0) then
                    bif (r6.2 != 12) then
                      some false
                    else
                      (pNext r2.2 r3.2 r4.2 r5.2).bind fun r179 =>
                      bif (r179.2 != 0) then
                        bif (r179.2 != 7) then
                          some false
                        else
                          bif (r179.2 == 0) then
                            bif (decide (r179.1 < r4.2)) then
                              some false
                            else
                              bif (r179.2 == 0) then
                                (pMay r2.2 r3.2 r179.1 r5.2).bind fun r180 =>
                                bif (r180.1 != 1) then
                                  some false
                                else
                                  bif (r180.2 != 0) then
                                    some false
                                  else
                                    it _ (fun (v_0 : (Unit × Unit × Int × Unit) × (Unit)) kn => CrewLeft_L26__65 r4 r179 r2 r3 r5 v_0.1.2.2.1 (fun y0 => kn (((), (), y0, ()), (())))) (((), (), r4.2, ()), (()))
                              else
                                it _ (fun (v_0 : (Unit × Unit × Int × Unit) × (Unit)) kn => CrewLeft_L26__66 r4 r2 r3 r5 v_0.1.2.2.1 (fun y0 => kn (((), (), y0, ()), (())))) (((), (), r4.2, ()), (()))
                          else
                            bif (r179.2 == 0) then
                              (pMay r2.2 r3.2 r179.1 r5.2).bind fun r185 =>
                              bif (r185.1 != 1) then
                                some false
                              else
                                bif (r185.2 != 0) then
                                  some false
                                else
                                  it _ (fun (v_0 : (Unit × Unit × Int × Unit) × (Unit)) kn => CrewLeft_L26__67 r4 r179 r2 r3 r5 v_0.1.2.2.1 (fun y0 => kn (((), (), y0, ()), (())))) (((), (), r4.2, ()), (()))
                            else
                              it _ (fun (v_0 : (Unit × Unit × Int × Unit) × (Unit)) kn => CrewLeft_L26__68 r4 r2 r3 r5 v_0.1.2.2.1 (fun y0 => kn (((), (), y0, ()), (())))) (((), (), r4.2, ()), (()))
                      else
                        bif (r179.2 == 0) then
                          bif (decide (r179.1 < r4.2)) then
                            some false
                          else
                            bif (r179.2 == 0) then
                              (pMay r2.2 r3.2 r179.1 r5.2).bind fun r190 =>
                              bif (r190.1 != 1) then
                                some false
                              else
                                bif (r190.2 != 0) then
                                  some false
                                else
                                  it _ (fun (v_0 : (Unit × Unit × Int × Unit) × (Unit)) kn => CrewLeft_L26__69 r4 r179 r2 r3 r5 v_0.1.2.2.1 (fun y0 => kn (((), (), y0, ()), (())))) (((), (), r4.2, ()), (()))
                            else
                              it _ (fun (v_0 : (Unit × Unit × Int × Unit) × (Unit)) kn => CrewLeft_L26__70 r4 r2 r3 r5 v_0.1.2.2.1 (fun y0 => kn (((), (), y0, ()), (())))) (((), (), r4.2, ()), (()))
                        else
                          bif (r179.2 == 0) then
                            (pMay r2.2 r3.2 r179.1 r5.2).bind fun r195 =>
                            bif (r195.1 != 1) then
                              some false
                            else
                              bif (r195.2 != 0) then
                                some false
                              else
                                it _ (fun (v_0 : (Unit × Unit × Int × Unit) × (Unit)) kn => CrewLeft_L26__71 r4 r179 r2 r3 r5 v_0.1.2.2.1 (fun y0 => kn (((), (), y0, ()), (())))) (((), (), r4.2, ()), (()))
                          else
                            it _ (fun (v_0 : (Unit × Unit × Int × Unit) × (Unit)) kn => CrewLeft_L26__72 r4 r2 r3 r5 v_0.1.2.2.1 (fun y0 => kn (((), (), y0, ()), (())))) (((), (), r4.2, ()), (()))
                  else
                    (pNext r2.2 r3.2 r4.2 r5.2).bind fun r200 =>
                    bif (r200.2 != 0) then
                      bif (r200.2 != 7) then
                        some false
                      else
                        bif (r200.2 == 0) then
                          bif (decide (r200.1 < r4.2)) then
                            some false
                          else
                            bif (r200.2 == 0) then
                              (pMay r2.2 r3.2 r200.1 r5.2).bind fun r201 =>
                              bif (r201.1 != 1) then
                                some false
                              else
                                bif (r201.2 != 0) then
                                  some false
                                else
                                  it _ (fun (v_0 : (Unit × Unit × Int × Unit) × (Unit)) kn => CrewLeft_L26__73 r4 r200 r2 r3 r5 v_0.1.2.2.1 (fun y0 => kn (((), (), y0, ()), (())))) (((), (), r4.2, ()), (()))
                            else
                              it _ (fun (v_0 : (Unit × Unit × Int × Unit) × (Unit)) kn => CrewLeft_L26__74 r4 r2 r3 r5 v_0.1.2.2.1 (fun y0 => kn (((), (), y0, ()), (())))) (((), (), r4.2, ()), (()))
                        else
                          bif (r200.2 == 0) then
                            (pMay r2.2 r3.2 r200.1 r5.2).bind fun r206 =>
                            bif (r206.1 != 1) then
                              some false
                            else
                              bif (r206.2 != 0) then
                                some false
                              else
                                it _ (fun (v_0 : (Unit × Unit × Int × Unit) × (Unit)) kn => CrewLeft_L26__75 r4 r200 r2 r3 r5 v_0.1.2.2.1 (fun y0 => kn (((), (), y0, ()), (())))) (((), (), r4.2, ()), (()))
                          else
                            it _ (fun (v_0 : (Unit × Unit × Int × Unit) × (Unit)) kn => CrewLeft_L26__76 r4 r2 r3 r5 v_0.1.2.2.1 (fun y0 => kn (((), (), y0, ()), (())))) (((), (), r4.2, ()), (()))
                    else
                      bif (r200.2 == 0) then
                        bif (decide (r200.1 < r4.2)) then
                          some false
                        else
                          bif (r200.2 == 0) then
                            (pMay r2.2 r3.2 r200.1 r5.2).bind fun r211 =>
                            bif (r211.1 != 1) then
                              some false
                            else
                              bif (r211.2 != 0) then
                                some false
                              else
                                it _ (fun (v_0 : (Unit × Unit × Int × Unit) × (Unit)) kn => CrewLeft_L26__77 r4 r200 r2 r3 r5 v_0.1.2.2.1 (fun y0 => kn (((), (), y0, ()), (())))) (((), (), r4.2, ()), (()))
                          else
                            it _ (fun (v_0 : (Unit × Unit × Int × Unit) × (Unit)) kn => CrewLeft_L26__78 r4 r2 r3 r5 v_0.1.2.2.1 (fun y0 => kn (((), (), y0, ()), (())))) (((), (), r4.2, ()), (()))
                      else
                        bif (r200.2 == 0) then
                          (pMay r2.2 r3.2 r200.1 r5.2).bind fun r216 =>
                          bif (r216.1 != 1) then
                            some false
                          else
                            bif (r216.2 != 0) then
                              some false
                            else
                              it _ (fun (v_0 : (Unit × Unit × Int × Unit) × (Unit)) kn => CrewLeft_L26__79 r4 r200 r2 r3 r5 v_0.1.2.2.1 (fun y0 => kn (((), (), y0, ()), (())))) (((), (), r4.2, ()), (()))
                        else
                          it _ (fun (v_0 : (Unit × Unit × Int × Unit) × (Unit)) kn => CrewLeft_L26__80 r4 r2 r3 r5 v_0.1.2.2.1 (fun y0 => kn (((), (), y0, ()), (())))) (((), (), r4.2, ()), (()))
              else
                bif (r6.2 != 0) then
                  bif (r6.2 != 12) then
                    some false
                  else
                    (pNext r2.2 r3.2 r4.2 r5.2).bind fun r221 =>
                    bif (r221.2 != 0) then
                      bif (r221.2 != 7) then
                        some false
                      else
                        bif (r221.2 == 0) then
                          bif (decide (r221.1 < r4.2)) then
                            some false
                          else
                            bif (r221.2 == 0) then
                              (pMay r2.2 r3.2 r221.1 r5.2).bind fun r222 =>
                              bif (r222.1 != 1) then
                                some false
                              else
                                bif (r222.2 != 0) then
                                  some false
                                else
                                  it _ (fun (v_0 : (Unit × Unit × Int × Unit) × (Unit)) kn => CrewLeft_L26__81 r4 r221 r2 r3 r5 v_0.1.2.2.1 (fun y0 => kn (((), (), y0, ()), (())))) (((), (), r4.2, ()), (()))
                            else
                              it _ (fun (v_0 : (Unit × Unit × Int × Unit) × (Unit)) kn => CrewLeft_L26__82 r4 r2 r3 r5 v_0.1.2.2.1 (fun y0 => kn (((), (), y0, ()), (())))) (((), (), r4.2, ()), (()))
                        else
                          bif (r221.2 == 0) then
                            (pMay r2.2 r3.2 r221.1 r5.2).bind fun r227 =>
                            bif (r227.1 != 1) then
                              some false
                            else
                              bif (r227.2 != 0) then
                                some false
                              else
                                it _ (fun (v_0 : (Unit × Unit × Int × Unit) × (Unit)) kn => CrewLeft_L26__83 r4 r221 r2 r3 r5 v_0.1.2.2.1 (fun y0 => kn (((), (), y0, ()), (())))) (((), (), r4.2, ()), (()))
                          else
                            it _ (fun (v_0 : (Unit × Unit × Int × Unit) × (Unit)) kn => CrewLeft_L26__84 r4 r2 r3 r5 v_0.1.2.2.1 (fun y0 => kn (((), (), y0, ()), (())))) (((), (), r4.2, ()), (()))
                    else
                      bif (r221.2 == 0) then
                        bif (decide (r221.1 < r4.2)) then
                          some false
                        else
                          bif (r221.2 == 0) then
                            (pMay r2.2 r3.2 r221.1 r5.2).bind fun r232 =>
                            bif (r232.1 != 1) then
                              some false
                            else
                              bif (r232.2 != 0) then
                                some false
                              else
                                it _ (fun (v_0 : (Unit × Unit × Int × Unit) × (Unit)) kn => CrewLeft_L26__85 r4 r221 r2 r3 r5 v_0.1.2.2.1 (fun y0 => kn (((), (), y0, ()), (())))) (((), (), r4.2, ()), (()))
                          else
                            it _ (fun (v_0 : (Unit × Unit × Int × Unit) × (Unit)) kn => CrewLeft_L26__86 r4 r2 r3 r5 v_0.1.2.2.1 (fun y0 => kn (((), (), y0, ()), (())))) (((), (), r4.2, ()), (()))
                      else
                        bif (r221.2 == 0) then
                          (pMay r2.2 r3.2 r221.1 r5.2).bind fun r237 =>
                          bif (r237.1 != 1) then
                            some false
                          else
                            bif (r237.2 != 0) then
                              some false
                            else
                              it _ (fun (v_0 : (Unit × Unit × Int × Unit) × (Unit)) kn => CrewLeft_L26__87 r4 r221 r2 r3 r5 v_0.1.2.2.1 (fun y0 => kn (((), (), y0, ()), (())))) (((), (), r4.2, ()), (()))
                        else
                          it _ (fun (v_0 : (Unit × Unit × Int × Unit) × (Unit)) kn => CrewLeft_L26__88 r4 r2 r3 r5 v_0.1.2.2.1 (fun y0 => kn (((), (), y0, ()), (())))) (((), (), r4.2, ()), (()))
                else
                  (pNext r2.2 r3.2 r4.2 r5.2).bind fun r242 =>
                  bif (r242.2 != 0) then
                    bif (r242.2 != 7) then
                      some false
                    else
                      bif (r242.2 == 0) then
                        bif (decide (r242.1 < r4.2)) then
                          some false
                        else
                          bif (r242.2 == 0) then
                            (pMay r2.2 r3.2 r242.1 r5.2).bind fun r243 =>
                            bif (r243.1 != 1) then
                              some false
                            else
                              bif (r243.2 != 0) then
                                some false
                              else
                                it _ (fun (v_0 : (Unit × Unit × Int × Unit) × (Unit)) kn => CrewLeft_L26__89 r4 r242 r2 r3 r5 v_0.1.2.2.1 (fun y0 => kn (((), (), y0, ()), (())))) (((), (), r4.2, ()), (()))
                          else
                            it _ (fun (v_0 : (Unit × Unit × Int × Unit) × (Unit)) kn => CrewLeft_L26__90 r4 r2 r3 r5 v_0.1.2.2.1 (fun y0 => kn (((), (), y0, ()), (())))) (((), (), r4.2, ()), (()))
                      else
                        bif (r242.2 == 0) then
                          (pMay r2.2 r3.2 r242.1 r5.2).bind fun r248 =>
                          bif (r248.1 != 1) then
                            some false
                          else
                            bif (r248.2 != 0) then
                              some false
                            else
                              it _ (fun (v_0 : (Unit × Unit × Int × Unit) × (Unit)) kn => CrewLeft_L26__91 r4 r242 r2 r3 r5 v_0.1.2.2.1 (fun y0 => kn (((), (), y0, ()), (())))) (((), (), r4.2, ()), (()))
                        else
                          it _ (fun (v_0 : (Unit × Unit × Int × Unit) × (Unit)) kn => CrewLeft_L26__92 r4 r2 r3 r5 v_0.1.2.2.1 (fun y0 => kn (((), (), y0, ()), (())))) (((), (), r4.2, ()), (()))
                  else
                    bif (r242.2 == 0) then
                      bif (decide (r242.1 < r4.2)) then
                        some false
                      else
                        bif (r242.2 == 0) then
                          (pMay r2.2 r3.2 r242.1 r5.2).bind fun r253 =>
                          bif (r253.1 != 1) then
                            some false
                          else
                            bif (r253.2 != 0) then
                              some false
                            else
                              it _ (fun (v_0 : (Unit × Unit × Int × Unit) × (Unit)) kn => CrewLeft_L26__93 r4 r242 r2 r3 r5 v_0.1.2.2.1 (fun y0 => kn (((), (), y0, ()), (())))) (((), (), r4.2, ()), (()))
                        else
                          it _ (fun (v_0 : (Unit × Unit × Int × Unit) × (Unit)) kn => CrewLeft_L26__94 r4 r2 r3 r5 v_0.1.2.2.1 (fun y0 => kn (((), (), y0, ()), (())))) (((), (), r4.2, ()), (()))
                    else
                      bif (r242.2 == 0) then
                        (pMay r2.2 r3.2 r242.1 r5.2).bind fun r258 =>
                        bif (r258.1 != 1) then
                          some false
                        else
                          bif (r258.2 != 0) then
                            some false
                          else
                            it _ (fun (v_0 : (Unit × Unit × Int × Unit) × (Unit)) kn => CrewLeft_L26__95 r4 r242 r2 r3 r5 v_0.1.2.2.1 (fun y0 => kn (((), (), y0, ()), (())))) (((), (), r4.2, ()), (()))
                      else
                        it _ (fun (v_0 : (Unit × Unit × Int × Unit) × (Unit)) kn => CrewLeft_L26__96 r4 r2 r3 r5 v_0.1.2.2.1 (fun y0 => kn (((), (), y0, ()), (())))) (((), (), r4.2, ()), (()))
    else
      bif (r6.2 == 0) then
        bif (decide (r6.1 < 0)) then
          (pMay r2.2 r3.2 r4.2 0).bind fun r263 =>
          bif (r263.1 == 1) then
            some false
          else
            bif (r263.2 != 0) then
              some false
            else
              bif (r6.2 != 0) then
                bif (r6.2 != 12) then
                  some false
                else
                  (pNext r2.2 r3.2 r4.2 r5.2).bind fun r264 =>
                  bif (r264.2 != 0) then
                    bif (r264.2 != 7) then
                      some false
                    else
                      bif (r264.2 == 0) then
                        bif (decide (r264.1 < r4.2)) then
                          some false
                        else
                          bif (r264.2 == 0) then
                            (pMay r2.2 r3.2 r264.1 r5.2).bind fun r265 =>
                            bif (r265.1 != 1) then
                              some false
                            else
                              bif (r265.2 != 0) then
                                some false
                              else
                                it _ (fun (v_0 : (Unit × Unit × Int × Unit) × (Unit)) kn => CrewLeft_L26__97 r4 r264 r2 r3 r5 v_0.1.2.2.1 (fun y0 => kn (((), (), y0, ()), (())))) (((), (), r4.2, ()), (()))
                          else
                            it _ (fun (v_0 : (Unit × Unit × Int × Unit) × (Unit)) kn => CrewLeft_L26__98 r4 r2 r3 r5 v_0.1.2.2.1 (fun y0 => kn (((), (), y0, ()), (())))) (((), (), r4.2, ()), (()))
                      else
                        bif (r264.2 == 0) then
                          (pMay r2.2 r3.2 r264.1 r5.2).bind fun r270 =>
                          bif (r270.1 != 1) then
                            some false
                          else
                            bif (r270.2 != 0) then
                              some false
                            else
                              it _ (fun (v_0 : (Unit × Unit × Int × Unit) × (Unit)) kn => CrewLeft_L26__99 r4 r264 r2 r3 r5 v_0.1.2.2.1 (fun y0 => kn (((), (), y0, ()), (())))) (((), (), r4.2, ()), (()))
                        else
                          it _ (fun (v_0 : (Unit × Unit × Int × Unit) × (Unit)) kn => CrewLeft_L26__100 r4 r2 r3 r5 v_0.1.2.2.1 (fun y0 => kn (((), (), y0, ()), (())))) (((), (), r4.2, ()), (()))
                  else
                    bif (r264.2 == 0) then
                      bif (decide (r264.1 < r4.2)) then
                        some false
                      else
                        bif (r264.2 == 0) then
                          (pMay r2.2 r3.2 r264.1 r5.2).bind fun r275 =>
                          bif (r275.1 != 1) then
                            some false
                          else
                            bif (r275.2 != 0) then
                              some false
                            else
                              it _ (fun (v_0 : (Unit × Unit × Int × Unit) × (Unit)) kn => CrewLeft_L26__101 r4 r264 r2 r3 r5 v_0.1.2.2.1 (fun y0 => kn (((), (), y0, ()), (())))) (((), (), r4.2, ()), (()))
                        else
                          it _ (fun (v_0 : (Unit × Unit × Int × Unit) × (Unit)) kn => CrewLeft_L26__102 r4 r2 r3 r5 v_0.1.2.2.1 (fun y0 => kn (((), (), y0, ()), (())))) (((), (), r4.2, ()), (()))
                    else
                      bif (r264.2 == 0) then
                        (pMay r2.2 r3.2 r264.1 r5.2).bind fun r280 =>
                        bif (r280.1 != 1) then
                          some false
                        else
                          bif (r280.2 != 0) then
                            some false
                          else
                            it _ (fun (v_0 : (Unit × Unit × Int × Unit) × (Unit)) kn => CrewLeft_L26__103 r4 r264 r2 r3 r5 v_0.1.2.2.1 (fun y0 => kn (((), (), y0, ()), (())))) (((), (), r4.2, ()), (()))
                      else
                        it _ (fun (v_0 : (Unit × Unit × Int × Unit) × (Unit)) kn => CrewLeft_L26__104 r4 r2 r3 r5 v_0.1.2.2.1 (fun y0 => kn (((), (), y0, ()), (())))) (((), (), r4.2, ()), (()))
              else
                (pNext r2.2 r3.2 r4.2 r5.2).bind fun r285 =>
                bif (r285.2 != 0) then
                  bif (r285.2 != 7) then
                    some false
                  else
                    bif (r285.2 == 0) then
                      bif (decide (r285.1 < r4.2)) then
                        some false
                      else
                        bif (r285.2 == 0) then
                          (pMay r2.2 r3.2 r285.1 r5.2).bind fun r286 =>
                          bif (r286.1 != 1) then
                            some false
                          else
                            bif (r286.2 != 0) then
                              some false
                            else
                              it _ (fun (v_0 : (Unit × Unit × Int × Unit) × (Unit)) kn => CrewLeft_L26__105 r4 r285 r2 r3 r5 v_0.1.2.2.1 (fun y0 => kn (((), (), y0, ()), (())))) (((), (), r4.2, ()), (()))
                        else
                          it _ (fun (v_0 : (Unit × Unit × Int × Unit) × (Unit)) kn => CrewLeft_L26__106 r4 r2 r3 r5 v_0.1.2.2.1 (fun y0 => kn (((), (), y0, ()), (())))) (((), (), r4.2, ()), (()))
                    else
                      bif (r285.2 == 0) then
                        (pMay r2.2 r3.2 r285.1 r5.2).bind fun r291 =>
                        bif (r291.1 != 1) then
                          some false
                        else
                          bif (r291.2 != 0) then
                            some false
                          else
                            it _ (fun (v_0 : (Unit × Unit × Int × Unit) × (Unit)) kn => CrewLeft_L26__107 r4 r285 r2 r3 r5 v_0.1.2.2.1 (fun y0 => kn (((), (), y0, ()), (())))) (((), (), r4.2, ()), (()))
                      else
                        it _ (fun (v_0 : (Unit × Unit × Int × Unit) × (Unit)) kn => CrewLeft_L26__108 r4 r2 r3 r5 v_0.1.2.2.1 (fun y0 => kn (((), (), y0, ()), (())))) (((), (), r4.2, ()), (()))
                else
                  bif (r285.2 == 0) then
                    bif (decide (r285.1 < r4.2)) then
                      some false
                    else
                      bif (r285.2 == 0) then
                        (pMay r2.2 r3.2 r285.1 r5.2).bind fun r296 =>
                        bif (r296.1 != 1) then
                          some false
                        else
                          bif (r296.2 != 0) then
                            some false
                          else
                            it _ (fun (v_0 : (Unit × Unit × Int × Unit) × (Unit)) kn => CrewLeft_L26__109 r4 r285 r2 r3 r5 v_0.1.2.2.1 (fun y0 => kn (((), (), y0, ()), (())))) (((), (), r4.2, ()), (()))
                      else
                        it _ (fun (v_0 : (Unit × Unit × Int × Unit) × (Unit)) kn => CrewLeft_L26__110 r4 r2 r3 r5 v_0.1.2.2.1 (fun y0 => kn (((), (), y0, ()), (())))) (((), (), r4.2, ()), (()))
                  else
                    bif (r285.2 == 0) then
                      (pMay r2.2 r3.2 r285.1 r5.2).bind fun r301 =>
                      bif (r301.1 != 1) then
                        some false
                      else
                        bif (r301.2 != 0) then
                          some false
                        else
                          it _ (fun (v_0 : (Unit × Unit × Int × Unit) × (Unit)) kn => CrewLeft_L26__111 r4 r285 r2 r3 r5 v_0.1.2.2.1 (fun y0 => kn (((), (), y0, ()), (())))) (((), (), r4.2, ()), (()))
                    else
                      it _ (fun (v_0 : (Unit × Unit × Int × Unit) × (Unit)) kn => CrewLeft_L26__112 r4 r2 r3 r5 v_0.1.2.2.1 (fun y0 => kn (((), (), y0, ()), (())))) (((), (), r4.2, ()), (()))
        else
          bif (r6.2 != 0) then
            bif (r6.2 != 12) then
              some false
            else
              (pNext r2.2 r3.2 r4.2 r5.2).bind fun r306 =>
              bif (r306.2 != 0) then
                bif (r306.2 != 7) then
                  some false
                else
                  bif (r306.2 == 0) then
                    bif (decide (r306.1 < r4.2)) then
                      some false
                    else
                      bif (r306.2 == 0) then
                        (pMay r2.2 r3.2 r306.1 r5.2).bind fun r307 =>
                        bif (r307.1 != 1) then
                          some false
                        else
                          bif (r307.2 != 0) then
                            some false
                          else
                            it _ (fun (v_0 : (Unit × Unit × Int × Unit) × (Unit)) kn => CrewLeft_L26__113 r4 r306 r2 r3 r5 v_0.1.2.2.1 (fun y0 => kn (((), (), y0, ()), (())))) (((), (), r4.2, ()), (()))
                      else
                        it _ (fun (v_0 : (Unit × Unit × Int × Unit) × (Unit)) kn => CrewLeft_L26__114 r4 r2 r3 r5 v_0.1.2.2.1 (fun y0 => kn (((), (), y0, ()), (())))) (((), (), r4.2, ()), (()))
                  else
                    bif (r306.2 == 0) then
                      (pMay r2.2 r3.2 r306.1 r5.2).bind fun r312 =>
                      bif (r312.1 != 1) then
                        some false
                      else
                        bif (r312.2 != 0) then
                          some false
                        else
                          it _ (fun (v_0 : (Unit × Unit × Int × Unit) × (Unit)) kn => CrewLeft_L26__115 r4 r306 r2 r3 r5 v_0.1.2.2.1 (fun y0 => kn (((), (), y0, ()), (())))) (((), (), r4.2, ()), (()))
                    else
                      it _ (fun (v_0 : (Unit × Unit × Int × Unit) × (Unit)) kn => CrewLeft_L26__116 r4 r2 r3 r5 v_0.1.2.2.1 (fun y0 => kn (((), (), y0, ()), (())))) (((), (), r4.2, ()), (()))
              else
                bif (r306.2 == 0) then
                  bif (decide (r306.1 < r4.2)) then
                    some false
                  else
                    bif (r306.2 == 0) then
                      (pMay r2.2 r3.2 r306.1 r5.2).bind fun r317 =>
                      bif (r317.1 != 1) then
                        some false
                      else
                        bif (r317.2 != 0) then
                          some false
                        else
                          it _ (fun (v_0 : (Unit × Unit × Int × Unit) × (Unit)) kn => CrewLeft_L26__117 r4 r306 r2 r3 r5 v_0.1.2.2.1 (fun y0 => kn (((), (), y0, ()), (())))) (((), (), r4.2, ()), (()))
                    else
                      it _ (fun (v_0 : (Unit × Unit × Int × Unit) × (Unit)) kn => CrewLeft_L26__118 r4 r2 r3 r5 v_0.1.2.2.1 (fun y0 => kn (((), (), y0, ()), (())))) (((), (), r4.2, ()), (()))
                else
                  bif (r306.2 == 0) then
                    (pMay r2.2 r3.2 r306.1 r5.2).bind fun r322 =>
                    bif (r322.1 != 1) then
                      some false
                    else
                      bif (r322.2 != 0) then
                        some false
                      else
                        it _ (fun (v_0 : (Unit × Unit × Int × Unit) × (Unit)) kn => CrewLeft_L26__119 r4 r306 r2 r3 r5 v_0.1.2.2.1 (fun y0 => kn (((), (), y0, ()), (())))) (((), (), r4.2, ()), (()))
                  else
                    it _ (fun (v_0 : (Unit × Unit × Int × Unit) × (Unit)) kn => CrewLeft_L26__120 r4 r2 r3 r5 v_0.1.2.2.1 (fun y0 => kn (((), (), y0, ()), (())))) (((), (), r4.2, ()), (()))
          else
            (pNext r2.2 r3.2 r4.2 r5.2).bind fun r327 =>
            bif (r327.2 != 0) then
              bif (r327.2 != 7) then
                some false
              else
                bif (r327.2 == 0) then
                  bif (decide (r327.1 < r4.2)) then
                    some false
                  else
                    bif (r327.2 == 0) then
                      (pMay r2.2 r3.2 r327.1 r5.2).bind fun r328 =>
                      bif (r328.1 != 1) then
                        some false
                      else
                        bif (r328.2 != 0) then
                          some false
                        else
                          it _ (fun (v_0 : (Unit × Unit × Int × Unit) × (Unit)) kn => CrewLeft_L26__121 r4 r327 r2 r3 r5 v_0.1.2.2.1 (fun y0 => kn (((), (), y0, ()), (())))) (((), (), r4.2, ()), (()))
                    else
                      it _ (fun (v_0 : (Unit × Unit × Int × Unit) × (Unit)) kn => CrewLeft_L26__122 r4 r2 r3 r5 v_0.1.2.2.1 (fun y0 => kn (((), (), y0, ()), (())))) (((), (), r4.2, ()), (()))
                else
                  bif (r327.2 == 0) then
                    (pMay r2.2 r3.2 r327.1 r5.2).bind fun r333 =>
                    bif (r333.1 != 1) then
                      some false
                    else
                      bif (r333.2 != 0) then
                        some false
                      else
                        it _ (fun (v_0 : (Unit × Unit × Int × Unit) × (Unit)) kn => CrewLeft_L26__123 r4 r327 r2 r3 r5 v_0.1.2.2.1 (fun y0 => kn (((), (), y0, ()), (())))) (((), (), r4.2, ()), (()))
                  else
                    it _ (fun (v_0 : (Unit × Unit × Int × Unit) × (Unit)) kn => CrewLeft_L26__124 r4 r2 r3 r5 v_0.1.2.2.1 (fun y0 => kn (((), (), y0, ()), (())))) (((), (), r4.2, ()), (()))
            else
              bif (r327.2 == 0) then
                bif (decide (r327.1 < r4.2)) then
                  some false
                else
                  bif (r327.2 == 0) then
                    (pMay r2.2 r3.2 r327.1 r5.2).bind fun r338 =>
                    bif (r338.1 != 1) then
                      some false
                    else
                      bif (r338.2 != 0) then
                        some false
                      else
                        it _ (fun (v_0 : (Unit × Unit × Int × Unit) × (Unit)) kn => CrewLeft_L26__125 r4 r327 r2 r3 r5 v_0.1.2.2.1 (fun y0 => kn (((), (), y0, ()), (())))) (((), (), r4.2, ()), (()))
                  else
                    it _ (fun (v_0 : (Unit × Unit × Int × Unit) × (Unit)) kn => CrewLeft_L26__126 r4 r2 r3 r5 v_0.1.2.2.1 (fun y0 => kn (((), (), y0, ()), (())))) (((), (), r4.2, ()), (()))
              else
                bif (r327.2 == 0) then
                  (pMay r2.2 r3.2 r327.1 r5.2).bind fun r343 =>
                  bif (r343.1 != 1) then
                    some false
                  else
                    bif (r343.2 != 0) then
                      some false
                    else
                      it _ (fun (v_0 : (Unit × Unit × Int × Unit) × (Unit)) kn => CrewLeft_L26__127 r4 r327 r2 r3 r5 v_0.1.2.2.1 (fun y0 => kn (((), (), y0, ()), (())))) (((), (), r4.2, ()), (()))
                else
                  it _ (fun (v_0 : (Unit × Unit × Int × Unit) × (Unit)) kn => CrewLeft_L26__128 r4 r2 r3 r5 v_0.1.2.2.1 (fun y0 => kn (((), (), y0, ()), (())))) (((), (), r4.2, ()), (()))
      else
        bif (r6.2 != 0) then
          bif (r6.2 != 12) then
            some false
          else
            (pNext r2.2 r3.2 r4.2 r5.2).bind fun r348 =>
            bif (r348.2 != 0) then
              bif (r348.2 != 7) then
                some false
              else
                bif (r348.2 == 0) then
                  bif (decide (r348.1 < r4.2)) then
                    some false
                  else
                    bif (r348.2 == 0) then
                      (pMay r2.2 r3.2 r348.1 r5.2).bind fun r349 =>
                      bif (r349.1 != 1) then
                        some false
                      else
                        bif (r349.2 != 0) then
                          some false
                        else
                          it _ (fun (v_0 : (Unit × Unit × Int × Unit) × (Unit)) kn => CrewLeft_L26__129 r4 r348 r2 r3 r5 v_0.1.2.2.1 (fun y0 => kn (((), (), y0, ()), (())))) (((), (), r4.2, ()), (()))
                    else
                      it _ (fun (v_0 : (Unit × Unit × Int × Unit) × (Unit)) kn => CrewLeft_L26__130 r4 r2 r3 r5 v_0.1.2.2.1 (fun y0 => kn (((), (), y0, ()), (())))) (((), (), r4.2, ()), (()))
                else
                  bif (r348.2 == 0) then
                    (pMay r2.2 r3.2 r348.1 r5.2).bind fun r354 =>
                    bif (r354.1 != 1) then
                      some false
                    else
                      bif (r354.2 != 0) then
                        some false
                      else
                        it _ (fun (v_0 : (Unit × Unit × Int × Unit) × (Unit)) kn => CrewLeft_L26__131 r4 r348 r2 r3 r5 v_0.1.2.2.1 (fun y0 => kn (((), (), y0, ()), (())))) (((), (), r4.2, ()), (()))
                  else
                    it _ (fun (v_0 : (Unit × Unit × Int × Unit) × (Unit)) kn => CrewLeft_L26__132 r4 r2 r3 r5 v_0.1.2.2.1 (fun y0 => kn (((), (), y0, ()), (())))) (((), (), r4.2, ()), (()))
            else
              bif (r348.2 == 0) then
                bif (decide (r348.1 < r4.2)) then
                  some false
                else
                  bif (r348.2 == 0) then
                    (pMay r2.2 r3.2 r348.1 r5.2).bind fun r359 =>
                    bif (r359.1 != 1) then
                      some false
                    else
                      bif (r359.2 != 0) then
                        some false
                      else
                        it _ (fun (v_0 : (Unit × Unit × Int × Unit) × (Unit)) kn => CrewLeft_L26__133 r4 r348 r2 r3 r5 v_0.1.2.2.1 (fun y0 => kn (((), (), y0, ()), (())))) (((), (), r4.2, ()), (()))
                  else
                    it _ (fun (v_0 : (Unit × Unit × Int × Unit) × (Unit)) kn => CrewLeft_L26__134 r4 r2 r3 r5 v_0.1.2.2.1 (fun y0 => kn (((), (), y0, ()), (())))) (((), (), r4.2, ()), (()))
              else
                bif (r348.2 == 0) then
                  (pMay r2.2 r3.2 r348.1 r5.2).bind fun r364 =>
                  bif (r364.1 != 1) then
                    some false
                  else
                    bif (r364.2 != 0) then
                      some false
                    else
                      it _ (fun (v_0 : (Unit × Unit × Int × Unit) × (Unit)) kn => CrewLeft_L26__135 r4 r348 r2 r3 r5 v_0.1.2.2.1 (fun y0 => kn (((), (), y0, ()), (())))) (((), (), r4.2, ()), (()))
                else
                  it _ (fun (v_0 : (Unit × Unit × Int × Unit) × (Unit)) kn => CrewLeft_L26__136 r4 r2 r3 r5 v_0.1.2.2.1 (fun y0 => kn (((), (), y0, ()), (())))) (((), (), r4.2, ()), (()))
        else
          (pNext r2.2 r3.2 r4.2 r5.2).bind fun r369 =>
          bif (r369.2 != 0) then
            bif (r369.2 != 7) then
              some false
            else
              bif (r369.2 == 0) then
                bif (decide (r369.1 < r4.2)) then
                  some false
                else
                  bif (r369.2 == 0) then
                    (pMay r2.2 r3.2 r369.1 r5.2).bind fun r370 =>
                    bif (r370.1 != 1) then
                      some false
                    else
                      bif (r370.2 != 0) then
                        some false
                      else
                        it _ (fun (v_0 : (Unit × Unit × Int × Unit) × (Unit)) kn => CrewLeft_L26__137 r4 r369 r2 r3 r5 v_0.1.2.2.1 (fun y0 => kn (((), (), y0, ()), (())))) (((), (), r4.2, ()), (()))
                  else
                    it _ (fun (v_0 : (Unit × Unit × Int × Unit) × (Unit)) kn => CrewLeft_L26__138 r4 r2 r3 r5 v_0.1.2.2.1 (fun y0 => kn (((), (), y0, ()), (())))) (((), (), r4.2, ()), (()))
              else
                bif (r369.2 == 0) then
                  (pMay r2.2 r3.2 r369.1 r5.2).bind fun r375 =>
                  bif (r375.1 != 1) then
                    some false
                  else
                    bif (r375.2 != 0) then
                      some false
                    else
                      it _ (fun (v_0 : (Unit × Unit × Int × Unit) × (Unit)) kn => CrewLeft_L26__139 r4 r369 r2 r3 r5 v_0.1.2.2.1 (fun y0 => kn (((), (), y0, ()), (())))) (((), (), r4.2, ()), (()))
                else
                  it _ (fun (v_0 : (Unit × Unit × Int × Unit) × (Unit)) kn => CrewLeft_L26__140 r4 r2 r3 r5 v_0.1.2.2.1 (fun y0 => kn (((), (), y0, ()), (())))) (((), (), r4.2, ()), (()))
          else
            bif (r369.2 == 0) then
              bif (decide (r369.1 < r4.2)) then
                some false
              else
                bif (r369.2 == 0) then
                  (pMay r2.2 r3.2 r369.1 r5.2).bind fun r380 =>
                  bif (r380.1 != 1) then
                    some false
                  else
                    bif (r380.2 != 0) then
                      some false
                    else
                      it _ (fun (v_0 : (Unit × Unit × Int × Unit) × (Unit)) kn => CrewLeft_L26__141 r4 r369 r2 r3 r5 v_0.1.2.2.1 (fun y0 => kn (((), (), y0, ()), (())))) (((), (), r4.2, ()), (()))
                else
                  it _ (fun (v_0 : (Unit × Unit × Int × Unit) × (Unit)) kn => CrewLeft_L26__142 r4 r2 r3 r5 v_0.1.2.2.1 (fun y0 => kn (((), (), y0, ()), (())))) (((), (), r4.2, ()), (()))
            else
              bif (r369.2 == 0) then
                (pMay r2.2 r3.2 r369.1 r5.2).bind fun r385 =>
                bif (r385.1 != 1) then
                  some false
                else
                  bif (r385.2 != 0) then
                    some false
                  else
                    it _ (fun (v_0 : (Unit × Unit × Int × Unit) × (Unit)) kn => CrewLeft_L26__143 r4 r369 r2 r3 r5 v_0.1.2.2.1 (fun y0 => kn (((), (), y0, ()), (())))) (((), (), r4.2, ()), (()))
              else
                it _ (fun (v_0 : (Unit × Unit × Int × Unit) × (Unit)) kn => CrewLeft_L26__144 r4 r2 r3 r5 v_0.1.2.2.1 (fun y0 => kn (((), (), y0, ()), (())))) (((), (), r4.2, ()), (()))
  else
    bif (r6.2 == 0) then
      bif (decide (r6.1 < 0)) then
        (pMay r2.2 r3.2 r4.2 0).bind fun r390 =>
        bif (r390.1 == 1) then
          some false
        else
          bif (r390.2 != 0) then
            some false
          else
            bif (r6.2 != 0) then
              bif (r6.2 != 12) then
                some false
              else
                (pNext r2.2 r3.2 r4.2 r5.2).bind fun r391 =>
                bif (r391.2 != 0) then
                  bif (r391.2 != 7) then
                    some false
                  else
                    bif (r391.2 == 0) then
                      bif (decide (r391.1 < r4.2)) then
                        some false
                      else
                        bif (r391.2 == 0) then
                          (pMay r2.2 r3.2 r391.1 r5.2).bind fun r392 =>
                          bif (r392.1 != 1) then
                            some false
                          else
                            bif (r392.2 != 0) then
                              some false
                            else
                              it _ (fun (v_0 : (Unit × Unit × Int × Unit) × (Unit)) kn => CrewLeft_L26__145 r4 r391 r2 r3 r5 v_0.1.2.2.1 (fun y0 => kn (((), (), y0, ()), (())))) (((), (), r4.2, ()), (()))
                        else
                          it _ (fun (v_0 : (Unit × Unit × Int × Unit) × (Unit)) kn => CrewLeft_L26__146 r4 r2 r3 r5 v_0.1.2.2.1 (fun y0 => kn (((), (), y0, ()), (())))) (((), (), r4.2, ()), (()))
                    else
                      bif (r391.2 == 0) then
                        (pMay r2.2 r3.2 r391.1 r5.2).bind fun r397 =>
                        bif (r397.1 != 1) then
                          some false
                        else
                          bif (r397.2 != 0) then
                            some false
                          else
                            it _ (fun (v_0 : (Unit × Unit × Int × Unit) × (Unit)) kn => CrewLeft_L26__147 r4 r391 r2 r3 r5 v_0.1.2.2.1 (fun y0 => kn (((), (), y0, ()), (())))) (((), (), r4.2, ()), (()))
                      else
                        it _ (fun (v_0 : (Unit × Unit × Int × Unit) × (Unit)) kn => CrewLeft_L26__148 r4 r2 r3 r5 v_0.1.2.2.1 (fun y0 => kn (((), (), y0, ()), (())))) (((), (), r4.2, ()), (()))
                else
                  bif (r391.2 == 0) then
                    bif (decide (r391.1 < r4.2)) then
                      some false
                    else
                      bif (r391.2 == 0) then
                        (pMay r2.2 r3.2 r391.1 r5.2).bind fun r402 =>
                        bif (r402.1 != 1) then
                          some false
                        else
                          bif (r402.2 != 0) then
                            some false
                          else
                            it _ (fun (v_0 : (Unit × Unit × Int × Unit) × (Unit)) kn => CrewLeft_L26__149 r4 r391 r2 r3 r5 v_0.1.2.2.1 (fun y0 => kn (((), (), y0, ()), (())))) (((), (), r4.2, ()), (()))
                      else
                        it _ (fun (v_0 : (Unit × Unit × Int × Unit) × (Unit)) kn => CrewLeft_L26__150 r4 r2 r3 r5 v_0.1.2.2.1 (fun y0 => kn (((), (), y0, ()), (())))) (((), (), r4.2, ()), (()))
                  else
                    bif (r391.2 == 0) then
                      (pMay r2.2 r3.2 r391.1 r5.2).bind fun r407 =>
                      bif (r407.1 != 1) then
                        some false
                      else
                        bif (r407.2 != 0) then
                          some false
                        else
                          it _ (fun (v_0 : (Unit × Unit × Int × Unit) × (Unit)) kn => CrewLeft_L26__151 r4 r391 r2 r3 r5 v_0.1.2.2.1 (fun y0 => kn (((), (), y0, ()), (())))) (((), (), r4.2, ()), (()))
                    else
                      it _ (fun (v_0 : (Unit × Unit × Int × Unit) × (Unit)) kn => CrewLeft_L26__152 r4 r2 r3 r5 v_0.1.2.2.1 (fun y0 => kn (((), (), y0, ()), (())))) (((), (), r4.2, ()), (()))
            else
              (pNext r2.2 r3.2 r4.2 r5.2).bind fun r412 =>
              bif (r412.2 != 0) then
                bif (r412.2 != 7) then
                  some false
                else
                  bif (r412.2 == 0) then
                    bif (decide (r412.1 < r4.2)) then
                      some false
                    else
                      bif (r412.2 == 0) then
                        (pMay r2.2 r3.2 r412.1 r5.2).bind fun r413 =>
                        bif (r413.1 != 1) then
                          some false
                        else
                          bif (r413.2 != 0) then
                            some false
                          else
                            it _ (fun (v_0 : (Unit × Unit × Int × Unit) × (Unit)) kn => CrewLeft_L26__153 r4 r412 r2 r3 r5 v_0.1.2.2.1 (fun y0 => kn (((), (), y0, ()), (())))) (((), (), r4.2, ()), (()))
                      else
                        it _ (fun (v_0 : (Unit × Unit × Int × Unit) × (Unit)) kn => CrewLeft_L26__154 r4 r2 r3 r5 v_0.1.2.2.1 (fun y0 => kn (((), (), y0, ()), (())))) (((), (), r4.2, ()), (()))
                  else
                    bif (r412.2 == 0) then
                      (pMay r2.2 r3.2 r412.1 r5.2).bind fun r418 =>
                      bif (r418.1 != 1) then
                        some false
                      else
                        bif (r418.2 != 0) then
                          some false
                        else
                          it _ (fun (v_0 : (Unit × Unit × Int × Unit) × (Unit)) kn => CrewLeft_L26__155 r4 r412 r2 r3 r5 v_0.1.2.2.1 (fun y0 => kn (((), (), y0, ()), (())))) (((), (), r4.2, ()), (()))
                    else
                      it _ (fun (v_0 : (Unit × Unit × Int × Unit) × (Unit)) kn => CrewLeft_L26__156 r4 r2 r3 r5 v_0.1.2.2.1 (fun y0 => kn (((), (), y0, ()), (())))) (((), (), r4.2, ()), (()))
              else
                bif (r412.2 == 0) then
                  bif (decide (r412.1 < r4.2)) then
                    some false
                  else
                    bif (r412.2 == 0) then
                      (pMay r2.2 r3.2 r412.1 r5.2).bind fun r423 =>
                      bif (r423.1 != 1) then
                        some false
                      else
                        bif (r423.2 != 0) then
                          some false
                        else
                          it _ (fun (v_0 : (Unit × Unit × Int × Unit) × (Unit)) kn => CrewLeft_L26__157 r4 r412 r2 r3 r5 v_0.1.2.2.1 (fun y0 => kn (((), (), y0, ()), (())))) (((), (), r4.2, ()), (()))
                    else
                      it _ (fun (v_0 : (Unit × Unit × Int × Unit) × (Unit)) kn => CrewLeft_L26__158 r4 r2 r3 r5 v_0.1.2.2.1 (fun y0 => kn (((), (), y0, ()), (())))) (((), (), r4.2, ()), (()))
                else
                  bif (r412.2 == 0) then
                    (pMay r2.2 r3.2 r412.1 r5.2).bind fun r428 =>
                    bif (r428.1 != 1) then
                      some false
                    else
                      bif (r428.2 != 0) then
                        some false
                      else
                        it _ (fun (v_0 : (Unit × Unit × Int × Unit) × (Unit)) kn => CrewLeft_L26__159 r4 r412 r2 r3 r5 v_0.1.2.2.1 (fun y0 => kn (((), (), y0, ()), (())))) (((), (), r4.2, ()), (()))
                  else
                    it _ (fun (v_0 : (Unit × Unit × Int × Unit) × (Unit)) kn => CrewLeft_L26__160 r4 r2 r3 r5 v_0.1.2.2.1 (fun y0 => kn (((), (), y0, ()), (())))) (((), (), r4.2, ()), (()))
      else
        bif (r6.2 != 0) then
          bif (r6.2 != 12) then
            some false
          else
            (pNext r2.2 r3.2 r4.2 r5.2).bind fun r433 =>
            bif (r433.2 != 0) then
              bif (r433.2 != 7) then
                some false
              else
                bif (r433.2 == 0) then
                  bif (decide (r433.1 < r4.2)) then
                    some false
                  else
                    bif (r433.2 == 0) then
                      (pMay r2.2 r3.2 r433.1 r5.2).bind fun r434 =>
                      bif (r434.1 != 1) then
                        some false
                      else
                        bif (r434.2 != 0) then
                          some false
                        else
                          it _ (fun (v_0 : (Unit × Unit × Int × Unit) × (Unit)) kn => CrewLeft_L26__161 r4 r433 r2 r3 r5 v_0.1.2.2.1 (fun y0 => kn (((), (), y0, ()), (())))) (((), (), r4.2, ()), (()))
                    else
                      it _ (fun (v_0 : (Unit × Unit × Int × Unit) × (Unit)) kn => CrewLeft_L26__162 r4 r2 r3 r5 v_0.1.2.2.1 (fun y0 => kn (((), (), y0, ()), (())))) (((), (), r4.2, ()), (()))
                else
                  bif (r433.2 == 0) then
                    (pMay r2.2 r3.2 r433.1 r5.2).bind fun r439 =>
                    bif (r439.1 != 1) then
                      some false
                    else
                      bif (r439.2 != 0) then
                        some false
                      else
                        it _ (fun (v_0 : (Unit × Unit × Int × Unit) × (Unit)) kn => CrewLeft_L26__163 r4 r433 r2 r3 r5 v_0.1.2.2.1 (fun y0 => kn (((), (), y0, ()), (())))) (((), (), r4.2, ()), (()))
                  else
                    it _ (fun (v_0 : (Unit × Unit × Int × Unit) × (Unit)) kn => CrewLeft_L26__164 r4 r2 r3 r5 v_0.1.2.2.1 (fun y0 => kn (((), (), y0, ()), (())))) (((), (), r4.2, ()), (()))
            else
              bif (r433.2 == 0) then
                bif (decide (r433.1 < r4.2)) then
                  some false
                else
                  bif (r433.2 == 0) then
                    (pMay r2.2 r3.2 r433.1 r5.2).bind fun r444 =>
                    bif (r444.1 != 1) then
                      some false
                    else
                      bif (r444.2 != 0) then
                        some false
                      else
                        it _ (fun (v_0 : (Unit × Unit × Int × Unit) × (Unit)) kn => CrewLeft_L26__165 r4 r433 r2 r3 r5 v_0.1.2.2.1 (fun y0 => kn (((), (), y0, ()), (())))) (((), (), r4.2, ()), (()))
                  else
                    it _ (fun (v_0 : (Unit × Unit × Int × Unit) × (Unit)) kn => CrewLeft_L26__166 r4 r2 r3 r5 v_0.1.2.2.1 (fun y0 => kn (((), (), y0, ()), (())))) (((), (), r4.2, ()), (()))
              else
                bif (r433.2 == 0) then
                  (pMay r2.2 r3.2 r433.1 r5.2).bind fun r449 =>
                  bif (r449.1 != 1) then
                    some false
                  else
                    bif (r449.2 != 0) then
                      some false
                    else
                      it _ (fun (v_0 : (Unit × Unit × Int × Unit) × (Unit)) kn => CrewLeft_L26__167 r4 r433 r2 r3 r5 v_0.1.2.2.1 (fun y0 => kn (((), (), y0, ()), (())))) (((), (), r4.2, ()), (()))
                else
                  it _ (fun (v_0 : (Unit × Unit × Int × Unit) × (Unit)) kn => CrewLeft_L26__168 r4 r2 r3 r5 v_0.1.2.2.1 (fun y0 => kn (((), (), y0, ()), (())))) (((), (), r4.2, ()), (()))
        else
          (pNext r2.2 r3.2 r4.2 r5.2).bind fun r454 =>
          bif (r454.2 != 0) then
            bif (r454.2 != 7) then
              some false
            else
              bif (r454.2 == 0) then
                bif (decide (r454.1 < r4.2)) then
                  some false
                else
                  bif (r454.2 == 0) then
                    (pMay r2.2 r3.2 r454.1 r5.2).bind fun r455 =>
                    bif (r455.1 != 1) then
                      some false
                    else
                      bif (r455.2 != 0) then
                        some false
                      else
                        it _ (fun (v_0 : (Unit × Unit × Int × Unit) × (Unit)) kn => CrewLeft_L26__169 r4 r454 r2 r3 r5 v_0.1.2.2.1 (fun y0 => kn (((), (), y0, ()), (())))) (((), (), r4.2, ()), (()))
                  else
                    it _ (fun (v_0 : (Unit × Unit × Int × Unit) × (Unit)) kn => CrewLeft_L26__170 r4 r2 r3 r5 v_0.1.2.2.1 (fun y0 => kn (((), (), y0, ()), (())))) (((), (), r4.2, ()), (()))
              else
                bif (r454.2 == 0) then
                  (pMay r2.2 r3.2 r454.1 r5.2).bind fun r460 =>
                  bif (r460.1 != 1) then
                    some false
                  else
                    bif (r460.2 != 0) then
                      some false
                    else
                      it _ (fun (v_0 : (Unit × Unit × Int × Unit) × (Unit)) kn => CrewLeft_L26__171 r4 r454 r2 r3 r5 v_0.1.2.2.1 (fun y0 => kn (((), (), y0, ()), (())))) (((), (), r4.2, ()), (()))
                else
                  it _ (fun (v_0 : (Unit × Unit × Int × Unit) × (Unit)) kn => CrewLeft_L26__172 r4 r2 r3 r5 v_0.1.2.2.1 (fun y0 => kn (((), (), y0, ()), (())))) (((), (), r4.2, ()), (()))
          else
            bif (r454.2 == 0) then
              bif (decide (r454.1 < r4.2)) then
                some false
              else
                bif (r454.2 == 0) then
                  (pMay r2.2 r3.2 r454.1 r5.2).bind fun r465 =>
                  bif (r465.1 != 1) then
                    some false
                  else
                    bif (r465.2 != 0) then
                      some false
                    else
                      it _ (fun (v_0 : (Unit × Unit × Int × Unit) × (Unit)) kn => CrewLeft_L26__173 r4 r454 r2 r3 r5 v_0.1.2.2.1 (fun y0 => kn (((), (), y0, ()), (())))) (((), (), r4.2, ()), (()))
                else
                  it _ (fun (v_0 : (Unit × Unit × Int × Unit) × (Unit)) kn => CrewLeft_L26__174 r4 r2 r3 r5 v_0.1.2.2.1 (fun y0 => kn (((), (), y0, ()), (())))) (((), (), r4.2, ()), (()))
            else
              bif (r454.2 == 0) then
                (pMay r2.2 r3.2 r454.1 r5.2).bind fun r470 =>
                bif (r470.1 != 1) then
                  some false
                else
                  bif (r470.2 != 0) then
                    some false
                  else
                    it _ (fun (v_0 : (Unit × Unit × Int × Unit) × (Unit)) kn => CrewLeft_L26__175 r4 r454 r2 r3 r5 v_0.1.2.2.1 (fun y0 => kn (((), (), y0, ()), (())))) (((), (), r4.2, ()), (()))
              else
                it _ (fun (v_0 : (Unit × Unit × Int × Unit) × (Unit)) kn => CrewLeft_L26__176 r4 r2 r3 r5 v_0.1.2.2.1 (fun y0 => kn (((), (), y0, ()), (())))) (((), (), r4.2, ()), (()))
    else
      bif (r6.2 != 0) then
        bif (r6.2 != 12) then
          some false
        else
          (pNext r2.2 r3.2 r4.2 r5.2).bind fun r475 =>
          bif (r475.2 != 0) then
            bif (r475.2 != 7) then
              some false
            else
              bif (r475.2 == 0) then
                bif (decide (r475.1 < r4.2)) then
                  some false
                else
                  bif (r475.2 == 0) then
                    (pMay r2.2 r3.2 r475.1 r5.2).bind fun r476 =>
                    bif (r476.1 != 1) then
                      some false
                    else
                      bif (r476.2 != 0) then
                        some false
                      else
                        it _ (fun (v_0 : (Unit × Unit × Int × Unit) × (Unit)) kn => CrewLeft_L26__177 r4 r475 r2 r3 r5 v_0.1.2.2.1 (fun y0 => kn (((), (), y0, ()), (())))) (((), (), r4.2, ()), (()))
                  else
                    it _ (fun (v_0 : (Unit × Unit × Int × Unit) × (Unit)) kn => CrewLeft_L26__178 r4 r2 r3 r5 v_0.1.2.2.1 (fun y0 => kn (((), (), y0, ()), (())))) (((), (), r4.2, ()), (()))
              else
                bif (r475.2 == 0) then
                  (pMay r2.2 r3.2 r475.1 r5.2).bind fun r481 =>
                  bif (r481.1 != 1) then
                    some false
                  else
                    bif (r481.2 != 0) then
                      some false
                    else
                      it _ (fun (v_0 : (Unit × Unit × Int × Unit) × (Unit)) kn => CrewLeft_L26__179 r4 r475 r2 r3 r5 v_0.1.2.2.1 (fun y0 => kn (((), (), y0, ()), (())))) (((), (), r4.2, ()), (()))
                else
                  it _ (fun (v_0 : (Unit × Unit × Int × Unit) × (Unit)) kn => CrewLeft_L26__180 r4 r2 r3 r5 v_0.1.2.2.1 (fun y0 => kn (((), (), y0, ()), (())))) (((), (), r4.2, ()), (()))
          else
            bif (r475.2 == 0) then
              bif (decide (r475.1 < r4.2)) then
                some false
              else
                bif (r475.2 == 0) then
                  (pMay r2.2 r3.2 r475.1 r5.2).bind fun r486 =>
                  bif (r486.1 != 1) then
                    some false
                  else
                    bif (r486.2 != 0) then
                      some false
                    else
                      it _ (fun (v_0 : (Unit × Unit × Int × Unit) × (Unit)) kn => CrewLeft_L26__181 r4 r475 r2 r3 r5 v_0.1.2.2.1 (fun y0 => kn (((), (), y0, ()), (())))) (((), (), r4.2, ()), (()))
                else
                  it _ (fun (v_0 : (Unit × Unit × Int × Unit) × (Unit)) kn => CrewLeft_L26__182 r4 r2 r3 r5 v_0.1.2.2.1 (fun y0 => kn (((), (), y0, ()), (())))) (((), (), r4.2, ()), (()))
            else
              bif (r475.2 == 0) then
                (pMay r2.2 r3.2 r475.1 r5.2).bind fun r491 =>
                bif (r491.1 != 1) then
                  some false
                else
                  bif (r491.2 != 0) then
                    some false
                  else
                    it _ (fun (v_0 : (Unit × Unit × Int × Unit) × (Unit)) kn => CrewLeft_L26__183 r4 r475 r2 r3 r5 v_0.1.2.2.1 (fun y0 => kn (((), (), y0, ()), (())))) (((), (), r4.2, ()), (()))
              else
                it _ (fun (v_0 : (Unit × Unit × Int × Unit) × (Unit)) kn => CrewLeft_L26__184 r4 r2 r3 r5 v_0.1.2.2.1 (fun y0 => kn (((), (), y0, ()), (())))) (((), (), r4.2, ()), (()))
      else
        (pNext r2.2 r3.2 r4.2 r5.2).bind fun r496 =>
        bif (r496.2 != 0) then
          bif (r496.2 != 7) then
            some false
          else
            bif (r496.2 == 0) then
              bif (decide (r496.1 < r4.2)) then
                some false
              else
                bif (r496.2 == 0) then
                  (pMay r2.2 r3.2 r496.1 r5.2).bind fun r497 =>
                  bif (r497.1 != 1) then
                    some false
                  else
                    bif (r497.2 != 0) then
                      some false
                    else
                      it _ (fun (v_0 : (Unit × Unit × Int × Unit) × (Unit)) kn => CrewLeft_L26__185 r4 r496 r2 r3 r5 v_0.1.2.2.1 (fun y0 => kn (((), (), y0, ()), (())))) (((), (), r4.2, ()), (()))
                else
                  it _ (fun (v_0 : (Unit × Unit × Int × Unit) × (Unit)) kn => CrewLeft_L26__186 r4 r2 r3 r5 v_0.1.2.2.1 (fun y0 => kn (((), (), y0, ()), (())))) (((), (), r4.2, ()), (()))
            else
              bif (r496.2 == 0) then
                (pMay r2.2 r3.2 r496.1 r5.2).bind fun r502 =>
                bif (r502.1 != 1) then
                  some false
                else
                  bif (r502.2 != 0) then
                    some false
                  else
                    it _ (fun (v_0 : (Unit × Unit × Int × Unit) × (Unit)) kn => CrewLeft_L26__187 r4 r496 r2 r3 r5 v_0.1.2.2.1 (fun y0 => kn (((), (), y0, ()), (())))) (((), (), r4.2, ()), (()))
              else
                it _ (fun (v_0 : (Unit × Unit × Int × Unit) × (Unit)) kn => CrewLeft_L26__188 r4 r2 r3 r5 v_0.1.2.2.1 (fun y0 => kn (((), (), y0, ()), (())))) (((), (), r4.2, ()), (()))
        else
          bif (r496.2 == 0) then
            bif (decide (r496.1 < r4.2)) then
              some false
            else
              bif (r496.2 == 0) then
                (pMay r2.2 r3.2 r496.1 r5.2).bind fun r507 =>
                bif (r507.1 != 1) then
                  some false
                else
                  bif (r507.2 != 0) then
                    some false
                  else
                    it _ (fun (v_0 : (Unit × Unit × Int × Unit) × (Unit)) kn => CrewLeft_L26__189 r4 r496 r2 r3 r5 v_0.1.2.2.1 (fun y0 => kn (((), (), y0, ()), (())))) (((), (), r4.2, ()), (()))
              else
                it _ (fun (v_0 : (Unit × Unit × Int × Unit) × (Unit)) kn => CrewLeft_L26__190 r4 r2 r3 r5 v_0.1.2.2.1 (fun y0 => kn (((), (), y0, ()), (())))) (((), (), r4.2, ()), (()))
          else
            bif (r496.2 == 0) then
              (pMay r2.2 r3.2 r496.1 r5.2).bind fun r512 =>
              bif (r512.1 != 1) then
                some false
              else
                bif (r512.2 != 0) then
                  some false
                else
                  it _ (fun (v_0 : (Unit × Unit × Int × Unit) × (Unit)) kn => CrewLeft_L26__191 r4 r496 r2 r3 r5 v_0.1.2.2.1 (fun y0 => kn (((), (), y0, ()), (())))) (((), (), r4.2, ()), (()))
            else
              it _ (fun (v_0 : (Unit × Unit × Int × Unit) × (Unit)) kn => CrewLeft_L26__192 r4 r2 r3 r5 v_0.1.2.2.1 (fun y0 => kn (((), (), y0, ()), (())))) (((), (), r4.2, ()), (()))
def E9 : FEnv iseat := ⟨⟨174, [sp33, sp31, sp35, sp15], [sp17, sp18, sp20, sp30], [sp16], [], [], [], [], [], true⟩, [(26, ⟨⟨[(4, .bx 4 0), (5, .bx 5 0), (21, .v (.int .i64))], []⟩, [7, 18], [4, 5]⟩)]⟩
theorem e9 (it : It Bool) (nums : List Int) : fnRun (ts := [.bool]) it E9 (bodyOf Tryd.f9) Tryd.f9.results.toList (encA [.sl (.int .i64)] (nums, ())) = CrewLeft' it nums := by kernel_rfl
end
end Go.Proofs.Crew


/- The crew, part 6: scales. Written out by gen2.py (ours). -/
namespace Go.Proofs.Crew
open Go Go.Ab
open Go.Proofs.YthmgcjmoiilggaaDoor (iseat)
set_option linter.all false
set_option maxRecDepth 100000
noncomputable section
def CrewScales_L16 (x : Scale) (r4 : (Seed × Int)) (r6 : (Seed × Int)) (reading : Int) (r15 : (Seed × Int)) (readings : List Int) (some_ : List Int) (a : Allow) (most_ : Int) (r13 : (Seed × Int)) (sum : Int) (r14 : (Seed × Int)) (i2 : Int) (kn_2 : Int → Option Bool) : Option Bool :=
  bif (decide (i2 < (([x, (⟨r4.2, r6.2⟩ : Scale), (⟨r4.2, r6.2⟩ : Scale)] : List Scale).length : Int))) then
    chk (decide (0 ≤ i2) && decide (i2 < (([x, (⟨r4.2, r6.2⟩ : Scale), (⟨r4.2, r6.2⟩ : Scale)] : List Scale).length : Int))) <|
    chk (decide (i2.toNat < ([x, (⟨r4.2, r6.2⟩ : Scale), (⟨r4.2, r6.2⟩ : Scale)] : List Scale).length)) <|
    chk (decide (0 ≤ i2) && decide (i2 < ([reading, r15.2, reading].length : Int))) <|
    chk (decide (i2.toNat < [reading, r15.2, reading].length)) <|
    (pWeigh (([x, (⟨r4.2, r6.2⟩ : Scale), (⟨r4.2, r6.2⟩ : Scale)] : List Scale).getD i2.toNat dfltScale) ([reading, r15.2, reading].getD i2.toNat 0)).bind fun r16 =>
    chk (decide (0 ≤ i2) && decide (i2 < (([x, (⟨r4.2, r6.2⟩ : Scale), (⟨r4.2, r6.2⟩ : Scale)] : List Scale).length : Int))) <|
    chk (decide (i2.toNat < ([x, (⟨r4.2, r6.2⟩ : Scale), (⟨r4.2, r6.2⟩ : Scale)] : List Scale).length)) <|
    chk (decide (0 ≤ i2) && decide (i2 < ([reading, r15.2, reading].length : Int))) <|
    chk (decide (i2.toNat < [reading, r15.2, reading].length)) <|
    (rWeigh (([x, (⟨r4.2, r6.2⟩ : Scale), (⟨r4.2, r6.2⟩ : Scale)] : List Scale).getD i2.toNat dfltScale) ([reading, r15.2, reading].getD i2.toNat 0)).bind fun r17 =>
    chk (decide (0 ≤ i2) && decide (i2 < (([x, (⟨r4.2, r6.2⟩ : Scale), (⟨r4.2, r6.2⟩ : Scale)] : List Scale).length : Int))) <|
    chk (decide (i2.toNat < ([x, (⟨r4.2, r6.2⟩ : Scale), (⟨r4.2, r6.2⟩ : Scale)] : List Scale).length)) <|
    chk (decide (0 ≤ i2) && decide (i2 < ([readings, some_, some_].length : Int))) <|
    chk (decide (i2.toNat < [readings, some_, some_].length)) <|
    chk (decide (0 ≤ i2) && decide (i2 < (([a, (⟨(max 0 (w64 (most_ + r13.2))), (min 1000000 (max 0 (w64 (sum + r14.2))))⟩ : Allow), a] : List Allow).length : Int))) <|
    chk (decide (i2.toNat < ([a, (⟨(max 0 (w64 (most_ + r13.2))), (min 1000000 (max 0 (w64 (sum + r14.2))))⟩ : Allow), a] : List Allow).length)) <|
    (pPass (([x, (⟨r4.2, r6.2⟩ : Scale), (⟨r4.2, r6.2⟩ : Scale)] : List Scale).getD i2.toNat dfltScale) ([readings, some_, some_].getD i2.toNat []) (([a, (⟨(max 0 (w64 (most_ + r13.2))), (min 1000000 (max 0 (w64 (sum + r14.2))))⟩ : Allow), a] : List Allow).getD i2.toNat dfltAllow)).bind fun r18 =>
    chk (decide (0 ≤ i2) && decide (i2 < (([x, (⟨r4.2, r6.2⟩ : Scale), (⟨r4.2, r6.2⟩ : Scale)] : List Scale).length : Int))) <|
    chk (decide (i2.toNat < ([x, (⟨r4.2, r6.2⟩ : Scale), (⟨r4.2, r6.2⟩ : Scale)] : List Scale).length)) <|
    chk (decide (0 ≤ i2) && decide (i2 < ([readings, some_, some_].length : Int))) <|
    chk (decide (i2.toNat < [readings, some_, some_].length)) <|
    chk (decide (0 ≤ i2) && decide (i2 < (([a, (⟨(max 0 (w64 (most_ + r13.2))), (min 1000000 (max 0 (w64 (sum + r14.2))))⟩ : Allow), a] : List Allow).length : Int))) <|
    chk (decide (i2.toNat < ([a, (⟨(max 0 (w64 (most_ + r13.2))), (min 1000000 (max 0 (w64 (sum + r14.2))))⟩ : Allow), a] : List Allow).length)) <|
    (rPass (([x, (⟨r4.2, r6.2⟩ : Scale), (⟨r4.2, r6.2⟩ : Scale)] : List Scale).getD i2.toNat dfltScale) ([readings, some_, some_].getD i2.toNat []) (([a, (⟨(max 0 (w64 (most_ + r13.2))), (min 1000000 (max 0 (w64 (sum + r14.2))))⟩ : Allow), a] : List Allow).getD i2.toNat dfltAllow)).bind fun r19 =>
    bif (!(decide (r16.1.Lo = r17.1.Lo) && (decide (r16.1.Hi = r17.1.Hi) && true))) then
      some false
    else
      bif (r16.2 != r17.2) then
        some false
      else
        bif (r18.1 != r19.1) then
          some false
        else
          bif (!(decide (r18.2.1.Lo = r19.2.1.Lo) && (decide (r18.2.1.Hi = r19.2.1.Hi) && true))) then
            some false
          else
            bif (r18.2.2 != r19.2.2) then
              some false
            else
              kn_2 (w64 (i2 + 1))
  else
    (awake).bind fun r20 =>
    some r20
def CrewScales_L8 (it : It Bool) (r4 : (Seed × Int)) (r6 : (Seed × Int)) (x : Scale) (reading : Int) (readings : List Int) (a : Allow) (some_ : List Int) (most_ : Int) (sum : Int) (i : Int) (x41_word : Int) (kn_ : (List Int) → Int → Int → Int → Int → Option Bool) : Option Bool :=
  bif (decide (i > 0)) then
    (Below (⟨x41_word⟩ : Seed) 12000).bind fun r8 =>
    (Of r8.1 [0, r8.2, 100000]).bind fun r9 =>
    (rWeigh (⟨r4.2, r6.2⟩ : Scale) r9.2).bind fun r10 =>
    chk (fitA (some_.length + [r9.2].length) 8) <|
    (Inside r9.1 r10.1).bind fun r11 =>
    (Inside r11.1 r10.1).bind fun r12 =>
    kn_ (some_ ++ [r9.2]) (max most_ r11.2) (w64 (sum + r12.2)) (w64 (i - 1)) r12.1.word
  else
    (From (⟨x41_word⟩ : Seed) (-1) 1).bind fun r13 =>
    (From r13.1 (-1) 1).bind fun r14 =>
    (Below r14.1 3000).bind fun r15 =>
    it _ (fun (v_0 : (Unit × Unit × Unit × Unit × Int × Unit) × (Unit)) kn => CrewScales_L16 x r4 r6 reading r15 readings some_ a most_ r13 sum r14 v_0.1.2.2.2.2.1 (fun y0 => kn (((), (), (), (), y0, ()), (())))) (((), (), (), (), 0, ()), (()))
def CrewScales' (it : It Bool) (x : Scale) (reading : Int) (readings : List Int) (a : Allow) (nums : List Int) : Option Bool :=
  bif (decide ((readings.length : Int) > 30)) then
    (awake).bind fun r =>
    some r
  else
    (NewSeed nums).bind fun r2 =>
    (Below r2 30).bind fun r3 =>
    (Of r3.1 [0, r3.2, 1000]).bind fun r4 =>
    (Below r4.1 20000).bind fun r5 =>
    (Of r5.1 [0, r5.2, 100000]).bind fun r6 =>
    (Below r6.1 6).bind fun r7 =>
    it _ (fun (v_0 : (Unit × Unit × Unit × Unit × (List Int) × Int × Int × Int × Unit) × ((Int × Unit) × Unit)) kn => CrewScales_L8 it r4 r6 x reading readings a v_0.1.2.2.2.2.1 v_0.1.2.2.2.2.2.1 v_0.1.2.2.2.2.2.2.1 v_0.1.2.2.2.2.2.2.2.1 v_0.2.1.1 (fun y0 y1 y2 y3 y4 => kn (((), (), (), (), y0, y1, y2, y3, ()), ((y4, ()), ())))) (((), (), (), (), ([] : List Int), 0, 0, r7.2, ()), ((r7.1.word, ()), ()))
def E10 : FEnv iseat := ⟨⟨201, [sp15, sp38, sp40, sp41, sp42], [sp20, sp37, sp39, sp30], [sp16], [], [], [], [45, 50, 62, 72], [], true⟩, [(8, ⟨⟨[(5, .bx 5 0), (8, .bx 8 0), (11, .bx 41 0), (12, .bx 12 0), (13, .os 13 3 (.int .i64)), (14, .v (.int .i64)), (15, .v (.int .i64)), (16, .v (.int .i64))], [(41, [.v (.int .u64)])]⟩, [1, 2], [5, 8, 12]⟩), (16, ⟨⟨[(21, .osr 99), (22, .osr 104), (23, .osr 108), (24, .osr 112), (25, .v (.int .i64))], []⟩, [], [99, 104, 108, 112]⟩), (1000014, ⟨⟨[], []⟩, [], [13]⟩)]⟩
theorem e10 (it : It Bool) (x : Scale) (reading : Int) (readings : List Int) (a : Allow) (nums : List Int) : fnRun (ts := [.bool]) it E10 (bodyOf Tryd.f10) Tryd.f10.results.toList (encA [.Scale, .int .i64, .sl (.int .i64), .Allow, .sl (.int .i64)] (x, reading, readings, a, nums, ())) = CrewScales' it x reading readings a nums := by kernel_rfl
end
end Go.Proofs.Crew


/- Plain reasoning about what functions compute: Ok P x: x is there, and P holds of it. -/
namespace Go.Ab
open Go Go.RowKit
set_option linter.all false
def Ok {α : Type} (P : α → Prop) (x : Option α) : Prop := ∃ a, x = some a ∧ P a
section
variable {α β : Type} {P : α → Prop} {Q : β → Prop}
theorem Ok.some {a : α} (h : P a) : Ok P (some a) := ⟨a, rfl, h⟩
theorem Ok.bind {x : Option α} {f : α → Option β} (hx : Ok P x) (hf : ∀ a, P a → Ok Q (f a)) : Ok Q (x.bind f) := by
  obtain ⟨a, rfl, ha⟩ := hx
  exact hf a ha
theorem Ok.mono {P' : α → Prop} {x : Option α} (hx : Ok P x) (h : ∀ a, P a → P' a) : Ok P' x := by
  obtain ⟨a, rfl, ha⟩ := hx
  exact ⟨a, rfl, h a ha⟩
theorem Ok.chk {b : Bool} {x : Option α} (hb : b = true) (hx : Ok P x) : Ok P (chk b x) := by subst hb; exact hx
theorem Ok.ite {c : Bool} {x y : Option α} (hx : c = true → Ok P x) (hy : c = false → Ok P y) : Ok P (bif c then x else y) := by
  cases c with
  | true => exact hx rfl
  | false => exact hy rfl
/-- Rounds: what holds at each head, and what falls. -/
theorem Ok.rounds {γ : Type} {F : γ → (γ → Option α) → Option α} {v0 : γ} (inv : γ → Prop) (μ : γ → Nat) (hμ : μ v0 < FUEL) (h0 : inv v0)
    (step : ∀ v kn, inv v → (∀ v', inv v' → μ v' < μ v → Ok P (kn v')) → Ok P (F v kn)) : Ok P (itN γ F v0) := by
  have key : ∀ n v, inv v → μ v < n → Ok P (iter F n v) := by
    intro n
    induction n with
    | zero => intro v _ h; omega
    | succ n ih =>
      intro v hv hn
      exact step v (iter F n) hv fun v' hv' hlt => ih v' hv' (by omega)
  exact key FUEL v0 h0 hμ
end
theorem w64_id {n : Int} (h1 : -9223372036854775808 ≤ n) (h2 : n ≤ 9223372036854775807) : w64 n = n := by
  unfold w64 IntKind.wrap
  simp [IntKind.bits, IntKind.signed, Int.bmod_def]
  omega
end Go.Ab

