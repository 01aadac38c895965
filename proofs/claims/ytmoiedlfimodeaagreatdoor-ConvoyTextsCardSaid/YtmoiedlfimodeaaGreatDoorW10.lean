/- Walks by computing: what each function of the program that the laws reach gives for what it gets, as plain Lean, and that it is so; without a condition but those that stand in each theorem. -/
import Derived.Test.YtmoiedlfimodeaaGreatDoorW1
import Derived.Test.YtmoiedlfimodeaaGreatDoorW2
import Derived.Test.YtmoiedlfimodeaaGreatDoorW3
import Derived.Test.YtmoiedlfimodeaaGreatDoorW4
import Derived.Test.YtmoiedlfimodeaaGreatDoorW5
import Derived.Test.YtmoiedlfimodeaaGreatDoorW6
import Derived.Test.YtmoiedlfimodeaaGreatDoorW7
import Derived.Test.YtmoiedlfimodeaaGreatDoorW8
import Derived.Test.YtmoiedlfimodeaaGreatDoorW9
set_option linter.all false
namespace Go.Proofs.Tt05
open Go Go.Ab
open Go.Proofs.YtmoiedlfimodeaaGreatDoor (iseat)
set_option linter.all false
set_option maxRecDepth 100000
noncomputable section
def in_' (it : It Bool) (n : Int) (low : Int) (high : Int) : Option Bool :=
 bif (decide (low ≤ n)) then
 some (decide (n ≤ high))
 else
 some false
def in_ : Int → Int → Int → Option Bool := opq (fun n low high => in_' itN n low high)
theorem in__eq (n : Int) (low : Int) (high : Int) : in_ n low high = in_' itN n low high := by unfold in_; rw [opq_eq]
def E45 : FEnv iseat := ⟨⟨15, [], [], [], [], [], [], [], [], [], [], [], [], true⟩, []⟩
theorem e45 (it : It Bool) (n : Int) (low : Int) (high : Int) : fnRun (ts := [.bool]) it E45 (bodyOf Tryz.f45) Tryz.f45.results.toList (encA [.int .i64, .int .i64, .int .i64] (n, low, high, ())) = in_' it n low high := by kernel_rfl
def sp45 : FnSpec iseat.toSeat := mkSpec iseat.toSeat 45 [.int .i64, .int .i64, .int .i64] [.bool] true (fun a => in_ a.1 a.2.1 a.2.2.1) (fun a x hx h h' => fn_contract (E := E45) Tryz.func45 (by kernel_rfl) (by kernel_rfl) (by kernel_rfl) (by kernel_rfl) rfl ((e45 itN a.1 a.2.1 a.2.2.1).trans ((in__eq a.1 a.2.1 a.2.2.1).symm.trans hx)) h h') (fun _ x => rfl)
def along' (it : It Int) (r : Ride) (metre : Int) : Option Int :=
 bif (r.Truck.Way == 2) then
 some (w64 (r.length - metre))
 else
 some metre
def along : Ride → Int → Option Int := opq (fun r metre => along' itN r metre)
theorem along_eq (r : Ride) (metre : Int) : along r metre = along' itN r metre := by unfold along; rw [opq_eq]
def E65 : FEnv iseat := ⟨⟨14, [], [], [], [], [], [], [], [], [], [], [], [], true⟩, []⟩
theorem e65 (it : It Int) (r : Ride) (metre : Int) : fnRun (ts := [.int .i64]) it E65 (bodyOf Tryz.f65) Tryz.f65.results.toList (encA [.Ride, .int .i64] (r, metre, ())) = along' it r metre := by kernel_rfl
def sp65 : FnSpec iseat.toSeat := mkSpec iseat.toSeat 65 [.Ride, .int .i64] [.int .i64] true (fun a => along a.1 a.2.1) (fun a x hx h h' => fn_contract (E := E65) Tryz.func65 (by kernel_rfl) (by kernel_rfl) (by kernel_rfl) (by kernel_rfl) rfl ((e65 itN a.1 a.2.1).trans ((along_eq a.1 a.2.1).symm.trans hx)) h h') (fun _ x => rfl)
def checkTruck_L15 (t : Truck) (c : Convoy) (x68 : Int) (kn_ : Int → Option Int) : Option Int :=
 bif (decide (x68 < (t.Holds.length : Int))) then
 chk (decide (0 ≤ x68) && decide (x68 < (t.Holds.length : Int))) <|
 (in_ ((t.Holds.getD x68.toNat dfltHold).At) 1 (w64 (c.Length - 1))).bind fun r5 =>
 bif (!r5) then
 some 2
 else
 (in_ ((t.Holds.getD x68.toNat dfltHold).Until) 0 10000).bind fun r6 =>
 bif (!r6) then
 some 2
 else
 bif (decide (x68 > 0)) then
 (along (⟨t, c.Length⟩ : Ride) ((t.Holds.getD x68.toNat dfltHold).At)).bind fun r7 =>
 chk (decide (0 ≤ (w64 (x68 - 1))) && decide ((w64 (x68 - 1)) < (t.Holds.length : Int))) <|
 (along (⟨t, c.Length⟩ : Ride) ((t.Holds.getD (w64 (x68 - 1)).toNat dfltHold).At)).bind fun r8 =>
 bif (decide (r7 ≤ r8)) then
 some 11
 else
 kn_ (w64 (x68 + 1))
 else
 kn_ (w64 (x68 + 1))
 else
 some 0
def checkTruck' (it : It Int) (c : Convoy) (t : Truck) : Option Int :=
 (in_ t.Way 1 2).bind fun r =>
 bif (!r) then
 some 4
 else
 (in_ t.Start 0 10000).bind fun r2 =>
 bif (!r2) then
 some 2
 else
 (in_ t.Pace.Lo 1 1000).bind fun r3 =>
 bif (!r3) then
 some 2
 else
 (in_ t.Pace.Hi 1 1000).bind fun r4 =>
 bif (!r4) then
 some 2
 else
 bif (decide (t.Pace.Lo > t.Pace.Hi)) then
 some 11
 else
 bif (decide (c.Length > (w64 (1000 * t.Pace.Lo)))) then
 some 13
 else
 bif (decide (c.Gap < (w64 (2 * t.Pace.Hi)))) then
 some 12
 else
 bif (decide ((t.Holds.length : Int) > 8)) then
 some 8
 else
 it _ (fun (v_0 : (Unit × Unit × Unit × Int × Unit) × (Unit)) kn => checkTruck_L15 t c v_0.1.2.2.2.1 (fun y0 => kn (((), (), (), y0, ()), (())))) (((), (), (), 0, ()), (()))
def checkTruck : Convoy → Truck → Option Int := opq (fun c t => checkTruck' itN c t)
theorem checkTruck_eq (c : Convoy) (t : Truck) : checkTruck c t = checkTruck' itN c t := by unfold checkTruck; rw [opq_eq]
def E46 : FEnv iseat := ⟨⟨107, [sp45, sp65], [], [], [], [], [], [], [], [], [], [], [], true⟩, [(15, ⟨⟨[(2, .bx 2 0), (3, .bx 3 0), (5, .bx 5 0), (68, .v (.int .i64))], []⟩, [66, 67], [2, 3, 5], []⟩)]⟩
theorem e46 (it : It Int) (c : Convoy) (t : Truck) : fnRun (ts := [.int .i64]) it E46 (bodyOf Tryz.f46) Tryz.f46.results.toList (encA [.Convoy, .Truck] (c, t, ())) = checkTruck' it c t := by kernel_rfl
def sp46 : FnSpec iseat.toSeat := mkSpec iseat.toSeat 46 [.Convoy, .Truck] [.int .i64] true (fun a => checkTruck a.1 a.2.1) (fun a x hx h h' => fn_contract (E := E46) Tryz.func46 (by kernel_rfl) (by kernel_rfl) (by kernel_rfl) (by kernel_rfl) rfl ((e46 itN a.1 a.2.1).trans ((checkTruck_eq a.1 a.2.1).symm.trans hx)) h h') (fun _ x => rfl)
def pCheck_L6 (c : Convoy) (x31 : Int) (kn_ : Int → Option Int) : Option Int :=
 bif (decide (x31 < (c.Trucks.length : Int))) then
 chk (decide (0 ≤ x31) && decide (x31 < (c.Trucks.length : Int))) <|
 (checkTruck c (c.Trucks.getD x31.toNat dfltTruck)).bind fun r4 =>
 bif (r4 != 0) then
 some r4
 else
 kn_ (w64 (x31 + 1))
 else
 some 0
def pCheck' (it : It Int) (c : Convoy) : Option Int :=
 (in_ c.Length 1 100000).bind fun r =>
 bif (!r) then
 some 2
 else
 (in_ c.Gap 1 100000).bind fun r2 =>
 bif (!r2) then
 some 2
 else
 (in_ c.Fails 0 20).bind fun r3 =>
 bif (!r3) then
 some 2
 else
 bif (decide ((c.Trucks.length : Int) > 20)) then
 some 8
 else
 it _ (fun (v_0 : (Unit × Int × Unit) × (Unit)) kn => pCheck_L6 c v_0.1.2.1 (fun y0 => kn (((), y0, ()), (())))) (((), 0, ()), (()))
def pCheck : Convoy → Option Int := opq (fun c => pCheck' itN c)
theorem pCheck_eq (c : Convoy) : pCheck c = pCheck' itN c := by unfold pCheck; rw [opq_eq]
def E25 : FEnv iseat := ⟨⟨42, [sp45, sp46], [], [], [], [], [], [], [], [], [], [], [], true⟩, [(6, ⟨⟨[(1, .bx 1 0), (31, .v (.int .i64))], []⟩, [29, 30], [1], []⟩)]⟩
theorem e25 (it : It Int) (c : Convoy) : fnRun (ts := [.int .i64]) it E25 (bodyOf Tryz.f25) Tryz.f25.results.toList (encA [.Convoy] (c, ())) = pCheck' it c := by kernel_rfl
def sp25 : FnSpec iseat.toSeat := mkSpec iseat.toSeat 25 [.Convoy] [.int .i64] true (fun a => pCheck a.1) (fun a x hx h h' => fn_contract (E := E25) Tryz.func25 (by kernel_rfl) (by kernel_rfl) (by kernel_rfl) (by kernel_rfl) rfl ((e25 itN a.1).trans ((pCheck_eq a.1).symm.trans hx)) h h') (fun _ x => rfl)
def wStr' (it : It (((List Int) × Unit) × (Int × Bool))) (x1 : List Int) (s : ByteArray) : Option (((List Int) × Unit) × (Int × Bool)) :=
 (ccheckP (x1, ()) (())).bind fun r =>
 chk (decide (r.1.1.length + s.size ≤ 140737488355328)) <|
 some (((r.1.1 ++ bytesI s), ()), ((s.size : Int), true))
def E27 : FEnv iseat := ⟨⟨19, [], [], [], [], [], [], [Tx.sp47], [], [], [], [], [0], false⟩, []⟩
theorem e27 (it : It (((List Int) × Unit) × (Int × Bool))) (x1 : List Int) (s : ByteArray) : fnRunZ 66 5 (.int .u8) (ts := [.int .i64, .err]) it (E27 ) (bodyOf Tryz.f27) Tryz.f27.results.toList (x1, ()) (encAK [.p 0, .d .str] (s, ())) = wStr' it x1 s := by kernel_rfl
def wStr : ((List Int) × Unit) → (ByteArray × Unit) → Option (((List Int) × Unit) × (Int × Bool)) := opq (fun x a => wStr' itN x.1 a.1)
theorem wStr_eq : wStr = fun x a => wStr' itN x.1 a.1 := by unfold wStr; rw [opq_eq]
def sp27 : FnSpecM iseat.toSeat := mkSpecZ iseat.toSeat 27 66 5 (.int .u8) [.p 0, .d .str] [.int .i64, .err] [] [0] wStr (fun x a y z hx => fn_contractZ (E := E27 ) Tryz.func27 (by kernel_rfl) (by kernel_rfl) (by kernel_rfl) (by kernel_rfl) rfl rfl ((e27 itN x.1 a.1).trans ((congrFun (congrFun wStr_eq x) a).symm.trans hx)))
def wByte' (it : It (((List Int) × Unit) × Bool)) (x1 : List Int) (c : Int) : Option (((List Int) × Unit) × Bool) :=
 (ccheckP (x1, ()) (())).bind fun r =>
 chk (fitA (r.1.1.length + [c].length) 1) <|
 some (((r.1.1 ++ [c]), ()), true)
def E29 : FEnv iseat := ⟨⟨17, [], [], [], [], [], [], [Tx.sp47], [], [], [], [13], [0], false⟩, []⟩
theorem e29 (it : It (((List Int) × Unit) × Bool)) (x1 : List Int) (c : Int) : fnRunZ 66 5 (.int .u8) (ts := [.err]) it (E29 ) (bodyOf Tryz.f29) Tryz.f29.results.toList (x1, ()) (encAK [.p 0, .d (.int .u8)] (c, ())) = wByte' it x1 c := by kernel_rfl
def wByte : ((List Int) × Unit) → (Int × Unit) → Option (((List Int) × Unit) × Bool) := opq (fun x a => wByte' itN x.1 a.1)
theorem wByte_eq : wByte = fun x a => wByte' itN x.1 a.1 := by unfold wByte; rw [opq_eq]
def sp29 : FnSpecM iseat.toSeat := mkSpecZ iseat.toSeat 29 66 5 (.int .u8) [.p 0, .d (.int .u8)] [.err] [] [0] wByte (fun x a y z hx => fn_contractZ (E := E29 ) Tryz.func29 (by kernel_rfl) (by kernel_rfl) (by kernel_rfl) (by kernel_rfl) rfl rfl ((e29 itN x.1 a.1).trans ((congrFun (congrFun wByte_eq x) a).symm.trans hx)))
def row_L2 (l : List Int) (x11 : Int) (word_buf : List Int) (kn_ : Int → (List Int) → Option (((List Int) × Unit) × Unit)) : Option (((List Int) × Unit) × Unit) :=
 bif (decide (x11 < (l.length : Int))) then
 chk (decide (0 ≤ x11) && decide (x11 < (l.length : Int))) <|
 (Tx.itoaP (l.getD x11.toNat 0)).bind fun r2 =>
 chk (decide ((⟨#[32]⟩ : ByteArray).size + r2.size ≤ 9223372036854775807)) <|
 (wStr (word_buf, ()) ((catS (⟨#[32]⟩ : ByteArray) r2), ())).bind fun r3 =>
 kn_ (w64 (x11 + 1)) r3.1.1
 else
 (wByte (word_buf, ()) (10, ())).bind fun r4 =>
 some ((r4.1.1, ()), ())
def row' (it : It (((List Int) × Unit) × Unit)) (x1 : List Int) (word : ByteArray) (l : List Int) : Option (((List Int) × Unit) × Unit) :=
 (wStr (x1, ()) (word, ())).bind fun r =>
 it _ (fun (v_0 : (Unit × Int × Unit) × ((Unit × (List Int) × Unit) × Unit)) kn => row_L2 l v_0.1.2.1 v_0.2.1.2.1 (fun y0 y1 => kn (((), y0, ()), (((), y1, ()), ())))) (((), 0, ()), (((), r.1.1, ()), ()))
def E26 : FEnv iseat := ⟨⟨21, [Tx.sp28], [], [], [], [], [], [sp27, sp29], [], [], [], [], [0], false⟩, [(2, ⟨⟨[(2, .bx 0 0), (11, .v (.int .i64))], [(0, [.mb 0 66, .os 900000001 5 (.int .u8)])]⟩, [9, 10], [], []⟩)]⟩
theorem e26 (it : It (((List Int) × Unit) × Unit)) (x1 : List Int) (word : ByteArray) (l : List Int) : fnRunZ 66 5 (.int .u8) (ts := []) it (E26 ) (bodyOf Tryz.f26) Tryz.f26.results.toList (x1, ()) (encAK [.d .str, .d (.sl (.int .i64)), .p 0] (word, l, ())) = row' it x1 word l := by kernel_rfl
def row : ((List Int) × Unit) → (ByteArray × (List Int) × Unit) → Option (((List Int) × Unit) × Unit) := opq (fun x a => row' itN x.1 a.1 a.2.1)
theorem row_eq : row = fun x a => row' itN x.1 a.1 a.2.1 := by unfold row; rw [opq_eq]
def sp26 : FnSpecM iseat.toSeat := mkSpecZ iseat.toSeat 26 66 5 (.int .u8) [.d .str, .d (.sl (.int .i64)), .p 0] [] [] [0] row (fun x a y z hx => fn_contractZ (E := E26 ) Tryz.func26 (by kernel_rfl) (by kernel_rfl) (by kernel_rfl) (by kernel_rfl) rfl rfl ((e26 itN x.1 a.1 a.2.1).trans ((congrFun (congrFun row_eq x) a).symm.trans hx)))
def bLen' (it : It (((List Int) × Unit) × Int)) (x1 : List Int) : Option (((List Int) × Unit) × Int) :=
 some ((x1, ()), (x1.length : Int))
def E30 : FEnv iseat := ⟨⟨8, [], [], [], [], [], [], [], [], [], [], [], (rng 0 [.z 66 0 1, .a 5 (.int .u8)]), false⟩, []⟩
theorem e30 (it : It (((List Int) × Unit) × Int)) (x1 : List Int) : fnRunM [.z 66 0 1, .a 5 (.int .u8)] (ts := [.int .i64]) it (E30 ) (bodyOf Tryz.f30) Tryz.f30.results.toList (x1, ()) (encAK [.p 0] (())) = bLen' it x1 := by kernel_rfl
def bLen : ((List Int) × Unit) → (Unit) → Option (((List Int) × Unit) × Int) := opq (fun x a => bLen' itN x.1)
theorem bLen_eq : bLen = fun x a => bLen' itN x.1 := by unfold bLen; rw [opq_eq]
def sp30 : FnSpecM iseat.toSeat := mkSpecM iseat.toSeat 30 [.z 66 0 1, .a 5 (.int .u8)] [.p 0] [.int .i64] [] [0] bLen (fun x a y z hx => fn_contractM (E := E30 ) Tryz.func30 (by kernel_rfl) (by kernel_rfl) (by kernel_rfl) (by kernel_rfl) rfl rfl (by kernel_rfl) (by kernel_rfl) ((e30 itN x.1).trans ((congrFun (congrFun bLen_eq x) a).symm.trans hx)))
def Write_L12 (c : Convoy) (x29 : Int) (kn_ : Int → (List Int) → Option (ByteArray × Int)) (x52 : Int) (b_buf2 : List Int) (kn_2 : Int → (List Int) → Option (ByteArray × Int)) : Option (ByteArray × Int) :=
 bif (decide (x52 < (((c.Trucks.getD x29.toNat dfltTruck).Holds).length : Int))) then
 chk (decide (0 ≤ x52) && decide (x52 < (((c.Trucks.getD x29.toNat dfltTruck).Holds).length : Int))) <|
 (row (b_buf2, ()) ((⟨#[104, 111, 108, 100]⟩ : ByteArray), [(((c.Trucks.getD x29.toNat dfltTruck).Holds).getD x52.toNat dfltHold).At, (((c.Trucks.getD x29.toNat dfltTruck).Holds).getD x52.toNat dfltHold).Until], ())).bind fun r4 =>
 kn_2 (w64 (x52 + 1)) r4.1.1
 else
 kn_ (w64 (x29 + 1)) b_buf2
def Write_L12__2 (c : Convoy) (x29 : Int) (kn_ : Int → (List Int) → Option (ByteArray × Int)) (x522 : Int) (b_buf3 : List Int) (kn_3 : Int → (List Int) → Option (ByteArray × Int)) : Option (ByteArray × Int) :=
 bif (decide (x522 < (((c.Trucks.getD x29.toNat dfltTruck).Holds).length : Int))) then
 chk (decide (0 ≤ x522) && decide (x522 < (((c.Trucks.getD x29.toNat dfltTruck).Holds).length : Int))) <|
 (row (b_buf3, ()) ((⟨#[104, 111, 108, 100]⟩ : ByteArray), [(((c.Trucks.getD x29.toNat dfltTruck).Holds).getD x522.toNat dfltHold).At, (((c.Trucks.getD x29.toNat dfltTruck).Holds).getD x522.toNat dfltHold).Until], ())).bind fun r6 =>
 kn_3 (w64 (x522 + 1)) r6.1.1
 else
 kn_ (w64 (x29 + 1)) b_buf3
def Write_L12__3 (c : Convoy) (x29 : Int) (kn_ : Int → (List Int) → Option (ByteArray × Int)) (x523 : Int) (b_buf4 : List Int) (kn_4 : Int → (List Int) → Option (ByteArray × Int)) : Option (ByteArray × Int) :=
 bif (decide (x523 < (((c.Trucks.getD x29.toNat dfltTruck).Holds).length : Int))) then
 chk (decide (0 ≤ x523) && decide (x523 < (((c.Trucks.getD x29.toNat dfltTruck).Holds).length : Int))) <|
 (row (b_buf4, ()) ((⟨#[104, 111, 108, 100]⟩ : ByteArray), [(((c.Trucks.getD x29.toNat dfltTruck).Holds).getD x523.toNat dfltHold).At, (((c.Trucks.getD x29.toNat dfltTruck).Holds).getD x523.toNat dfltHold).Until], ())).bind fun r8 =>
 kn_4 (w64 (x523 + 1)) r8.1.1
 else
 kn_ (w64 (x29 + 1)) b_buf4
def Write_L8 (it : It (ByteArray × Int)) (c : Convoy) (x29 : Int) (b_buf : List Int) (kn_ : Int → (List Int) → Option (ByteArray × Int)) : Option (ByteArray × Int) :=
 bif (decide (x29 < (c.Trucks.length : Int))) then
 chk (decide (0 ≤ x29) && decide (x29 < (c.Trucks.length : Int))) <|
 bif ((c.Trucks.getD x29.toNat dfltTruck).Way) == 0 then
 chk (decide ((⟨#[116, 114, 117, 99, 107, 32]⟩ : ByteArray).size + (⟨#[]⟩ : ByteArray).size ≤ 9223372036854775807)) <|
 (row (b_buf, ()) ((catS (⟨#[116, 114, 117, 99, 107, 32]⟩ : ByteArray) (⟨#[]⟩ : ByteArray)), [(c.Trucks.getD x29.toNat dfltTruck).Start, (c.Trucks.getD x29.toNat dfltTruck).Pace.Lo, (c.Trucks.getD x29.toNat dfltTruck).Pace.Hi], ())).bind fun r3 =>
 it _ (fun (v_0 : (Unit × Unit × Int × Unit) × ((Unit × (List Int) × Unit) × Unit)) kn => Write_L12 c x29 kn_ v_0.1.2.2.1 v_0.2.1.2.1 (fun y0 y1 => kn (((), (), y0, ()), (((), y1, ()), ())))) (((), (), 0, ()), (((), r3.1.1, ()), ()))
 else
 bif ((c.Trucks.getD x29.toNat dfltTruck).Way) == 1 then
 chk (decide ((⟨#[116, 114, 117, 99, 107, 32]⟩ : ByteArray).size + (⟨#[117, 112]⟩ : ByteArray).size ≤ 9223372036854775807)) <|
 (row (b_buf, ()) ((catS (⟨#[116, 114, 117, 99, 107, 32]⟩ : ByteArray) (⟨#[117, 112]⟩ : ByteArray)), [(c.Trucks.getD x29.toNat dfltTruck).Start, (c.Trucks.getD x29.toNat dfltTruck).Pace.Lo, (c.Trucks.getD x29.toNat dfltTruck).Pace.Hi], ())).bind fun r5 =>
 it _ (fun (v_0 : (Unit × Unit × Int × Unit) × ((Unit × (List Int) × Unit) × Unit)) kn => Write_L12__2 c x29 kn_ v_0.1.2.2.1 v_0.2.1.2.1 (fun y0 y1 => kn (((), (), y0, ()), (((), y1, ()), ())))) (((), (), 0, ()), (((), r5.1.1, ()), ()))
 else
 bif ((c.Trucks.getD x29.toNat dfltTruck).Way) == 2 then
 chk (decide ((⟨#[116, 114, 117, 99, 107, 32]⟩ : ByteArray).size + (⟨#[100, 111, 119, 110]⟩ : ByteArray).size ≤ 9223372036854775807)) <|
 (row (b_buf, ()) ((catS (⟨#[116, 114, 117, 99, 107, 32]⟩ : ByteArray) (⟨#[100, 111, 119, 110]⟩ : ByteArray)), [(c.Trucks.getD x29.toNat dfltTruck).Start, (c.Trucks.getD x29.toNat dfltTruck).Pace.Lo, (c.Trucks.getD x29.toNat dfltTruck).Pace.Hi], ())).bind fun r7 =>
 it _ (fun (v_0 : (Unit × Unit × Int × Unit) × ((Unit × (List Int) × Unit) × Unit)) kn => Write_L12__3 c x29 kn_ v_0.1.2.2.1 v_0.2.1.2.1 (fun y0 y1 => kn (((), (), y0, ()), (((), y1, ()), ())))) (((), (), 0, ()), (((), r7.1.1, ()), ()))
 else
 none
 else
 (bLen (b_buf, ()) (())).bind fun r9 =>
 bif (decide (r9.2 > 20000)) then
 some ((⟨#[]⟩ : ByteArray), 5)
 else
 (strP (r9.1.1, ()) (())).bind fun r10 =>
 some (r10.2, 0)
def Write' (it : It (ByteArray × Int)) (c : Convoy) : Option (ByteArray × Int) :=
 (pCheck c).bind fun r =>
 bif (r != 0) then
 some ((⟨#[]⟩ : ByteArray), r)
 else
 (row (([] : List Int), ()) ((⟨#[114, 111, 97, 100]⟩ : ByteArray), [c.Length, c.Gap, c.Fails], ())).bind fun r2 =>
 it _ (fun (v_0 : (Unit × Unit × Int × Unit) × ((Unit × (List Int) × Unit) × Unit)) kn => Write_L8 it c v_0.1.2.2.1 v_0.2.1.2.1 (fun y0 y1 => kn (((), (), y0, ()), (((), y1, ()), ())))) (((), (), 0, ()), (((), r2.1.1, ()), ()))
def Write : Convoy → Option (ByteArray × Int) := opq (fun c => Write' itN c)
theorem Write_eq (c : Convoy) : Write c = Write' itN c := by unfold Write; rw [opq_eq]
def E8 : FEnv iseat := ⟨⟨68, [sp25], [], [], [], [], [], [sp26, sp30, Tx.sp31], [], [], [], [24, 47, 61], [], true⟩, [(8, ⟨⟨[(5, .bx 5 0), (6, .fnb 26 [(5, 0)]), (29, .v (.int .i64))], [(5, [.mb 5 66, .os 40000005 5 (.int .u8)])]⟩, [27, 28], [], []⟩), (12, ⟨⟨[(5, .bx 5 0), (6, .fnb 26 [(5, 0)]), (52, .v (.int .i64))], [(5, [.mb 5 66, .os 40000005 5 (.int .u8)])]⟩, [29, 50, 51], [], []⟩)]⟩
theorem e8 (it : It (ByteArray × Int)) (c : Convoy) : fnRun (ts := [.str, .int .i64]) it E8 (bodyOf Tryz.f8) Tryz.f8.results.toList (encA [.Convoy] (c, ())) = Write' it c := by kernel_rfl
def sp8 : FnSpec iseat.toSeat := mkSpec iseat.toSeat 8 [.Convoy] [.str, .int .i64] true (fun a => Write a.1) (fun a x hx h h' => fn_contract (E := E8) Tryz.func8 (by kernel_rfl) (by kernel_rfl) (by kernel_rfl) (by kernel_rfl) rfl ((e8 itN a.1).trans ((Write_eq a.1).symm.trans hx)) h h') (fun _ x => rfl)
end
end Go.Proofs.Tt05
namespace Go.Proofs.Tt05
open Go Go.Ab
open Go.Proofs.YtmoiedlfimodeaaGreatDoor (iseat)
set_option linter.all false
set_option maxRecDepth 100000
noncomputable section
def numbers_L5 (words : List ByteArray) (out : List Int) (x17 : Int) (kn_ : (List Int) → Int → Option ((List Int) × Bool)) : Option ((List Int) × Bool) :=
 bif (decide (x17 < (words.length : Int))) then
 chk (decide (0 ≤ x17) && decide (x17 < (words.length : Int))) <|
 (Tx.atoiP (words.getD x17.toNat ⟨#[]⟩)).bind fun r =>
 bif (!r.2) then
 some (([] : List Int), false)
 else
 bif (decide (r.1 < 0)) then
 some (([] : List Int), false)
 else
 bif (decide (((words.getD x17.toNat ⟨#[]⟩).size : Int) > 9)) then
 some (([] : List Int), false)
 else
 (Tx.itoaP r.1).bind fun r2 =>
 bif (!(r2.toList == (words.getD x17.toNat ⟨#[]⟩).toList)) then
 some (([] : List Int), false)
 else
 chk (fitA (out.length + [r.1].length) 8) <|
 kn_ (out ++ [r.1]) (w64 (x17 + 1))
 else
 some (out, true)
def numbers' (it : It ((List Int) × Bool)) (words : List ByteArray) (many : Int) : Option ((List Int) × Bool) :=
 bif ((words.length : Int) != many) then
 some (([] : List Int), false)
 else
 it _ (fun (v_0 : ((List Int) × Int × Unit) × (Unit)) kn => numbers_L5 words v_0.1.1 v_0.1.2.1 (fun y0 y1 => kn ((y0, y1, ()), (())))) ((([] : List Int), 0, ()), (()))
def numbers : (List ByteArray) → Int → Option ((List Int) × Bool) := opq (fun words many => numbers' itN words many)
theorem numbers_eq (words : List ByteArray) (many : Int) : numbers words many = numbers' itN words many := by unfold numbers; rw [opq_eq]
def E52 : FEnv iseat := ⟨⟨49, [Tx.sp72, Tx.sp28], [], [], [], [], [], [], [], [], [], [45], [], true⟩, [(5, ⟨⟨[(6, .os 6 3 (.int .i64)), (17, .v (.int .i64))], []⟩, [15, 16], [], []⟩)]⟩
theorem e52 (it : It ((List Int) × Bool)) (words : List ByteArray) (many : Int) : fnRun (ts := [.sl (.int .i64), .bool]) it E52 (bodyOf Tryz.f52) Tryz.f52.results.toList (encA [.sl .str, .int .i64] (words, many, ())) = numbers' it words many := by kernel_rfl
def sp52 : FnSpec iseat.toSeat := mkSpec iseat.toSeat 52 [.sl .str, .int .i64] [.sl (.int .i64), .bool] false (fun a => numbers a.1 a.2.1) (fun a x hx h h' => fn_contract (E := E52) Tryz.func52 (by kernel_rfl) (by kernel_rfl) (by kernel_rfl) (by kernel_rfl) rfl ((e52 itN a.1 a.2.1).trans ((numbers_eq a.1 a.2.1).symm.trans hx)) h h') (fun h => nomatch h)
def takeR' (it : It (Convoy × Bool)) (c : Convoy) (place : Int) (row : ByteArray) : Option (Convoy × Bool) :=
 (Tx.splitP row (⟨#[32]⟩ : ByteArray)).bind fun r =>
 chk (decide (0 ≤ 0) && decide (0 < (r.length : Int))) <|
 bif (!((place == 0) == ((r.getD 0 ⟨#[]⟩).toList == (⟨#[114, 111, 97, 100]⟩ : ByteArray).toList))) then
 some (c, false)
 else
 bif (place == 0) then
 chk (decide (0 ≤ 1) && decide (1 ≤ (r.length : Int)) && decide ((r.length : Int) ≤ (r.length : Int))) <|
 (numbers (subL r 1 (r.length : Int)) 3).bind fun r2 =>
 bif r2.2 then
 chk (decide (0 ≤ 0) && decide (0 < (r2.1.length : Int))) <|
 chk (decide (0 ≤ 1) && decide (1 < (r2.1.length : Int))) <|
 chk (decide (0 ≤ 2) && decide (2 < (r2.1.length : Int))) <|
 some ((⟨(r2.1.getD 0 0), (r2.1.getD 1 0), (r2.1.getD 2 0), c.Trucks⟩ : Convoy), r2.2)
 else
 some (c, r2.2)
 else
 chk (decide (0 ≤ 0) && decide (0 < (r.length : Int))) <|
 bif ((r.getD 0 ⟨#[]⟩).toList == (⟨#[116, 114, 117, 99, 107]⟩ : ByteArray).toList) then
 bif (decide ((r.length : Int) > 1)) then
 chk (decide (0 ≤ 1) && decide (1 < (r.length : Int))) <|
 bif ((r.getD 1 ⟨#[]⟩).toList == (⟨#[117, 112]⟩ : ByteArray).toList) then
 chk (decide (0 ≤ 2) && decide (2 ≤ (r.length : Int)) && decide ((r.length : Int) ≤ (r.length : Int))) <|
 (numbers (subL r 2 (r.length : Int)) 3).bind fun r3 =>
 bif r3.2 then
 chk (decide (0 ≤ 0) && decide (0 < (r3.1.length : Int))) <|
 chk (decide (0 ≤ 1) && decide (1 < (r3.1.length : Int))) <|
 chk (decide (0 ≤ 2) && decide (2 < (r3.1.length : Int))) <|
 chk (decide (0 ≤ 1) && decide (1 < (r.length : Int))) <|
 bif ((r.getD 1 ⟨#[]⟩).toList == (⟨#[100, 111, 119, 110]⟩ : ByteArray).toList) then
 none
 else
 none
 else
 some (c, r3.2)
 else
 chk (decide (0 ≤ 1) && decide (1 < (r.length : Int))) <|
 bif ((r.getD 1 ⟨#[]⟩).toList == (⟨#[100, 111, 119, 110]⟩ : ByteArray).toList) then
 chk (decide (0 ≤ 2) && decide (2 ≤ (r.length : Int)) && decide ((r.length : Int) ≤ (r.length : Int))) <|
 (numbers (subL r 2 (r.length : Int)) 3).bind fun r4 =>
 bif r4.2 then
 chk (decide (0 ≤ 0) && decide (0 < (r4.1.length : Int))) <|
 chk (decide (0 ≤ 1) && decide (1 < (r4.1.length : Int))) <|
 chk (decide (0 ≤ 2) && decide (2 < (r4.1.length : Int))) <|
 chk (decide (0 ≤ 1) && decide (1 < (r.length : Int))) <|
 bif ((r.getD 1 ⟨#[]⟩).toList == (⟨#[100, 111, 119, 110]⟩ : ByteArray).toList) then
 none
 else
 none
 else
 some (c, r4.2)
 else
 chk (decide (0 ≤ 0) && decide (0 < (r.length : Int))) <|
 bif ((r.getD 0 ⟨#[]⟩).toList == (⟨#[104, 111, 108, 100]⟩ : ByteArray).toList) then
 bif (decide ((c.Trucks.length : Int) > 0)) then
 chk (decide (0 ≤ 1) && decide (1 ≤ (r.length : Int)) && decide ((r.length : Int) ≤ (r.length : Int))) <|
 (numbers (subL r 1 (r.length : Int)) 2).bind fun r5 =>
 bif r5.2 then
 chk (decide (0 ≤ (w64 ((c.Trucks.length : Int) - 1))) && decide ((w64 ((c.Trucks.length : Int) - 1)) < (c.Trucks.length : Int))) <|
 chk (decide (0 ≤ 0) && decide (0 < (r5.1.length : Int))) <|
 chk (decide (0 ≤ 1) && decide (1 < (r5.1.length : Int))) <|
 none
 else
 some (c, r5.2)
 else
 some (c, false)
 else
 some (c, false)
 else
 chk (decide (0 ≤ 0) && decide (0 < (r.length : Int))) <|
 bif ((r.getD 0 ⟨#[]⟩).toList == (⟨#[104, 111, 108, 100]⟩ : ByteArray).toList) then
 bif (decide ((c.Trucks.length : Int) > 0)) then
 chk (decide (0 ≤ 1) && decide (1 ≤ (r.length : Int)) && decide ((r.length : Int) ≤ (r.length : Int))) <|
 (numbers (subL r 1 (r.length : Int)) 2).bind fun r6 =>
 bif r6.2 then
 chk (decide (0 ≤ (w64 ((c.Trucks.length : Int) - 1))) && decide ((w64 ((c.Trucks.length : Int) - 1)) < (c.Trucks.length : Int))) <|
 chk (decide (0 ≤ 0) && decide (0 < (r6.1.length : Int))) <|
 chk (decide (0 ≤ 1) && decide (1 < (r6.1.length : Int))) <|
 none
 else
 some (c, r6.2)
 else
 some (c, false)
 else
 some (c, false)
 else
 chk (decide (0 ≤ 0) && decide (0 < (r.length : Int))) <|
 bif ((r.getD 0 ⟨#[]⟩).toList == (⟨#[104, 111, 108, 100]⟩ : ByteArray).toList) then
 bif (decide ((c.Trucks.length : Int) > 0)) then
 chk (decide (0 ≤ 1) && decide (1 ≤ (r.length : Int)) && decide ((r.length : Int) ≤ (r.length : Int))) <|
 (numbers (subL r 1 (r.length : Int)) 2).bind fun r7 =>
 bif r7.2 then
 chk (decide (0 ≤ (w64 ((c.Trucks.length : Int) - 1))) && decide ((w64 ((c.Trucks.length : Int) - 1)) < (c.Trucks.length : Int))) <|
 chk (decide (0 ≤ 0) && decide (0 < (r7.1.length : Int))) <|
 chk (decide (0 ≤ 1) && decide (1 < (r7.1.length : Int))) <|
 none
 else
 some (c, r7.2)
 else
 some (c, false)
 else
 some (c, false)
def takeR : Convoy → Int → ByteArray → Option (Convoy × Bool) := opq (fun c place row => takeR' itN c place row)
theorem takeR_eq (c : Convoy) (place : Int) (row : ByteArray) : takeR c place row = takeR' itN c place row := by unfold takeR; rw [opq_eq]
def E36 : FEnv iseat := ⟨⟨165, [Tx.sp35, sp52], [], [], [], [], [], [], [], [], [], [112, 160], [0], true⟩, []⟩
theorem e36 (it : It (Convoy × Bool)) (c : Convoy) (place : Int) (row : ByteArray) : fnRunR (bt := .Convoy) (ts := [.bool]) it E36 (bodyOf Tryz.f36) Tryz.f36.results.toList (encC .Convoy c) (encA [.int .i64, .str] (place, row, ())) = takeR' it c place row := by kernel_rfl
def within' (it : It Bool) (n : Int) (low : Int) (high : Int) : Option Bool :=
 bif (decide (n ≥ low)) then
 some (decide (n ≤ high))
 else
 some false
def within : Int → Int → Int → Option Bool := opq (fun n low high => within' itN n low high)
theorem within_eq (n : Int) (low : Int) (high : Int) : within n low high = within' itN n low high := by unfold within; rw [opq_eq]
def E49 : FEnv iseat := ⟨⟨15, [], [], [], [], [], [], [], [], [], [], [], [], true⟩, []⟩
theorem e49 (it : It Bool) (n : Int) (low : Int) (high : Int) : fnRun (ts := [.bool]) it E49 (bodyOf Tryz.f49) Tryz.f49.results.toList (encA [.int .i64, .int .i64, .int .i64] (n, low, high, ())) = within' it n low high := by kernel_rfl
def sp49 : FnSpec iseat.toSeat := mkSpec iseat.toSeat 49 [.int .i64, .int .i64, .int .i64] [.bool] true (fun a => within a.1 a.2.1 a.2.2.1) (fun a x hx h h' => fn_contract (E := E49) Tryz.func49 (by kernel_rfl) (by kernel_rfl) (by kernel_rfl) (by kernel_rfl) rfl ((e49 itN a.1 a.2.1 a.2.2.1).trans ((within_eq a.1 a.2.1 a.2.2.1).symm.trans hx)) h h') (fun _ x => rfl)
def along04' (it : It Int) (c : Convoy) (t : Truck) (h : Hold) : Option Int :=
 bif (t.Way == 2) then
 some (w64 (c.Length - h.At))
 else
 some h.At
def along04 : Convoy → Truck → Hold → Option Int := opq (fun c t h => along04' itN c t h)
theorem along04_eq (c : Convoy) (t : Truck) (h : Hold) : along04 c t h = along04' itN c t h := by unfold along04; rw [opq_eq]
def E68 : FEnv iseat := ⟨⟨17, [], [], [], [], [], [], [], [], [], [], [], [], true⟩, []⟩
theorem e68 (it : It Int) (c : Convoy) (t : Truck) (h : Hold) : fnRun (ts := [.int .i64]) it E68 (bodyOf Tryz.f68) Tryz.f68.results.toList (encA [.Convoy, .Truck, .Hold] (c, t, h, ())) = along04' it c t h := by kernel_rfl
def sp68 : FnSpec iseat.toSeat := mkSpec iseat.toSeat 68 [.Convoy, .Truck, .Hold] [.int .i64] true (fun a => along04 a.1 a.2.1 a.2.2.1) (fun a x hx h h' => fn_contract (E := E68) Tryz.func68 (by kernel_rfl) (by kernel_rfl) (by kernel_rfl) (by kernel_rfl) rfl ((e68 itN a.1 a.2.1 a.2.2.1).trans ((along04_eq a.1 a.2.1 a.2.2.1).symm.trans hx)) h h') (fun _ x => rfl)
def checkTruck04_L14 (t : Truck) (c : Convoy) (i : Int) (kn_ : Int → Option Int) : Option Int :=
 bif (decide (i < (t.Holds.length : Int))) then
 chk (decide (0 ≤ i) && decide (i < (t.Holds.length : Int))) <|
 (within ((t.Holds.getD i.toNat dfltHold).At) 1 (w64 (c.Length - 1))).bind fun r4 =>
 bif (!r4) then
 some 2
 else
 (within ((t.Holds.getD i.toNat dfltHold).Until) 0 10000).bind fun r5 =>
 bif (!r5) then
 some 2
 else
 bif (decide (i > 0)) then
 (along04 c t (t.Holds.getD i.toNat dfltHold)).bind fun r6 =>
 chk (decide (0 ≤ (w64 (i - 1))) && decide ((w64 (i - 1)) < (t.Holds.length : Int))) <|
 (along04 c t (t.Holds.getD (w64 (i - 1)).toNat dfltHold)).bind fun r7 =>
 bif (decide (r6 ≤ r7)) then
 some 11
 else
 kn_ (w64 (i + 1))
 else
 kn_ (w64 (i + 1))
 else
 some 0
def checkTruck04_L14__2 (t : Truck) (c : Convoy) (i2 : Int) (kn_2 : Int → Option Int) : Option Int :=
 bif (decide (i2 < (t.Holds.length : Int))) then
 chk (decide (0 ≤ i2) && decide (i2 < (t.Holds.length : Int))) <|
 (within ((t.Holds.getD i2.toNat dfltHold).At) 1 (w64 (c.Length - 1))).bind fun r11 =>
 bif (!r11) then
 some 2
 else
 (within ((t.Holds.getD i2.toNat dfltHold).Until) 0 10000).bind fun r12 =>
 bif (!r12) then
 some 2
 else
 bif (decide (i2 > 0)) then
 (along04 c t (t.Holds.getD i2.toNat dfltHold)).bind fun r13 =>
 chk (decide (0 ≤ (w64 (i2 - 1))) && decide ((w64 (i2 - 1)) < (t.Holds.length : Int))) <|
 (along04 c t (t.Holds.getD (w64 (i2 - 1)).toNat dfltHold)).bind fun r14 =>
 bif (decide (r13 ≤ r14)) then
 some 11
 else
 kn_2 (w64 (i2 + 1))
 else
 kn_2 (w64 (i2 + 1))
 else
 some 0
def checkTruck04' (it : It Int) (c : Convoy) (t : Truck) : Option Int :=
 bif (t.Way != 1) then
 bif (t.Way != 2) then
 some 4
 else
 (within t.Start 0 10000).bind fun r =>
 bif (!r) then
 some 2
 else
 (within t.Pace.Lo 1 1000).bind fun r2 =>
 bif (!r2) then
 some 2
 else
 (within t.Pace.Hi 1 1000).bind fun r3 =>
 bif (!r3) then
 some 2
 else
 bif (decide (t.Pace.Lo > t.Pace.Hi)) then
 some 11
 else
 bif (decide (c.Length > (w64 (1000 * t.Pace.Lo)))) then
 some 13
 else
 bif (decide (c.Gap < (w64 (2 * t.Pace.Hi)))) then
 some 12
 else
 bif (decide ((t.Holds.length : Int) > 8)) then
 some 8
 else
 it _ (fun (v_0 : (Unit × Unit × Int × Unit) × (Unit)) kn => checkTruck04_L14 t c v_0.1.2.2.1 (fun y0 => kn (((), (), y0, ()), (())))) (((), (), 0, ()), (()))
 else
 (within t.Start 0 10000).bind fun r8 =>
 bif (!r8) then
 some 2
 else
 (within t.Pace.Lo 1 1000).bind fun r9 =>
 bif (!r9) then
 some 2
 else
 (within t.Pace.Hi 1 1000).bind fun r10 =>
 bif (!r10) then
 some 2
 else
 bif (decide (t.Pace.Lo > t.Pace.Hi)) then
 some 11
 else
 bif (decide (c.Length > (w64 (1000 * t.Pace.Lo)))) then
 some 13
 else
 bif (decide (c.Gap < (w64 (2 * t.Pace.Hi)))) then
 some 12
 else
 bif (decide ((t.Holds.length : Int) > 8)) then
 some 8
 else
 it _ (fun (v_0 : (Unit × Unit × Int × Unit) × (Unit)) kn => checkTruck04_L14__2 t c v_0.1.2.2.1 (fun y0 => kn (((), (), y0, ()), (())))) (((), (), 0, ()), (()))
def checkTruck04 : Convoy → Truck → Option Int := opq (fun c t => checkTruck04' itN c t)
theorem checkTruck04_eq (c : Convoy) (t : Truck) : checkTruck04 c t = checkTruck04' itN c t := by unfold checkTruck04; rw [opq_eq]
def E50 : FEnv iseat := ⟨⟨107, [sp49, sp68], [], [], [], [], [], [], [], [], [], [], [], true⟩, [(14, ⟨⟨[(2, .bx 2 0), (3, .bx 3 0), (5, .v (.int .i64))], []⟩, [], [2, 3], []⟩)]⟩
theorem e50 (it : It Int) (c : Convoy) (t : Truck) : fnRun (ts := [.int .i64]) it E50 (bodyOf Tryz.f50) Tryz.f50.results.toList (encA [.Convoy, .Truck] (c, t, ())) = checkTruck04' it c t := by kernel_rfl
def sp50 : FnSpec iseat.toSeat := mkSpec iseat.toSeat 50 [.Convoy, .Truck] [.int .i64] true (fun a => checkTruck04 a.1 a.2.1) (fun a x hx h h' => fn_contract (E := E50) Tryz.func50 (by kernel_rfl) (by kernel_rfl) (by kernel_rfl) (by kernel_rfl) rfl ((e50 itN a.1 a.2.1).trans ((checkTruck04_eq a.1 a.2.1).symm.trans hx)) h h') (fun _ x => rfl)
def rCheck_L6 (c : Convoy) (i : Int) (kn_ : Int → Option Int) : Option Int :=
 bif (decide (i < (c.Trucks.length : Int))) then
 chk (decide (0 ≤ i) && decide (i < (c.Trucks.length : Int))) <|
 (checkTruck04 c (c.Trucks.getD i.toNat dfltTruck)).bind fun r4 =>
 bif (r4 != 0) then
 some r4
 else
 kn_ (w64 (i + 1))
 else
 some 0
def rCheck' (it : It Int) (c : Convoy) : Option Int :=
 (within c.Length 1 100000).bind fun r =>
 bif (!r) then
 some 2
 else
 (within c.Gap 1 100000).bind fun r2 =>
 bif (!r2) then
 some 2
 else
 (within c.Fails 0 20).bind fun r3 =>
 bif (!r3) then
 some 2
 else
 bif (decide ((c.Trucks.length : Int) > 20)) then
 some 8
 else
 it _ (fun (v_0 : (Unit × Int × Unit) × (Unit)) kn => rCheck_L6 c v_0.1.2.1 (fun y0 => kn (((), y0, ()), (())))) (((), 0, ()), (()))
def rCheck : Convoy → Option Int := opq (fun c => rCheck' itN c)
theorem rCheck_eq (c : Convoy) : rCheck c = rCheck' itN c := by unfold rCheck; rw [opq_eq]
def E32 : FEnv iseat := ⟨⟨42, [sp49, sp50], [], [], [], [], [], [], [], [], [], [], [], true⟩, [(6, ⟨⟨[(1, .bx 1 0), (3, .v (.int .i64))], []⟩, [], [1], []⟩)]⟩
theorem e32 (it : It Int) (c : Convoy) : fnRun (ts := [.int .i64]) it E32 (bodyOf Tryz.f32) Tryz.f32.results.toList (encA [.Convoy] (c, ())) = rCheck' it c := by kernel_rfl
def sp32 : FnSpec iseat.toSeat := mkSpec iseat.toSeat 32 [.Convoy] [.int .i64] true (fun a => rCheck a.1) (fun a x hx h h' => fn_contract (E := E32) Tryz.func32 (by kernel_rfl) (by kernel_rfl) (by kernel_rfl) (by kernel_rfl) rfl ((e32 itN a.1).trans ((rCheck_eq a.1).symm.trans hx)) h h') (fun _ x => rfl)
def row04_L2 (l : List Int) (word2 : ByteArray) (i : Int) (kn_ : ByteArray → Int → Option ByteArray) : Option ByteArray :=
 bif (decide (i < (l.length : Int))) then
 chk (decide (word2.size + (⟨#[32]⟩ : ByteArray).size ≤ 9223372036854775807)) <|
 chk (decide (0 ≤ i) && decide (i < (l.length : Int))) <|
 (Tx.itoaP (l.getD i.toNat 0)).bind fun r =>
 chk (decide ((catS word2 (⟨#[32]⟩ : ByteArray)).size + r.size ≤ 9223372036854775807)) <|
 kn_ (catS (catS word2 (⟨#[32]⟩ : ByteArray)) r) (w64 (i + 1))
 else
 chk (decide (word2.size + (⟨#[10]⟩ : ByteArray).size ≤ 9223372036854775807)) <|
 some (catS word2 (⟨#[10]⟩ : ByteArray))
def row04' (it : It ByteArray) (word : ByteArray) (l : List Int) : Option ByteArray :=
 it _ (fun (v_0 : (ByteArray × Int × Unit) × (Unit)) kn => row04_L2 l v_0.1.1 v_0.1.2.1 (fun y0 y1 => kn ((y0, y1, ()), (())))) ((word, 0, ()), (()))
def row04 : ByteArray → (List Int) → Option ByteArray := opq (fun word l => row04' itN word l)
theorem row04_eq (word : ByteArray) (l : List Int) : row04 word l = row04' itN word l := by unfold row04; rw [opq_eq]
def E33 : FEnv iseat := ⟨⟨22, [Tx.sp28], [], [], [], [], [], [], [], [], [], [], [], true⟩, [(2, ⟨⟨[(0, .v .str), (5, .v (.int .i64))], []⟩, [1], [], []⟩)]⟩
theorem e33 (it : It ByteArray) (word : ByteArray) (l : List Int) : fnRun (ts := [.str]) it E33 (bodyOf Tryz.f33) Tryz.f33.results.toList (encA [.str, .sl (.int .i64)] (word, l, ())) = row04' it word l := by kernel_rfl
def sp33 : FnSpec iseat.toSeat := mkSpec iseat.toSeat 33 [.str, .sl (.int .i64)] [.str] true (fun a => row04 a.1 a.2.1) (fun a x hx h h' => fn_contract (E := E33) Tryz.func33 (by kernel_rfl) (by kernel_rfl) (by kernel_rfl) (by kernel_rfl) rfl ((e33 itN a.1 a.2.1).trans ((row04_eq a.1 a.2.1).symm.trans hx)) h h') (fun _ x => rfl)
def Write04_L14 (c : Convoy) (i : Int) (kn_ : ByteArray → Int → Option (ByteArray × Int)) (out2 : ByteArray) (k : Int) (kn_2 : ByteArray → Int → Option (ByteArray × Int)) : Option (ByteArray × Int) :=
 bif (decide (k < (((c.Trucks.getD i.toNat dfltTruck).Holds).length : Int))) then
 chk (decide (0 ≤ k) && decide (k < (((c.Trucks.getD i.toNat dfltTruck).Holds).length : Int))) <|
 chk (decide (0 ≤ k) && decide (k < (((c.Trucks.getD i.toNat dfltTruck).Holds).length : Int))) <|
 (row04 (⟨#[104, 111, 108, 100]⟩ : ByteArray) [(((c.Trucks.getD i.toNat dfltTruck).Holds).getD k.toNat dfltHold).At, (((c.Trucks.getD i.toNat dfltTruck).Holds).getD k.toNat dfltHold).Until]).bind fun r4 =>
 chk (decide (out2.size + r4.size ≤ 9223372036854775807)) <|
 kn_2 (catS out2 r4) (w64 (k + 1))
 else
 kn_ out2 (w64 (i + 1))
def Write04_L14__2 (c : Convoy) (i : Int) (kn_ : ByteArray → Int → Option (ByteArray × Int)) (out3 : ByteArray) (k2 : Int) (kn_3 : ByteArray → Int → Option (ByteArray × Int)) : Option (ByteArray × Int) :=
 bif (decide (k2 < (((c.Trucks.getD i.toNat dfltTruck).Holds).length : Int))) then
 chk (decide (0 ≤ k2) && decide (k2 < (((c.Trucks.getD i.toNat dfltTruck).Holds).length : Int))) <|
 chk (decide (0 ≤ k2) && decide (k2 < (((c.Trucks.getD i.toNat dfltTruck).Holds).length : Int))) <|
 (row04 (⟨#[104, 111, 108, 100]⟩ : ByteArray) [(((c.Trucks.getD i.toNat dfltTruck).Holds).getD k2.toNat dfltHold).At, (((c.Trucks.getD i.toNat dfltTruck).Holds).getD k2.toNat dfltHold).Until]).bind fun r6 =>
 chk (decide (out3.size + r6.size ≤ 9223372036854775807)) <|
 kn_3 (catS out3 r6) (w64 (k2 + 1))
 else
 kn_ out3 (w64 (i + 1))
def Write04_L6 (it : It (ByteArray × Int)) (c : Convoy) (out : ByteArray) (i : Int) (kn_ : ByteArray → Int → Option (ByteArray × Int)) : Option (ByteArray × Int) :=
 bif (decide (i < (c.Trucks.length : Int))) then
 chk (decide (0 ≤ i) && decide (i < (c.Trucks.length : Int))) <|
 bif ((c.Trucks.getD i.toNat dfltTruck).Way == 2) then
 (row04 (⟨#[116, 114, 117, 99, 107, 32, 100, 111, 119, 110]⟩ : ByteArray) [(c.Trucks.getD i.toNat dfltTruck).Start, (c.Trucks.getD i.toNat dfltTruck).Pace.Lo, (c.Trucks.getD i.toNat dfltTruck).Pace.Hi]).bind fun r3 =>
 chk (decide (out.size + r3.size ≤ 9223372036854775807)) <|
 it _ (fun (v_0 : (Unit × ByteArray × Unit × Int × Unit) × (Unit)) kn => Write04_L14 c i kn_ v_0.1.2.1 v_0.1.2.2.2.1 (fun y0 y1 => kn (((), y0, (), y1, ()), (())))) (((), (catS out r3), (), 0, ()), (()))
 else
 (row04 (⟨#[116, 114, 117, 99, 107, 32, 117, 112]⟩ : ByteArray) [(c.Trucks.getD i.toNat dfltTruck).Start, (c.Trucks.getD i.toNat dfltTruck).Pace.Lo, (c.Trucks.getD i.toNat dfltTruck).Pace.Hi]).bind fun r5 =>
 chk (decide (out.size + r5.size ≤ 9223372036854775807)) <|
 it _ (fun (v_0 : (Unit × ByteArray × Unit × Int × Unit) × (Unit)) kn => Write04_L14__2 c i kn_ v_0.1.2.1 v_0.1.2.2.2.1 (fun y0 y1 => kn (((), y0, (), y1, ()), (())))) (((), (catS out r5), (), 0, ()), (()))
 else
 bif (decide ((out.size : Int) > 20000)) then
 some ((⟨#[]⟩ : ByteArray), 5)
 else
 some (out, 0)
def Write04' (it : It (ByteArray × Int)) (c : Convoy) : Option (ByteArray × Int) :=
 (rCheck c).bind fun r =>
 bif (r != 0) then
 some ((⟨#[]⟩ : ByteArray), r)
 else
 (row04 (⟨#[114, 111, 97, 100]⟩ : ByteArray) [c.Length, c.Gap, c.Fails]).bind fun r2 =>
 it _ (fun (v_0 : (Unit × ByteArray × Int × Unit) × (Unit)) kn => Write04_L6 it c v_0.1.2.1 v_0.1.2.2.1 (fun y0 y1 => kn (((), y0, y1, ()), (())))) (((), r2, 0, ()), (()))
def Write04 : Convoy → Option (ByteArray × Int) := opq (fun c => Write04' itN c)
theorem Write04_eq (c : Convoy) : Write04 c = Write04' itN c := by unfold Write04; rw [opq_eq]
def E9 : FEnv iseat := ⟨⟨78, [sp32, sp33], [], [], [], [], [], [], [], [], [], [21, 48, 71], [], true⟩, [(6, ⟨⟨[(1, .bx 1 0), (5, .v .str), (6, .v (.int .i64))], []⟩, [], [1], []⟩), (14, ⟨⟨[(1, .bx 1 0), (5, .v .str), (7, .bx 7 0), (9, .v (.int .i64))], []⟩, [6], [7], []⟩)]⟩
theorem e9 (it : It (ByteArray × Int)) (c : Convoy) : fnRun (ts := [.str, .int .i64]) it E9 (bodyOf Tryz.f9) Tryz.f9.results.toList (encA [.Convoy] (c, ())) = Write04' it c := by kernel_rfl
def sp9 : FnSpec iseat.toSeat := mkSpec iseat.toSeat 9 [.Convoy] [.str, .int .i64] true (fun a => Write04 a.1) (fun a x hx h h' => fn_contract (E := E9) Tryz.func9 (by kernel_rfl) (by kernel_rfl) (by kernel_rfl) (by kernel_rfl) rfl ((e9 itN a.1).trans ((Write04_eq a.1).symm.trans hx)) h h') (fun _ x => rfl)
def Wrap' (it : It Int) (x : Int) (n : Int) : Option Int :=
 bif (decide (n < 2)) then
 some 0
 else
 chk (n != 0) <|
 chk (n != 0) <|
 some ((w64 ((x.tmod n) + n)).tmod n)
def Wrap : Int → Int → Option Int := opq (fun x n => Wrap' itN x n)
theorem Wrap_eq (x : Int) (n : Int) : Wrap x n = Wrap' itN x n := by unfold Wrap; rw [opq_eq]
def E34 : FEnv iseat := ⟨⟨14, [], [], [], [], [], [], [], [], [], [], [], [], true⟩, []⟩
theorem e34 (it : It Int) (x : Int) (n : Int) : fnRun (ts := [.int .i64]) it E34 (bodyOf Tryz.f34) Tryz.f34.results.toList (encA [.int .i64, .int .i64] (x, n, ())) = Wrap' it x n := by kernel_rfl
def sp34 : FnSpec iseat.toSeat := mkSpec iseat.toSeat 34 [.int .i64, .int .i64] [.int .i64] true (fun a => Wrap a.1 a.2.1) (fun a x hx h h' => fn_contract (E := E34) Tryz.func34 (by kernel_rfl) (by kernel_rfl) (by kernel_rfl) (by kernel_rfl) rfl ((e34 itN a.1 a.2.1).trans ((Wrap_eq a.1 a.2.1).symm.trans hx)) h h') (fun _ x => rfl)
def Damage' (it : It ByteArray) (text : ByteArray) (at_ : Int) (how : Int) (by_ : Int) : Option ByteArray :=
 bif ((text.size : Int) == 0) then
 some text
 else
 (Wrap at_ (text.size : Int)).bind fun r =>
 (Wrap how 3).bind fun r2 =>
 bif (r2 == 0) then
 chk (decide (0 ≤ 0) && decide (0 ≤ r) && decide (r ≤ (text.size : Int))) <|
 chk (okB8 [by_]) <|
 chk (decide ((subS text 0 r).size + (⟨(byB8 [by_]).toArray⟩ : ByteArray).size ≤ 9223372036854775807)) <|
 chk (decide (0 ≤ (w64 (r + 1))) && decide ((w64 (r + 1)) ≤ (text.size : Int)) && decide ((text.size : Int) ≤ (text.size : Int))) <|
 chk (decide ((catS (subS text 0 r) (⟨(byB8 [by_]).toArray⟩ : ByteArray)).size + (subS text (w64 (r + 1)) (text.size : Int)).size ≤ 9223372036854775807)) <|
 some (catS (catS (subS text 0 r) (⟨(byB8 [by_]).toArray⟩ : ByteArray)) (subS text (w64 (r + 1)) (text.size : Int)))
 else
 bif (r2 == 1) then
 chk (decide (0 ≤ 0) && decide (0 ≤ r) && decide (r ≤ (text.size : Int))) <|
 chk (decide (0 ≤ (w64 (r + 1))) && decide ((w64 (r + 1)) ≤ (text.size : Int)) && decide ((text.size : Int) ≤ (text.size : Int))) <|
 chk (decide ((subS text 0 r).size + (subS text (w64 (r + 1)) (text.size : Int)).size ≤ 9223372036854775807)) <|
 some (catS (subS text 0 r) (subS text (w64 (r + 1)) (text.size : Int)))
 else
 chk (decide (0 ≤ 0) && decide (0 ≤ r) && decide (r ≤ (text.size : Int))) <|
 chk (okB8 [by_]) <|
 chk (decide ((subS text 0 r).size + (⟨(byB8 [by_]).toArray⟩ : ByteArray).size ≤ 9223372036854775807)) <|
 chk (decide (0 ≤ r) && decide (r ≤ (text.size : Int)) && decide ((text.size : Int) ≤ (text.size : Int))) <|
 chk (decide ((catS (subS text 0 r) (⟨(byB8 [by_]).toArray⟩ : ByteArray)).size + (subS text r (text.size : Int)).size ≤ 9223372036854775807)) <|
 some (catS (catS (subS text 0 r) (⟨(byB8 [by_]).toArray⟩ : ByteArray)) (subS text r (text.size : Int)))
def Damage : ByteArray → Int → Int → Int → Option ByteArray := opq (fun text at_ how by_ => Damage' itN text at_ how by_)
theorem Damage_eq (text : ByteArray) (at_ : Int) (how : Int) (by_ : Int) : Damage text at_ how by_ = Damage' itN text at_ how by_ := by unfold Damage; rw [opq_eq]
def E10 : FEnv iseat := ⟨⟨54, [sp34], [], [], [], [], [], [], [], [], [], [25, 47], [], true⟩, []⟩
theorem e10 (it : It ByteArray) (text : ByteArray) (at_ : Int) (how : Int) (by_ : Int) : fnRun (ts := [.str]) it E10 (bodyOf Tryz.f10) Tryz.f10.results.toList (encA [.str, .int .i64, .int .i64, .int .u8] (text, at_, how, by_, ())) = Damage' it text at_ how by_ := by kernel_rfl
def sp10 : FnSpec iseat.toSeat := mkSpec iseat.toSeat 10 [.str, .int .i64, .int .i64, .int .u8] [.str] true (fun a => Damage a.1 a.2.1 a.2.2.1 a.2.2.2.1) (fun a x hx h h' => fn_contract (E := E10) Tryz.func10 (by kernel_rfl) (by kernel_rfl) (by kernel_rfl) (by kernel_rfl) rfl ((e10 itN a.1 a.2.1 a.2.2.1 a.2.2.2.1).trans ((Damage_eq a.1 a.2.1 a.2.2.1 a.2.2.2.1).symm.trans hx)) h h') (fun _ x => rfl)
def split04_L4 (s : ByteArray) (by_ : Int) (out : List ByteArray) (from_ : Int) (i : Int) (kn_ : (List ByteArray) → Int → Int → Option (List ByteArray)) : Option (List ByteArray) :=
 bif (decide (i ≤ (s.size : Int))) then
 bif (i == (s.size : Int)) then
 chk (decide (0 ≤ from_) && decide (from_ ≤ i) && decide (i ≤ (s.size : Int))) <|
 chk (fitA (out.length + [(subS s from_ i)].length) 16) <|
 kn_ (out ++ [(subS s from_ i)]) (w64 (i + 1)) (w64 (i + 1))
 else
 chk (decide (0 ≤ i)) <|
 byteAt s i.toNat fun b =>
 bif (b == by_) then
 chk (decide (0 ≤ from_) && decide (from_ ≤ i) && decide (i ≤ (s.size : Int))) <|
 chk (fitA (out.length + [(subS s from_ i)].length) 16) <|
 kn_ (out ++ [(subS s from_ i)]) (w64 (i + 1)) (w64 (i + 1))
 else
 kn_ out from_ (w64 (i + 1))
 else
 some out
def split04' (it : It (List ByteArray)) (s : ByteArray) (by_ : Int) : Option (List ByteArray) :=
 it _ (fun (v_0 : ((List ByteArray) × Int × Int × Unit) × (Unit)) kn => split04_L4 s by_ v_0.1.1 v_0.1.2.1 v_0.1.2.2.1 (fun y0 y1 y2 => kn ((y0, y1, y2, ()), (())))) ((([] : List ByteArray), 0, 0, ()), (()))
def split04 : ByteArray → Int → Option (List ByteArray) := opq (fun s by_ => split04' itN s by_)
theorem split04_eq (s : ByteArray) (by_ : Int) : split04 s by_ = split04' itN s by_ := by unfold split04; rw [opq_eq]
def E37 : FEnv iseat := ⟨⟨35, [], [], [], [], [], [], [], [], [], [], [30], [], true⟩, [(4, ⟨⟨[(5, .os 5 9 .str), (6, .v (.int .i64)), (7, .v (.int .i64))], []⟩, [0, 1], [], []⟩)]⟩
theorem e37 (it : It (List ByteArray)) (s : ByteArray) (by_ : Int) : fnRun (ts := [.sl .str]) it E37 (bodyOf Tryz.f37) Tryz.f37.results.toList (encA [.str, .int .u8] (s, by_, ())) = split04' it s by_ := by kernel_rfl
def number04_L5 (s : ByteArray) (n : Int) (i : Int) (kn_ : Int → Int → Option (Int × Bool)) : Option (Int × Bool) :=
 bif (decide (i < (s.size : Int))) then
 chk (decide (0 ≤ i)) <|
 byteAt s i.toNat fun b2 =>
 bif (decide (b2 < 48)) then
 some (0, false)
 else
 chk (decide (0 ≤ i)) <|
 byteAt s i.toNat fun b3 =>
 bif (decide (b3 > 57)) then
 some (0, false)
 else
 chk (decide (0 ≤ i)) <|
 byteAt s i.toNat fun b4 =>
 kn_ (w64 ((w64 (10 * n)) + (w64 ((IntKind.u8.wrap (b4 - 48)))))) (w64 (i + 1))
 else
 some (n, true)
def number04_L5__2 (s : ByteArray) (n2 : Int) (i2 : Int) (kn_2 : Int → Int → Option (Int × Bool)) : Option (Int × Bool) :=
 bif (decide (i2 < (s.size : Int))) then
 chk (decide (0 ≤ i2)) <|
 byteAt s i2.toNat fun b5 =>
 bif (decide (b5 < 48)) then
 some (0, false)
 else
 chk (decide (0 ≤ i2)) <|
 byteAt s i2.toNat fun b6 =>
 bif (decide (b6 > 57)) then
 some (0, false)
 else
 chk (decide (0 ≤ i2)) <|
 byteAt s i2.toNat fun b7 =>
 kn_2 (w64 ((w64 (10 * n2)) + (w64 ((IntKind.u8.wrap (b7 - 48)))))) (w64 (i2 + 1))
 else
 some (n2, true)
def number04' (it : It (Int × Bool)) (s : ByteArray) : Option (Int × Bool) :=
 bif (decide ((s.size : Int) < 1)) then
 some (0, false)
 else
 bif (decide ((s.size : Int) > 9)) then
 some (0, false)
 else
 chk (decide (0 ≤ 0)) <|
 byteAt s 0 fun b =>
 bif (b == 48) then
 bif (decide ((s.size : Int) > 1)) then
 some (0, false)
 else
 it _ (fun (v_0 : (Int × Int × Unit) × (Unit)) kn => number04_L5 s v_0.1.1 v_0.1.2.1 (fun y0 y1 => kn ((y0, y1, ()), (())))) ((0, 0, ()), (()))
 else
 it _ (fun (v_0 : (Int × Int × Unit) × (Unit)) kn => number04_L5__2 s v_0.1.1 v_0.1.2.1 (fun y0 y1 => kn ((y0, y1, ()), (())))) ((0, 0, ()), (()))
def number04 : ByteArray → Option (Int × Bool) := opq (fun s => number04' itN s)
theorem number04_eq (s : ByteArray) : number04 s = number04' itN s := by unfold number04; rw [opq_eq]
def E53 : FEnv iseat := ⟨⟨49, [], [], [], [], [], [], [], [], [], [], [], [], true⟩, [(5, ⟨⟨[(4, .v (.int .i64)), (5, .v (.int .i64))], []⟩, [0], [], []⟩)]⟩
theorem e53 (it : It (Int × Bool)) (s : ByteArray) : fnRun (ts := [.int .i64, .bool]) it E53 (bodyOf Tryz.f53) Tryz.f53.results.toList (encA [.str] (s, ())) = number04' it s := by kernel_rfl
def sp53 : FnSpec iseat.toSeat := mkSpec iseat.toSeat 53 [.str] [.int .i64, .bool] true (fun a => number04 a.1) (fun a x hx h h' => fn_contract (E := E53) Tryz.func53 (by kernel_rfl) (by kernel_rfl) (by kernel_rfl) (by kernel_rfl) rfl ((e53 itN a.1).trans ((number04_eq a.1).symm.trans hx)) h h') (fun _ x => rfl)
def numbers04_L5 (words : List ByteArray) (out : List Int) (i : Int) (kn_ : (List Int) → Int → Option ((List Int) × Bool)) : Option ((List Int) × Bool) :=
 bif (decide (i < (words.length : Int))) then
 chk (decide (0 ≤ i) && decide (i < (words.length : Int))) <|
 (number04 (words.getD i.toNat ⟨#[]⟩)).bind fun r =>
 bif (!r.2) then
 some (([] : List Int), false)
 else
 chk (fitA (out.length + [r.1].length) 8) <|
 kn_ (out ++ [r.1]) (w64 (i + 1))
 else
 some (out, true)
def numbers04' (it : It ((List Int) × Bool)) (words : List ByteArray) (many : Int) : Option ((List Int) × Bool) :=
 bif ((words.length : Int) != many) then
 some (([] : List Int), false)
 else
 it _ (fun (v_0 : ((List Int) × Int × Unit) × (Unit)) kn => numbers04_L5 words v_0.1.1 v_0.1.2.1 (fun y0 y1 => kn ((y0, y1, ()), (())))) ((([] : List Int), 0, ()), (()))
def numbers04 : (List ByteArray) → Int → Option ((List Int) × Bool) := opq (fun words many => numbers04' itN words many)
theorem numbers04_eq (words : List ByteArray) (many : Int) : numbers04 words many = numbers04' itN words many := by unfold numbers04; rw [opq_eq]
def E39 : FEnv iseat := ⟨⟨35, [sp53], [], [], [], [], [], [], [], [], [], [32], [], true⟩, [(5, ⟨⟨[(6, .os 6 3 (.int .i64)), (7, .v (.int .i64))], []⟩, [0], [], []⟩)]⟩
theorem e39 (it : It ((List Int) × Bool)) (words : List ByteArray) (many : Int) : fnRun (ts := [.sl (.int .i64), .bool]) it E39 (bodyOf Tryz.f39) Tryz.f39.results.toList (encA [.sl .str, .int .i64] (words, many, ())) = numbers04' it words many := by kernel_rfl
def sp39 : FnSpec iseat.toSeat := mkSpec iseat.toSeat 39 [.sl .str, .int .i64] [.sl (.int .i64), .bool] false (fun a => numbers04 a.1 a.2.1) (fun a x hx h h' => fn_contract (E := E39) Tryz.func39 (by kernel_rfl) (by kernel_rfl) (by kernel_rfl) (by kernel_rfl) rfl ((e39 itN a.1 a.2.1).trans ((numbers04_eq a.1 a.2.1).symm.trans hx)) h h') (fun h => nomatch h)
def readR' (it : It (Convoy × Bool)) (c : Convoy) (words : List ByteArray) : Option (Convoy × Bool) :=
 chk (decide (0 ≤ 0) && decide (0 < (words.length : Int))) <|
 bif ((words.getD 0 ⟨#[]⟩).toList == (⟨#[104, 111, 108, 100]⟩ : ByteArray).toList) then
 bif (decide ((c.Trucks.length : Int) > 0)) then
 chk (decide (0 ≤ 1) && decide (1 ≤ (words.length : Int)) && decide ((words.length : Int) ≤ (words.length : Int))) <|
 (numbers04 (subL words 1 (words.length : Int)) 2).bind fun r =>
 bif r.2 then
 chk (decide (0 ≤ (w64 ((c.Trucks.length : Int) - 1))) && decide ((w64 ((c.Trucks.length : Int) - 1)) < (c.Trucks.length : Int))) <|
 chk (decide (0 ≤ 0) && decide (0 < (r.1.length : Int))) <|
 chk (decide (0 ≤ 1) && decide (1 < (r.1.length : Int))) <|
 none
 else
 some (c, r.2)
 else
 chk (decide (0 ≤ 0) && decide (0 < (words.length : Int))) <|
 bif ((words.getD 0 ⟨#[]⟩).toList == (⟨#[116, 114, 117, 99, 107]⟩ : ByteArray).toList) then
 bif (decide ((words.length : Int) > 1)) then
 chk (decide (0 ≤ 1) && decide (1 < (words.length : Int))) <|
 bif ((words.getD 1 ⟨#[]⟩).toList == (⟨#[117, 112]⟩ : ByteArray).toList) then
 chk (decide (0 ≤ 2) && decide (2 ≤ (words.length : Int)) && decide ((words.length : Int) ≤ (words.length : Int))) <|
 (numbers04 (subL words 2 (words.length : Int)) 3).bind fun r2 =>
 bif r2.2 then
 chk (decide (0 ≤ 0) && decide (0 < (r2.1.length : Int))) <|
 chk (decide (0 ≤ 1) && decide (1 < (r2.1.length : Int))) <|
 chk (decide (0 ≤ 2) && decide (2 < (r2.1.length : Int))) <|
 chk (decide (0 ≤ 1) && decide (1 < (words.length : Int))) <|
 bif ((words.getD 1 ⟨#[]⟩).toList == (⟨#[100, 111, 119, 110]⟩ : ByteArray).toList) then
 none
 else
 none
 else
 some (c, r2.2)
 else
 chk (decide (0 ≤ 1) && decide (1 < (words.length : Int))) <|
 bif ((words.getD 1 ⟨#[]⟩).toList == (⟨#[100, 111, 119, 110]⟩ : ByteArray).toList) then
 chk (decide (0 ≤ 2) && decide (2 ≤ (words.length : Int)) && decide ((words.length : Int) ≤ (words.length : Int))) <|
 (numbers04 (subL words 2 (words.length : Int)) 3).bind fun r3 =>
 bif r3.2 then
 chk (decide (0 ≤ 0) && decide (0 < (r3.1.length : Int))) <|
 chk (decide (0 ≤ 1) && decide (1 < (r3.1.length : Int))) <|
 chk (decide (0 ≤ 2) && decide (2 < (r3.1.length : Int))) <|
 chk (decide (0 ≤ 1) && decide (1 < (words.length : Int))) <|
 bif ((words.getD 1 ⟨#[]⟩).toList == (⟨#[100, 111, 119, 110]⟩ : ByteArray).toList) then
 none
 else
 none
 else
 some (c, r3.2)
 else
 some (c, false)
 else
 some (c, false)
 else
 some (c, false)
 else
 chk (decide (0 ≤ 0) && decide (0 < (words.length : Int))) <|
 bif ((words.getD 0 ⟨#[]⟩).toList == (⟨#[116, 114, 117, 99, 107]⟩ : ByteArray).toList) then
 bif (decide ((words.length : Int) > 1)) then
 chk (decide (0 ≤ 1) && decide (1 < (words.length : Int))) <|
 bif ((words.getD 1 ⟨#[]⟩).toList == (⟨#[117, 112]⟩ : ByteArray).toList) then
 chk (decide (0 ≤ 2) && decide (2 ≤ (words.length : Int)) && decide ((words.length : Int) ≤ (words.length : Int))) <|
 (numbers04 (subL words 2 (words.length : Int)) 3).bind fun r4 =>
 bif r4.2 then
 chk (decide (0 ≤ 0) && decide (0 < (r4.1.length : Int))) <|
 chk (decide (0 ≤ 1) && decide (1 < (r4.1.length : Int))) <|
 chk (decide (0 ≤ 2) && decide (2 < (r4.1.length : Int))) <|
 chk (decide (0 ≤ 1) && decide (1 < (words.length : Int))) <|
 bif ((words.getD 1 ⟨#[]⟩).toList == (⟨#[100, 111, 119, 110]⟩ : ByteArray).toList) then
 none
 else
 none
 else
 some (c, r4.2)
 else
 chk (decide (0 ≤ 1) && decide (1 < (words.length : Int))) <|
 bif ((words.getD 1 ⟨#[]⟩).toList == (⟨#[100, 111, 119, 110]⟩ : ByteArray).toList) then
 chk (decide (0 ≤ 2) && decide (2 ≤ (words.length : Int)) && decide ((words.length : Int) ≤ (words.length : Int))) <|
 (numbers04 (subL words 2 (words.length : Int)) 3).bind fun r5 =>
 bif r5.2 then
 chk (decide (0 ≤ 0) && decide (0 < (r5.1.length : Int))) <|
 chk (decide (0 ≤ 1) && decide (1 < (r5.1.length : Int))) <|
 chk (decide (0 ≤ 2) && decide (2 < (r5.1.length : Int))) <|
 chk (decide (0 ≤ 1) && decide (1 < (words.length : Int))) <|
 bif ((words.getD 1 ⟨#[]⟩).toList == (⟨#[100, 111, 119, 110]⟩ : ByteArray).toList) then
 none
 else
 none
 else
 some (c, r5.2)
 else
 some (c, false)
 else
 some (c, false)
 else
 some (c, false)
def readR : Convoy → (List ByteArray) → Option (Convoy × Bool) := opq (fun c words => readR' itN c words)
theorem readR_eq (c : Convoy) (words : List ByteArray) : readR c words = readR' itN c words := by unfold readR; rw [opq_eq]
def E38 : FEnv iseat := ⟨⟨115, [sp39], [], [], [], [], [], [], [], [], [], [54, 110], [0], true⟩, []⟩
theorem e38 (it : It (Convoy × Bool)) (c : Convoy) (words : List ByteArray) : fnRunR (bt := .Convoy) (ts := [.bool]) it E38 (bodyOf Tryz.f38) Tryz.f38.results.toList (encC .Convoy c) (encA [.sl .str] (words, ())) = readR' it c words := by kernel_rfl
end
end Go.Proofs.Tt05
namespace Go.Proofs.Tt05
open Go Go.Ab
open Go.Proofs.YtmoiedlfimodeaaGreatDoor (iseat)
set_option linter.all false
set_option maxRecDepth 100000
noncomputable section
def stop04_L2 (t : Truck) (c : Convoy) (gone : Int) (minute : Int) (i : Int) (kn_ : Int → Option Int) : Option Int :=
 bif (decide (i < (t.Holds.length : Int))) then
 chk (decide (0 ≤ i) && decide (i < (t.Holds.length : Int))) <|
 (along04 c t (t.Holds.getD i.toNat dfltHold)).bind fun r =>
 bif (decide (r ≥ gone)) then
 chk (decide (0 ≤ i) && decide (i < (t.Holds.length : Int))) <|
 bif (decide ((t.Holds.getD i.toNat dfltHold).Until > minute)) then
 chk (decide (0 ≤ i) && decide (i < (t.Holds.length : Int))) <|
 (along04 c t (t.Holds.getD i.toNat dfltHold)).bind fun r2 =>
 some r2
 else
 kn_ (w64 (i + 1))
 else
 kn_ (w64 (i + 1))
 else
 some c.Length
def stop04' (it : It Int) (c : Convoy) (t : Truck) (gone : Int) (minute : Int) : Option Int :=
 it _ (fun (v_0 : (Unit × Unit × Int × Unit) × (Unit)) kn => stop04_L2 t c gone minute v_0.1.2.2.1 (fun y0 => kn (((), (), y0, ()), (())))) (((), (), 0, ()), (()))
def stop04 : Convoy → Truck → Int → Int → Option Int := opq (fun c t gone minute => stop04' itN c t gone minute)
theorem stop04_eq (c : Convoy) (t : Truck) (gone : Int) (minute : Int) : stop04 c t gone minute = stop04' itN c t gone minute := by unfold stop04; rw [opq_eq]
def E88 : FEnv iseat := ⟨⟨47, [sp68], [], [], [], [], [], [], [], [], [], [], [], true⟩, [(2, ⟨⟨[(4, .bx 4 0), (5, .bx 5 0), (9, .v (.int .i64))], []⟩, [2, 3], [4, 5], []⟩)]⟩
theorem e88 (it : It Int) (c : Convoy) (t : Truck) (gone : Int) (minute : Int) : fnRun (ts := [.int .i64]) it E88 (bodyOf Tryz.f88) Tryz.f88.results.toList (encA [.Convoy, .Truck, .int .i64, .int .i64] (c, t, gone, minute, ())) = stop04' it c t gone minute := by kernel_rfl
def sp88 : FnSpec iseat.toSeat := mkSpec iseat.toSeat 88 [.Convoy, .Truck, .int .i64, .int .i64] [.int .i64] true (fun a => stop04 a.1 a.2.1 a.2.2.1 a.2.2.2.1) (fun a x hx h h' => fn_contract (E := E88) Tryz.func88 (by kernel_rfl) (by kernel_rfl) (by kernel_rfl) (by kernel_rfl) rfl ((e88 itN a.1 a.2.1 a.2.2.1 a.2.2.2.1).trans ((stop04_eq a.1 a.2.1 a.2.2.1 a.2.2.2.1).symm.trans hx)) h h') (fun _ x => rfl)
def Next04' (it : It Int) (c : Convoy) (t : Truck) (gone : Int) (minute : Int) (metres : Int) : Option Int :=
 (stop04 c t gone minute).bind fun r =>
 some (min (w64 (gone + metres)) r)
def Next04 : Convoy → Truck → Int → Int → Int → Option Int := opq (fun c t gone minute metres => Next04' itN c t gone minute metres)
theorem Next04_eq (c : Convoy) (t : Truck) (gone : Int) (minute : Int) (metres : Int) : Next04 c t gone minute metres = Next04' itN c t gone minute metres := by unfold Next04; rw [opq_eq]
def E73 : FEnv iseat := ⟨⟨20, [sp88], [], [], [], [], [], [], [], [], [], [], [], true⟩, []⟩
theorem e73 (it : It Int) (c : Convoy) (t : Truck) (gone : Int) (minute : Int) (metres : Int) : fnRun (ts := [.int .i64]) it E73 (bodyOf Tryz.f73) Tryz.f73.results.toList (encA [.Convoy, .Truck, .int .i64, .int .i64, .int .i64] (c, t, gone, minute, metres, ())) = Next04' it c t gone minute metres := by kernel_rfl
def sp73 : FnSpec iseat.toSeat := mkSpec iseat.toSeat 73 [.Convoy, .Truck, .int .i64, .int .i64, .int .i64] [.int .i64] true (fun a => Next04 a.1 a.2.1 a.2.2.1 a.2.2.2.1 a.2.2.2.2.1) (fun a x hx h h' => fn_contract (E := E73) Tryz.func73 (by kernel_rfl) (by kernel_rfl) (by kernel_rfl) (by kernel_rfl) rfl ((e73 itN a.1 a.2.1 a.2.2.1 a.2.2.2.1 a.2.2.2.2.1).trans ((Next04_eq a.1 a.2.1 a.2.2.1 a.2.2.2.1 a.2.2.2.2.1).symm.trans hx)) h h') (fun _ x => rfl)
def free04' (it : It Truck) (t : Truck) (fails : Bool) : Option Truck :=
 bif fails then
 some (⟨t.Way, t.Start, t.Pace, []⟩ : Truck)
 else
 some t
def free04 : Truck → Bool → Option Truck := opq (fun t fails => free04' itN t fails)
theorem free04_eq (t : Truck) (fails : Bool) : free04 t fails = free04' itN t fails := by unfold free04; rw [opq_eq]
def E55 : FEnv iseat := ⟨⟨8, [], [], [], [], [], [], [], [], [], [], [], [], true⟩, []⟩
theorem e55 (it : It Truck) (t : Truck) (fails : Bool) : fnRun (ts := [.Truck]) it E55 (bodyOf Tryz.f55) Tryz.f55.results.toList (encA [.Truck, .bool] (t, fails, ())) = free04' it t fails := by kernel_rfl
def sp55 : FnSpec iseat.toSeat := mkSpec iseat.toSeat 55 [.Truck, .bool] [.Truck] false (fun a => free04 a.1 a.2.1) (fun a x hx h h' => fn_contract (E := E55) Tryz.func55 (by kernel_rfl) (by kernel_rfl) (by kernel_rfl) (by kernel_rfl) rfl ((e55 itN a.1 a.2.1).trans ((free04_eq a.1 a.2.1).symm.trans hx)) h h') (fun h => nomatch h)
def arrives_L4 (t : Truck) (c : Convoy) (m : Int) (out_Lo : Int) (out_Hi : Int) (x_Lo : Int) (x_Hi : Int) (kn_ : Int → Int → Int → Int → Int → Option Span) : Option Span :=
 bif (decide (out_Hi < 0)) then
 bif (decide (m > t.Start)) then
 (Next04 c t x_Lo (w64 (m - 1)) t.Pace.Lo).bind fun r =>
 (Next04 c t x_Hi (w64 (m - 1)) t.Pace.Hi).bind fun r2 =>
 bif (r2 == c.Length) then
 bif (decide (out_Lo < 0)) then
 bif (r == c.Length) then
 kn_ (w64 (m + 1)) m m r r2
 else
 kn_ (w64 (m + 1)) m out_Hi r r2
 else
 bif (r == c.Length) then
 kn_ (w64 (m + 1)) out_Lo m r r2
 else
 kn_ (w64 (m + 1)) out_Lo out_Hi r r2
 else
 bif (r == c.Length) then
 kn_ (w64 (m + 1)) out_Lo m r r2
 else
 kn_ (w64 (m + 1)) out_Lo out_Hi r r2
 else
 bif (x_Hi == c.Length) then
 bif (decide (out_Lo < 0)) then
 bif (x_Lo == c.Length) then
 kn_ (w64 (m + 1)) m m x_Lo x_Hi
 else
 kn_ (w64 (m + 1)) m out_Hi x_Lo x_Hi
 else
 bif (x_Lo == c.Length) then
 kn_ (w64 (m + 1)) out_Lo m x_Lo x_Hi
 else
 kn_ (w64 (m + 1)) out_Lo out_Hi x_Lo x_Hi
 else
 bif (x_Lo == c.Length) then
 kn_ (w64 (m + 1)) out_Lo m x_Lo x_Hi
 else
 kn_ (w64 (m + 1)) out_Lo out_Hi x_Lo x_Hi
 else
 some (⟨out_Lo, out_Hi⟩ : Span)
def arrives' (it : It Span) (c : Convoy) (t : Truck) : Option Span :=
 it _ (fun (v_0 : (Unit × Unit × Unit × Unit × Unit × Int × Unit) × ((Int × Int × Unit) × (Int × Int × Unit) × Unit)) kn => arrives_L4 t c v_0.1.2.2.2.2.2.1 v_0.2.1.1 v_0.2.1.2.1 v_0.2.2.1.1 v_0.2.2.1.2.1 (fun y0 y1 y2 y3 y4 => kn (((), (), (), (), (), y0, ()), ((y1, y2, ()), (y3, y4, ()), ())))) (((), (), (), (), (), t.Start, ()), (((-1), (-1), ()), (0, 0, ()), ()))
def arrives : Convoy → Truck → Option Span := opq (fun c t => arrives' itN c t)
theorem arrives_eq (c : Convoy) (t : Truck) : arrives c t = arrives' itN c t := by unfold arrives; rw [opq_eq]
def E54 : FEnv iseat := ⟨⟨61, [sp73], [], [], [], [], [], [], [], [], [], [], [], true⟩, [(4, ⟨⟨[(2, .bx 2 0), (3, .bx 3 0), (4, .bx 4 0), (5, .bx 5 0), (6, .bx 6 0), (7, .v (.int .i64))], [(5, [.v (.int .i64), .v (.int .i64)]), (6, [.v (.int .i64), .v (.int .i64)])]⟩, [], [2, 3, 4], []⟩)]⟩
theorem e54 (it : It Span) (c : Convoy) (t : Truck) : fnRun (ts := [.Span]) it E54 (bodyOf Tryz.f54) Tryz.f54.results.toList (encA [.Convoy, .Truck] (c, t, ())) = arrives' it c t := by kernel_rfl
def sp54 : FnSpec iseat.toSeat := mkSpec iseat.toSeat 54 [.Convoy, .Truck] [.Span] true (fun a => arrives a.1 a.2.1) (fun a x hx h h' => fn_contract (E := E54) Tryz.func54 (by kernel_rfl) (by kernel_rfl) (by kernel_rfl) (by kernel_rfl) rfl ((e54 itN a.1 a.2.1).trans ((arrives_eq a.1 a.2.1).symm.trans hx)) h h') (fun _ x => rfl)
def may_L3 (keep : List Int) (minute : Int) (fail : List Int) (fails : Int) (n : Int) (i : Int) (kn_ : Int → Int → Option Bool) : Option Bool :=
 bif (decide (i < (keep.length : Int))) then
 chk (decide (0 ≤ i) && decide (i < (keep.length : Int))) <|
 bif (decide ((keep.getD i.toNat 0) ≤ minute)) then
 kn_ n (w64 (i + 1))
 else
 chk (decide (0 ≤ i) && decide (i < (fail.length : Int))) <|
 bif (decide ((fail.getD i.toNat 0) > minute)) then
 some false
 else
 kn_ (w64 (n + 1)) (w64 (i + 1))
 else
 some (decide (n ≤ fails))
def may' (it : It Bool) (keep : List Int) (fail : List Int) (fails : Int) (minute : Int) : Option Bool :=
 it _ (fun (v_0 : (Int × Int × Unit) × (Unit)) kn => may_L3 keep minute fail fails v_0.1.1 v_0.1.2.1 (fun y0 y1 => kn ((y0, y1, ()), (())))) ((0, 0, ()), (()))
def may : (List Int) → (List Int) → Int → Int → Option Bool := opq (fun keep fail fails minute => may' itN keep fail fails minute)
theorem may_eq (keep : List Int) (fail : List Int) (fails : Int) (minute : Int) : may keep fail fails minute = may' itN keep fail fails minute := by unfold may; rw [opq_eq]
def E56 : FEnv iseat := ⟨⟨34, [], [], [], [], [], [], [], [], [], [], [], [], true⟩, [(3, ⟨⟨[(9, .v (.int .i64)), (10, .v (.int .i64))], []⟩, [0, 1, 2, 3], [], []⟩)]⟩
theorem e56 (it : It Bool) (keep : List Int) (fail : List Int) (fails : Int) (minute : Int) : fnRun (ts := [.bool]) it E56 (bodyOf Tryz.f56) Tryz.f56.results.toList (encA [.sl (.int .i64), .sl (.int .i64), .int .i64, .int .i64] (keep, fail, fails, minute, ())) = may' it keep fail fails minute := by kernel_rfl
def sp56 : FnSpec iseat.toSeat := mkSpec iseat.toSeat 56 [.sl (.int .i64), .sl (.int .i64), .int .i64, .int .i64] [.bool] true (fun a => may a.1 a.2.1 a.2.2.1 a.2.2.2.1) (fun a x hx h h' => fn_contract (E := E56) Tryz.func56 (by kernel_rfl) (by kernel_rfl) (by kernel_rfl) (by kernel_rfl) rfl ((e56 itN a.1 a.2.1 a.2.2.1 a.2.2.2.1).trans ((may_eq a.1 a.2.1 a.2.2.1 a.2.2.2.1).symm.trans hx)) h h') (fun _ x => rfl)
def off04_L9 (keep : List Int) (fail : List Int) (c : Convoy) (out_Lo2 : Int) (out_Hi2 : Int) (kn_2 : Int → Int → Option Span) : Option Span :=
 (may keep fail c.Fails out_Lo2).bind fun r4 =>
 bif (!r4) then
 kn_2 (w64 (out_Lo2 + 1)) out_Hi2
 else
 some (⟨out_Lo2, out_Hi2⟩ : Span)
def off04_L4 (it : It Span) (c : Convoy) (keep : List Int) (fail : List Int) (i : Int) (out_Lo : Int) (out_Hi : Int) (kn_ : (List Int) → (List Int) → Int → Int → Int → Option Span) : Option Span :=
 bif (decide (i < (c.Trucks.length : Int))) then
 chk (decide (0 ≤ i) && decide (i < (c.Trucks.length : Int))) <|
 (arrives c (c.Trucks.getD i.toNat dfltTruck)).bind fun r =>
 chk (decide (0 ≤ i) && decide (i < (c.Trucks.length : Int))) <|
 (free04 (c.Trucks.getD i.toNat dfltTruck) true).bind fun r2 =>
 (arrives c r2).bind fun r3 =>
 chk (fitA (keep.length + [r.Lo].length) 8) <|
 chk (fitA (fail.length + [r3.Lo].length) 8) <|
 kn_ (keep ++ [r.Lo]) (fail ++ [r3.Lo]) (w64 (i + 1)) out_Lo (max out_Hi r.Hi)
 else
 it _ (fun (v_0 : (Unit × Unit × Unit × Unit × Unit × Unit) × ((Int × Int × Unit) × Unit)) kn => off04_L9 keep fail c v_0.2.1.1 v_0.2.1.2.1 (fun y0 y1 => kn (((), (), (), (), (), ()), ((y0, y1, ()), ())))) (((), (), (), (), (), ()), ((out_Lo, out_Hi, ()), ()))
def off04' (it : It Span) (c : Convoy) : Option Span :=
 it _ (fun (v_0 : (Unit × Unit × Unit × (List Int) × (List Int) × Int × Unit) × ((Int × Int × Unit) × Unit)) kn => off04_L4 it c v_0.1.2.2.2.1 v_0.1.2.2.2.2.1 v_0.1.2.2.2.2.2.1 v_0.2.1.1 v_0.2.1.2.1 (fun y0 y1 y2 y3 y4 => kn (((), (), (), y0, y1, y2, ()), ((y3, y4, ()), ())))) (((), (), (), ([] : List Int), ([] : List Int), 0, ()), ((0, 0, ()), ()))
def off04 : Convoy → Option Span := opq (fun c => off04' itN c)
theorem off04_eq (c : Convoy) : off04 c = off04' itN c := by unfold off04; rw [opq_eq]
def E40 : FEnv iseat := ⟨⟨60, [sp54, sp55, sp56], [], [], [], [], [], [], [], [], [], [34, 39], [], true⟩, [(4, ⟨⟨[(1, .bx 1 0), (2, .bx 2 0), (3, .bx 3 0), (4, .os 4 3 (.int .i64)), (5, .os 5 3 (.int .i64)), (6, .v (.int .i64))], [(3, [.v (.int .i64), .v (.int .i64)])]⟩, [], [1, 2], []⟩), (9, ⟨⟨[(1, .bx 1 0), (2, .bx 2 0), (3, .bx 3 0), (4, .osr 4), (5, .osr 5)], [(3, [.v (.int .i64), .v (.int .i64)])]⟩, [], [1, 2, 4, 5], []⟩)]⟩
theorem e40 (it : It Span) (c : Convoy) : fnRun (ts := [.Span]) it E40 (bodyOf Tryz.f40) Tryz.f40.results.toList (encA [.Convoy] (c, ())) = off04' it c := by kernel_rfl
def sp40 : FnSpec iseat.toSeat := mkSpec iseat.toSeat 40 [.Convoy] [.Span] true (fun a => off04 a.1) (fun a x hx h h' => fn_contract (E := E40) Tryz.func40 (by kernel_rfl) (by kernel_rfl) (by kernel_rfl) (by kernel_rfl) rfl ((e40 itN a.1).trans ((off04_eq a.1).symm.trans hx)) h h') (fun _ x => rfl)
def Off04' (it : It (Span × Int)) (c : Convoy) : Option (Span × Int) :=
 (rCheck c).bind fun r =>
 bif (r != 0) then
 some ((⟨0, 0⟩ : Span), r)
 else
 (off04 c).bind fun r2 =>
 some (r2, 0)
def Off04 : Convoy → Option (Span × Int) := opq (fun c => Off04' itN c)
theorem Off04_eq (c : Convoy) : Off04 c = Off04' itN c := by unfold Off04; rw [opq_eq]
def E14 : FEnv iseat := ⟨⟨13, [sp32, sp40], [], [], [], [], [], [], [], [], [], [], [], true⟩, []⟩
theorem e14 (it : It (Span × Int)) (c : Convoy) : fnRun (ts := [.Span, .int .i64]) it E14 (bodyOf Tryz.f14) Tryz.f14.results.toList (encA [.Convoy] (c, ())) = Off04' it c := by kernel_rfl
def sp14 : FnSpec iseat.toSeat := mkSpec iseat.toSeat 14 [.Convoy] [.Span, .int .i64] true (fun a => Off04 a.1) (fun a x hx h h' => fn_contract (E := E14) Tryz.func14 (by kernel_rfl) (by kernel_rfl) (by kernel_rfl) (by kernel_rfl) rfl ((e14 itN a.1).trans ((Off04_eq a.1).symm.trans hx)) h h') (fun _ x => rfl)
def big_L4 (c : Convoy) (i : Int) (kn_ : Int → Option Bool) : Option Bool :=
 bif (decide (i < (c.Trucks.length : Int))) then
 chk (decide (0 ≤ i) && decide (i < (c.Trucks.length : Int))) <|
 bif (decide ((((c.Trucks.getD i.toNat dfltTruck).Holds).length : Int) > 12)) then
 some true
 else
 kn_ (w64 (i + 1))
 else
 (Off04 c).bind fun r =>
 bif (r.2 == 0) then
 some (decide (r.1.Hi > 1500))
 else
 some false
def big_L4__2 (c : Convoy) (i2 : Int) (kn_2 : Int → Option Bool) : Option Bool :=
 bif (decide (i2 < (c.Trucks.length : Int))) then
 chk (decide (0 ≤ i2) && decide (i2 < (c.Trucks.length : Int))) <|
 bif (decide ((((c.Trucks.getD i2.toNat dfltTruck).Holds).length : Int) > 12)) then
 some true
 else
 kn_2 (w64 (i2 + 1))
 else
 (Off04 c).bind fun r2 =>
 bif (r2.2 == 0) then
 some (decide (r2.1.Hi > 1500))
 else
 some false
def big' (it : It Bool) (c : Convoy) : Option Bool :=
 bif (decide ((c.Trucks.length : Int) > 5)) then
 bif (decide ((c.Trucks.length : Int) ≤ 20)) then
 some true
 else
 bif (decide ((c.Trucks.length : Int) > 25)) then
 some true
 else
 it _ (fun (v_0 : (Unit × Int × Unit) × (Unit)) kn => big_L4 c v_0.1.2.1 (fun y0 => kn (((), y0, ()), (())))) (((), 0, ()), (()))
 else
 bif (decide ((c.Trucks.length : Int) > 25)) then
 some true
 else
 it _ (fun (v_0 : (Unit × Int × Unit) × (Unit)) kn => big_L4__2 c v_0.1.2.1 (fun y0 => kn (((), y0, ()), (())))) (((), 0, ()), (()))
def big : Convoy → Option Bool := opq (fun c => big' itN c)
theorem big_eq (c : Convoy) : big c = big' itN c := by unfold big; rw [opq_eq]
def E4 : FEnv iseat := ⟨⟨49, [sp14], [], [], [], [], [], [], [], [], [], [], [], true⟩, [(4, ⟨⟨[(1, .bx 1 0), (3, .v (.int .i64))], []⟩, [], [1], []⟩)]⟩
theorem e4 (it : It Bool) (c : Convoy) : fnRun (ts := [.bool]) it E4 (bodyOf Tryz.f4) Tryz.f4.results.toList (encA [.Convoy] (c, ())) = big' it c := by kernel_rfl
def sp4 : FnSpec iseat.toSeat := mkSpec iseat.toSeat 4 [.Convoy] [.bool] true (fun a => big a.1) (fun a x hx h h' => fn_contract (E := E4) Tryz.func4 (by kernel_rfl) (by kernel_rfl) (by kernel_rfl) (by kernel_rfl) rfl ((e4 itN a.1).trans ((big_eq a.1).symm.trans hx)) h h') (fun _ x => rfl)
end
end Go.Proofs.Tt05
namespace Go.Proofs.Tt05
open Go Go.Ab
open Go.Proofs.YtmoiedlfimodeaaGreatDoor (iseat)
set_option linter.all false
set_option maxRecDepth 100000
noncomputable section
def next' (it : It (Seed × Int)) (s : Seed) : Option (Seed × Int) :=
 some ((⟨(IntKind.u64.wrap (s.word + 11400714819323198485))⟩ : Seed), (xorI .u64 (IntKind.u64.wrap ((xorI .u64 (IntKind.u64.wrap ((xorI .u64 (IntKind.u64.wrap (s.word + 11400714819323198485)) (shrI .u64 (IntKind.u64.wrap (s.word + 11400714819323198485)) 30)) * 13787848793156543929)) (shrI .u64 (IntKind.u64.wrap ((xorI .u64 (IntKind.u64.wrap (s.word + 11400714819323198485)) (shrI .u64 (IntKind.u64.wrap (s.word + 11400714819323198485)) 30)) * 13787848793156543929)) 27)) * 10723151780598845931)) (shrI .u64 (IntKind.u64.wrap ((xorI .u64 (IntKind.u64.wrap ((xorI .u64 (IntKind.u64.wrap (s.word + 11400714819323198485)) (shrI .u64 (IntKind.u64.wrap (s.word + 11400714819323198485)) 30)) * 13787848793156543929)) (shrI .u64 (IntKind.u64.wrap ((xorI .u64 (IntKind.u64.wrap (s.word + 11400714819323198485)) (shrI .u64 (IntKind.u64.wrap (s.word + 11400714819323198485)) 30)) * 13787848793156543929)) 27)) * 10723151780598845931)) 31)))
def next : Seed → Option (Seed × Int) := opq (fun s => next' itN s)
theorem next_eq (s : Seed) : next s = next' itN s := by unfold next; rw [opq_eq]
def E24 : FEnv iseat := ⟨⟨30, [], [], [], [], [], [], [], [], [], [], [], [0], true⟩, []⟩
theorem e24 (it : It (Seed × Int)) (s : Seed) : fnRunR (bt := .Seed) (ts := [.int .u64]) it E24 (bodyOf Tryz.f24) Tryz.f24.results.toList (encC .Seed s) (encA [] (())) = next' it s := by kernel_rfl
def sp24 : FnSpecR iseat.toSeat := mkSpecR iseat.toSeat 24 .Seed [] [.int .u64] (fun b a => next b ) (fun b a y x hx h => fn_contractR (E := E24) Tryz.func24 (by kernel_rfl) (by kernel_rfl) (by kernel_rfl) (by kernel_rfl) rfl ((e24 itN b ).trans ((next_eq b ).symm.trans hx)) h)
def Below' (it : It (Seed × Int)) (s : Seed) (n : Int) : Option (Seed × Int) :=
 bif (decide (n < 2)) then
 some (s, 0)
 else
 (next s).bind fun r =>
 chk ((IntKind.u64.wrap (n)) != 0) <|
 some (r.1, (w64 (((shrI .u64 r.2 1).tmod (IntKind.u64.wrap (n))))))
def Below : Seed → Int → Option (Seed × Int) := opq (fun s n => Below' itN s n)
theorem Below_eq (s : Seed) (n : Int) : Below s n = Below' itN s n := by unfold Below; rw [opq_eq]
def E21 : FEnv iseat := ⟨⟨14, [], [sp24], [], [], [], [], [], [], [], [], [], [0], true⟩, []⟩
theorem e21 (it : It (Seed × Int)) (s : Seed) (n : Int) : fnRunR (bt := .Seed) (ts := [.int .i64]) it E21 (bodyOf Tryz.f21) Tryz.f21.results.toList (encC .Seed s) (encA [.int .i64] (n, ())) = Below' it s n := by kernel_rfl
def sp21 : FnSpecR iseat.toSeat := mkSpecR iseat.toSeat 21 .Seed [.int .i64] [.int .i64] (fun b a => Below b a.1) (fun b a y x hx h => fn_contractR (E := E21) Tryz.func21 (by kernel_rfl) (by kernel_rfl) (by kernel_rfl) (by kernel_rfl) rfl ((e21 itN b a.1).trans ((Below_eq b a.1).symm.trans hx)) h)
def From' (it : It (Seed × Int)) (s : Seed) (low : Int) (high : Int) : Option (Seed × Int) :=
 (Below s (w64 ((w64 (high - low)) + 1))).bind fun r =>
 some (r.1, (w64 (low + r.2)))
def From : Seed → Int → Int → Option (Seed × Int) := opq (fun s low high => From' itN s low high)
theorem From_eq (s : Seed) (low : Int) (high : Int) : From s low high = From' itN s low high := by unfold From; rw [opq_eq]
def E20 : FEnv iseat := ⟨⟨15, [], [sp21], [], [], [], [], [], [], [], [], [], [0], true⟩, []⟩
theorem e20 (it : It (Seed × Int)) (s : Seed) (low : Int) (high : Int) : fnRunR (bt := .Seed) (ts := [.int .i64]) it E20 (bodyOf Tryz.f20) Tryz.f20.results.toList (encC .Seed s) (encA [.int .i64, .int .i64] (low, high, ())) = From' it s low high := by kernel_rfl
def sp20 : FnSpecR iseat.toSeat := mkSpecR iseat.toSeat 20 .Seed [.int .i64, .int .i64] [.int .i64] (fun b a => From b a.1 a.2.1) (fun b a y x hx h => fn_contractR (E := E20) Tryz.func20 (by kernel_rfl) (by kernel_rfl) (by kernel_rfl) (by kernel_rfl) rfl ((e20 itN b a.1 a.2.1).trans ((From_eq b a.1 a.2.1).symm.trans hx)) h)
def Of' (it : It (Seed × Int)) (s : Seed) (l : List Int) : Option (Seed × Int) :=
 bif ((l.length : Int) == 0) then
 some (s, 0)
 else
 (Below s (l.length : Int)).bind fun r =>
 chk (decide (0 ≤ r.2) && decide (r.2 < (l.length : Int))) <|
 some (r.1, (l.getD r.2.toNat 0))
def Of : Seed → (List Int) → Option (Seed × Int) := opq (fun s l => Of' itN s l)
theorem Of_eq (s : Seed) (l : List Int) : Of s l = Of' itN s l := by unfold Of; rw [opq_eq]
def E44 : FEnv iseat := ⟨⟨15, [], [sp21], [], [], [], [], [], [], [], [], [], [0], true⟩, []⟩
theorem e44 (it : It (Seed × Int)) (s : Seed) (l : List Int) : fnRunR (bt := .Seed) (ts := [.int .i64]) it E44 (bodyOf Tryz.f44) Tryz.f44.results.toList (encC .Seed s) (encA [.sl (.int .i64)] (l, ())) = Of' it s l := by kernel_rfl
def sp44 : FnSpecR iseat.toSeat := mkSpecR iseat.toSeat 44 .Seed [.sl (.int .i64)] [.int .i64] (fun b a => Of b a.1) (fun b a y x hx h => fn_contractR (E := E44) Tryz.func44 (by kernel_rfl) (by kernel_rfl) (by kernel_rfl) (by kernel_rfl) rfl ((e44 itN b a.1).trans ((Of_eq b a.1).symm.trans hx)) h)
def TruckOf_L6 (length : Int) (at_ : Int) (i : Int) (s_word : Int) (t_Way : Int) (t_Start : Int) (t_Pace_Lo : Int) (t_Pace_Hi : Int) (t_Holds : List Hold) (kn_ : Int → Int → Int → Int → Int → Int → Int → (List Hold) → Option (Seed × Truck)) : Option (Seed × Truck) :=
 bif (decide (i > 0)) then
 bif (decide (at_ < (w64 (length - 1)))) then
 (From (⟨s_word⟩ : Seed) (w64 (at_ + 1)) (w64 (length - 1))).bind fun r9 =>
 (Below r9.1 150).bind fun r10 =>
 bif (t_Way == 2) then
 chk (fitA (t_Holds.length + ([(⟨(w64 (length - r9.2)), r10.2⟩ : Hold)] : List Hold).length) 16) <|
 kn_ r9.2 (w64 (i - 1)) r10.1.word t_Way t_Start t_Pace_Lo t_Pace_Hi (t_Holds ++ ([(⟨(w64 (length - r9.2)), r10.2⟩ : Hold)] : List Hold))
 else
 chk (fitA (t_Holds.length + ([(⟨r9.2, r10.2⟩ : Hold)] : List Hold).length) 16) <|
 kn_ r9.2 (w64 (i - 1)) r10.1.word t_Way t_Start t_Pace_Lo t_Pace_Hi (t_Holds ++ ([(⟨r9.2, r10.2⟩ : Hold)] : List Hold))
 else
 some ((⟨s_word⟩ : Seed), (⟨t_Way, t_Start, ⟨t_Pace_Lo, t_Pace_Hi⟩, t_Holds⟩ : Truck))
 else
 some ((⟨s_word⟩ : Seed), (⟨t_Way, t_Start, ⟨t_Pace_Lo, t_Pace_Hi⟩, t_Holds⟩ : Truck))
def TruckOf' (it : It (Seed × Truck)) (s : Seed) (length : Int) (holds : Int) : Option (Seed × Truck) :=
 (From s 1 2).bind fun r =>
 (Below r.1 60).bind fun r2 =>
 (Below r2.1 200).bind fun r3 =>
 (Of r3.1 [0, r2.2, r3.2]).bind fun r4 =>
 (From r4.1 5 25).bind fun r5 =>
 (Below r5.1 8).bind fun r6 =>
 (Of r6.1 [0, r6.2]).bind fun r7 =>
 (Below r7.1 (w64 (holds + 1))).bind fun r8 =>
 it _ (fun (v_0 : (Unit × Unit × Unit × Int × Int × Unit) × ((Int × Unit) × (Int × Int × Int × Int × (List Hold) × Unit) × Unit)) kn => TruckOf_L6 length v_0.1.2.2.2.1 v_0.1.2.2.2.2.1 v_0.2.1.1 v_0.2.2.1.1 v_0.2.2.1.2.1 v_0.2.2.1.2.2.1 v_0.2.2.1.2.2.2.1 v_0.2.2.1.2.2.2.2.1 (fun y0 y1 y2 y3 y4 y5 y6 y7 => kn (((), (), (), y0, y1, ()), ((y2, ()), (y3, y4, y5, y6, y7, ()), ())))) (((), (), (), 0, r8.2, ()), ((r8.1.word, ()), (r.2, r4.2, r5.2, (w64 (r5.2 + r7.2)), [], ()), ()))
def TruckOf : Seed → Int → Int → Option (Seed × Truck) := opq (fun s length holds => TruckOf' itN s length holds)
theorem TruckOf_eq (s : Seed) (length : Int) (holds : Int) : TruckOf s length holds = TruckOf' itN s length holds := by unfold TruckOf; rw [opq_eq]
def E22 : FEnv iseat := ⟨⟨74, [], [sp20, sp21, sp44], [], [], [], [], [], [], [], [], [18, 31, 70], [0], true⟩, [(6, ⟨⟨[(0, .bx 0 0), (6, .bx 6 0), (7, .bx 7 0), (8, .v (.int .i64)), (9, .v (.int .i64))], [(0, [.v (.int .u64)]), (7, [.v (.int .i64), .v (.int .i64), .v (.int .i64), .v (.int .i64), .os 71 76 .Hold])]⟩, [1], [6], []⟩)]⟩
theorem e22 (it : It (Seed × Truck)) (s : Seed) (length : Int) (holds : Int) : fnRunR (bt := .Seed) (ts := [.Truck]) it E22 (bodyOf Tryz.f22) Tryz.f22.results.toList (encC .Seed s) (encA [.int .i64, .int .i64] (length, holds, ())) = TruckOf' it s length holds := by kernel_rfl
def sp22 : FnSpecR iseat.toSeat := mkSpecR iseat.toSeat 22 .Seed [.int .i64, .int .i64] [.Truck] (fun b a => TruckOf b a.1 a.2.1) (fun b a y x hx h => fn_contractR (E := E22) Tryz.func22 (by kernel_rfl) (by kernel_rfl) (by kernel_rfl) (by kernel_rfl) rfl ((e22 itN b a.1 a.2.1).trans ((TruckOf_eq b a.1 a.2.1).symm.trans hx)) h)
def wide_L3 (s : Seed) (i : Int) (c_Length : Int) (c_Gap : Int) (c_Fails : Int) (c_Trucks : List Truck) (kn_ : Int → Int → Int → Int → (List Truck) → Option (Seed × Convoy)) : Option (Seed × Convoy) :=
 bif (decide (i < (c_Trucks.length : Int))) then
 chk (decide (0 ≤ i) && decide (i < (c_Trucks.length : Int))) <|
 kn_ (w64 (i + 1)) c_Length (max c_Gap (w64 (2 * (c_Trucks.getD i.toNat dfltTruck).Pace.Hi))) c_Fails c_Trucks
 else
 (Below s 30).bind fun r =>
 (Of r.1 [0, r.2]).bind fun r2 =>
 some (r2.1, (⟨c_Length, (w64 (c_Gap + r2.2)), c_Fails, c_Trucks⟩ : Convoy))
def wide' (it : It (Seed × Convoy)) (s : Seed) (c : Convoy) : Option (Seed × Convoy) :=
 it _ (fun (v_0 : (Unit × Unit × Unit × Int × Unit) × ((Int × Int × Int × (List Truck) × Unit) × Unit)) kn => wide_L3 s v_0.1.2.2.2.1 v_0.2.1.1 v_0.2.1.2.1 v_0.2.1.2.2.1 v_0.2.1.2.2.2.1 (fun y0 y1 y2 y3 y4 => kn (((), (), (), y0, ()), ((y1, y2, y3, y4, ()), ())))) (((), (), (), 0, ()), ((c.Length, 1, c.Fails, c.Trucks, ()), ()))
def wide : Seed → Convoy → Option (Seed × Convoy) := opq (fun s c => wide' itN s c)
theorem wide_eq (s : Seed) (c : Convoy) : wide s c = wide' itN s c := by unfold wide; rw [opq_eq]
def E23 : FEnv iseat := ⟨⟨36, [], [sp21, sp44], [], [], [], [], [], [], [], [], [31], [0], true⟩, [(3, ⟨⟨[(0, .bx 0 0), (3, .bx 3 0), (4, .bx 4 0), (5, .v (.int .i64))], [(3, [.v (.int .i64), .v (.int .i64), .v (.int .i64), .v (.sl .Truck)])]⟩, [], [0, 4], []⟩)]⟩
theorem e23 (it : It (Seed × Convoy)) (s : Seed) (c : Convoy) : fnRunR (bt := .Seed) (ts := [.Convoy]) it E23 (bodyOf Tryz.f23) Tryz.f23.results.toList (encC .Seed s) (encA [.Convoy] (c, ())) = wide' it s c := by kernel_rfl
def sp23 : FnSpecR iseat.toSeat := mkSpecR iseat.toSeat 23 .Seed [.Convoy] [.Convoy] (fun b a => wide b a.1) (fun b a y x hx h => fn_contractR (E := E23) Tryz.func23 (by kernel_rfl) (by kernel_rfl) (by kernel_rfl) (by kernel_rfl) rfl ((e23 itN b a.1).trans ((wide_eq b a.1).symm.trans hx)) h)
def ConvoyOf_L3 (i : Int) (s_word : Int) (c_Length : Int) (c_Gap : Int) (c_Fails : Int) (c_Trucks : List Truck) (kn_ : Int → Int → Int → Int → Int → (List Truck) → Option (Seed × Convoy)) : Option (Seed × Convoy) :=
 bif (decide (i > 0)) then
 (TruckOf (⟨s_word⟩ : Seed) c_Length 3).bind fun r4 =>
 chk (fitA (c_Trucks.length + ([r4.2] : List Truck).length) 56) <|
 kn_ (w64 (i - 1)) r4.1.word c_Length c_Gap c_Fails (c_Trucks ++ ([r4.2] : List Truck))
 else
 (wide (⟨s_word⟩ : Seed) (⟨c_Length, c_Gap, c_Fails, c_Trucks⟩ : Convoy)).bind fun r5 =>
 some (r5.1, r5.2)
def ConvoyOf' (it : It (Seed × Convoy)) (s : Seed) (most_ : Int) : Option (Seed × Convoy) :=
 (From s 20 400).bind fun r =>
 (Below r.1 3).bind fun r2 =>
 (Below r2.1 (w64 (most_ + 1))).bind fun r3 =>
 it _ (fun (v_0 : (Unit × Unit × Unit × Int × Unit) × ((Int × Unit) × (Int × Int × Int × (List Truck) × Unit) × Unit)) kn => ConvoyOf_L3 v_0.1.2.2.2.1 v_0.2.1.1 v_0.2.2.1.1 v_0.2.2.1.2.1 v_0.2.2.1.2.2.1 v_0.2.2.1.2.2.2.1 (fun y0 y1 y2 y3 y4 y5 => kn (((), (), (), y0, ()), ((y1, ()), (y2, y3, y4, y5, ()), ())))) (((), (), (), r3.2, ()), ((r3.1.word, ()), (r.2, 0, r2.2, [], ()), ()))
def ConvoyOf : Seed → Int → Option (Seed × Convoy) := opq (fun s most_ => ConvoyOf' itN s most_)
theorem ConvoyOf_eq (s : Seed) (most_ : Int) : ConvoyOf s most_ = ConvoyOf' itN s most_ := by unfold ConvoyOf; rw [opq_eq]
def E6 : FEnv iseat := ⟨⟨32, [], [sp20, sp21, sp22, sp23], [], [], [], [], [], [], [], [], [26], [0], true⟩, [(3, ⟨⟨[(0, .bx 0 0), (4, .bx 4 0), (5, .bx 5 0), (6, .v (.int .i64))], [(0, [.v (.int .u64)]), (5, [.v (.int .i64), .v (.int .i64), .v (.int .i64), .os 27 45 .Truck])]⟩, [], [4], []⟩)]⟩
theorem e6 (it : It (Seed × Convoy)) (s : Seed) (most_ : Int) : fnRunR (bt := .Seed) (ts := [.Convoy]) it E6 (bodyOf Tryz.f6) Tryz.f6.results.toList (encC .Seed s) (encA [.int .i64] (most_, ())) = ConvoyOf' it s most_ := by kernel_rfl
def sp6 : FnSpecR iseat.toSeat := mkSpecR iseat.toSeat 6 .Seed [.int .i64] [.Convoy] (fun b a => ConvoyOf b a.1) (fun b a y x hx h => fn_contractR (E := E6) Tryz.func6 (by kernel_rfl) (by kernel_rfl) (by kernel_rfl) (by kernel_rfl) rfl ((e6 itN b a.1).trans ((ConvoyOf_eq b a.1).symm.trans hx)) h)
def NewSeed_L3 (nums : List Int) (i : Int) (x6_word : Int) (kn_ : Int → Int → Option Seed) : Option Seed :=
 bif (decide (i < (nums.length : Int))) then
 chk (decide (0 ≤ i) && decide (i < (nums.length : Int))) <|
 (next (⟨(IntKind.u64.wrap ((IntKind.u64.wrap ((IntKind.u64.wrap (x6_word * 6364136223846793005)) + (IntKind.u64.wrap ((nums.getD i.toNat 0))))) + 1442695040888963407))⟩ : Seed)).bind fun r =>
 kn_ (w64 (i + 1)) r.1.word
 else
 some (⟨x6_word⟩ : Seed)
def NewSeed' (it : It Seed) (nums : List Int) : Option Seed :=
 it _ (fun (v_0 : (Unit × Int × Unit) × ((Int × Unit) × Unit)) kn => NewSeed_L3 nums v_0.1.2.1 v_0.2.1.1 (fun y0 y1 => kn (((), y0, ()), ((y1, ()), ())))) (((), 0, ()), ((1, ()), ()))
def NewSeed : (List Int) → Option Seed := opq (fun nums => NewSeed' itN nums)
theorem NewSeed_eq (nums : List Int) : NewSeed nums = NewSeed' itN nums := by unfold NewSeed; rw [opq_eq]
def E7 : FEnv iseat := ⟨⟨31, [], [sp24], [], [], [], [], [], [], [], [], [], [], true⟩, [(3, ⟨⟨[(3, .bx 6 0), (4, .v (.int .i64))], [(6, [.v (.int .u64)])]⟩, [0], [], []⟩)]⟩
theorem e7 (it : It Seed) (nums : List Int) : fnRunB (bt := .Seed) it E7 (bodyOf Tryz.f7) Tryz.f7.results.toList (encA [.sl (.int .i64)] (nums, ())) = NewSeed' it nums := by kernel_rfl
def sp7 : FnSpecB iseat.toSeat := mkSpecB iseat.toSeat 7 .Seed [.sl (.int .i64)] (fun a => NewSeed a.1) (fun a y hx h => fn_contractB (E := E7) Tryz.func7 (by kernel_rfl) (by kernel_rfl) (by kernel_rfl) (by kernel_rfl) rfl ⟨_, rfl⟩ ((e7 itN a.1).trans ((NewSeed_eq a.1).symm.trans hx)) h)
def Same_L10 (a : Convoy) (i : Int) (b : Convoy) (kn_ : Int → Option Bool) (k : Int) (kn_2 : Int → Option Bool) : Option Bool :=
 bif (decide (k < (((a.Trucks.getD i.toNat dfltTruck).Holds).length : Int))) then
 chk (decide (0 ≤ k) && decide (k < (((a.Trucks.getD i.toNat dfltTruck).Holds).length : Int))) <|
 chk (decide (0 ≤ k) && decide (k < (((b.Trucks.getD i.toNat dfltTruck).Holds).length : Int))) <|
 bif (!(decide ((((a.Trucks.getD i.toNat dfltTruck).Holds).getD k.toNat dfltHold).At = (((b.Trucks.getD i.toNat dfltTruck).Holds).getD k.toNat dfltHold).At) && (decide ((((a.Trucks.getD i.toNat dfltTruck).Holds).getD k.toNat dfltHold).Until = (((b.Trucks.getD i.toNat dfltTruck).Holds).getD k.toNat dfltHold).Until) && true))) then
 some false
 else
 kn_2 (w64 (k + 1))
 else
 kn_ (w64 (i + 1))
def Same_L4 (it : It Bool) (a : Convoy) (b : Convoy) (i : Int) (kn_ : Int → Option Bool) : Option Bool :=
 bif (decide (i < (a.Trucks.length : Int))) then
 chk (decide (0 ≤ i) && decide (i < (a.Trucks.length : Int))) <|
 chk (decide (0 ≤ i) && decide (i < (b.Trucks.length : Int))) <|
 bif ((a.Trucks.getD i.toNat dfltTruck).Way != (b.Trucks.getD i.toNat dfltTruck).Way) then
 some false
 else
 bif ((a.Trucks.getD i.toNat dfltTruck).Start != (b.Trucks.getD i.toNat dfltTruck).Start) then
 some false
 else
 bif (!(decide ((a.Trucks.getD i.toNat dfltTruck).Pace.Lo = (b.Trucks.getD i.toNat dfltTruck).Pace.Lo) && (decide ((a.Trucks.getD i.toNat dfltTruck).Pace.Hi = (b.Trucks.getD i.toNat dfltTruck).Pace.Hi) && true))) then
 some false
 else
 bif ((((a.Trucks.getD i.toNat dfltTruck).Holds).length : Int) != (((b.Trucks.getD i.toNat dfltTruck).Holds).length : Int)) then
 some false
 else
 it _ (fun (v_0 : (Unit × Unit × Unit × Unit × Int × Unit) × (Unit)) kn => Same_L10 a i b kn_ v_0.1.2.2.2.2.1 (fun y0 => kn (((), (), (), (), y0, ()), (())))) (((), (), (), (), 0, ()), (()))
 else
 some true
def Same' (it : It Bool) (a : Convoy) (b : Convoy) : Option Bool :=
 bif (a.Length != b.Length) then
 some false
 else
 bif (a.Gap != b.Gap) then
 some false
 else
 bif (a.Fails != b.Fails) then
 some false
 else
 bif ((a.Trucks.length : Int) != (b.Trucks.length : Int)) then
 some false
 else
 it _ (fun (v_0 : (Unit × Unit × Int × Unit) × (Unit)) kn => Same_L4 it a b v_0.1.2.2.1 (fun y0 => kn (((), (), y0, ()), (())))) (((), (), 0, ()), (()))
def Same : Convoy → Convoy → Option Bool := opq (fun a b => Same' itN a b)
theorem Same_eq (a : Convoy) (b : Convoy) : Same a b = Same' itN a b := by unfold Same; rw [opq_eq]
def E13 : FEnv iseat := ⟨⟨100, [], [], [], [], [], [], [], [], [], [], [], [], true⟩, [(4, ⟨⟨[(2, .bx 2 0), (3, .bx 3 0), (5, .v (.int .i64))], []⟩, [], [2, 3], []⟩), (10, ⟨⟨[(2, .bx 2 0), (3, .bx 3 0), (6, .bx 6 0), (7, .bx 7 0), (8, .v (.int .i64))], []⟩, [5], [6, 7], []⟩)]⟩
theorem e13 (it : It Bool) (a : Convoy) (b : Convoy) : fnRun (ts := [.bool]) it E13 (bodyOf Tryz.f13) Tryz.f13.results.toList (encA [.Convoy, .Convoy] (a, b, ())) = Same' it a b := by kernel_rfl
def sp13 : FnSpec iseat.toSeat := mkSpec iseat.toSeat 13 [.Convoy, .Convoy] [.bool] true (fun a => Same a.1 a.2.1) (fun a x hx h h' => fn_contract (E := E13) Tryz.func13 (by kernel_rfl) (by kernel_rfl) (by kernel_rfl) (by kernel_rfl) rfl ((e13 itN a.1 a.2.1).trans ((Same_eq a.1 a.2.1).symm.trans hx)) h h') (fun _ x => rfl)
end
end Go.Proofs.Tt05
namespace Go.Ab
open Go Go.RowKit
set_option linter.all false
def Ok {α : Type} (P : α → Prop) (x : Option α) : Prop := ∃ a, x = some a ∧ P a
section
variable {α β : Type} {P : α → Prop} {Q : β → Prop}
theorem Ok.some {a : α} (h : P a) : Ok P (some a) := ⟨a, rfl, h⟩
theorem Ok.bind {x : Option α} {f : α → Option β} (hx : Ok P x) (hf : ∀ a, P a → Ok Q (f a)) : Ok Q (x.bind f) := by
 obtain ⟨a, rfl, ha⟩ := hx
 exact hf a ha
theorem Ok.mono {P' : α → Prop} {x : Option α} (hx : Ok P x) (h : ∀ a, P a → P' a) : Ok P' x := by
 obtain ⟨a, rfl, ha⟩ := hx
 exact ⟨a, rfl, h a ha⟩
theorem Ok.chk {b : Bool} {x : Option α} (hb : b = true) (hx : Ok P x) : Ok P (chk b x) := by subst hb; exact hx
theorem Ok.ite {c : Bool} {x y : Option α} (hx : c = true → Ok P x) (hy : c = false → Ok P y) : Ok P (bif c then x else y) := by
 cases c with
 | true => exact hx rfl
 | false => exact hy rfl
theorem Ok.rounds {γ : Type} {F : γ → (γ → Option α) → Option α} {v0 : γ} (inv : γ → Prop) (μ : γ → Nat) (hμ : μ v0 < FUEL) (h0 : inv v0)
  (step : ∀ v kn, inv v → (∀ v', inv v' → μ v' < μ v → Ok P (kn v')) → Ok P (F v kn)) : Ok P (itN γ F v0) := by
 have key : ∀ n v, inv v → μ v < n → Ok P (iter F n v) := by
  intro n
  induction n with
  | zero => intro v _ h; omega
  | succ n ih =>
   intro v hv hn
   exact step v (iter F n) hv fun v' hv' hlt => ih v' hv' (by omega)
 exact key FUEL v0 h0 hμ
end
theorem w64_id {n : Int} (h1 : -9223372036854775808 ≤ n) (h2 : n ≤ 9223372036854775807) : w64 n = n := by
 unfold w64 IntKind.wrap
 simp [IntKind.bits, IntKind.signed, Int.bmod_def]
 omega
end Go.Ab
namespace Go.Proofs.Tt05
open Go Go.Ab
set_option linter.all false
set_option maxRecDepth 100000
def bI (l : List UInt8) : List Int := l.map fun b => (b.toNat : Int)
theorem bI_app (a b : List UInt8) : bI (a ++ b) = bI a ++ bI b := List.map_append
theorem bI_len (a : List UInt8) : (bI a).length = a.length := List.length_map ..
theorem okBy_bI (a : List UInt8) : Tx.okBy (bI a) = true := by
 unfold Tx.okBy bI
 rw [List.all_map, List.all_eq_true]
 intro b _
 have := UInt8.toNat_lt b
 simp; omega
theorem bytesV_bI (a : List UInt8) : Tx.bytesV (bI a) = mk a := by
 unfold Tx.bytesV Tx.byL bI mk
 rw [List.map_map]
 congr 2
 refine (List.map_congr_left fun b _ => ?_).trans (List.map_id a)
 show UInt8.ofNat ((b.toNat : Int)).toNat = b
 simp
theorem wStr_ok {a : List UInt8} {s : ByteArray} (h : a.length + (bl s).length ≤ 140737488355328) : Ok (fun r => r.1.1 = bI (a ++ bl s)) (wStr (bI a, ()) (s, ())) := by
 rw [wStr_eq]
 show Ok _ (wStr' itN (bI a) s)
 unfold wStr'
 refine Ok.bind (P := fun r => r.1.1 = bI a) (Ok.some rfl) fun r hr => ?_
 rw [hr]
 refine Ok.chk ?_ (Ok.some ?_)
 ·rw [bI_len]; exact decide_eq_true h
 ·show bI a ++ bytesI s = _
  rw [bI_app]; rfl
theorem wByte_ok {a : List UInt8} {c : UInt8} (h : a.length + 1 ≤ 100000000) : Ok (fun r => r.1.1 = bI (a ++ [c])) (wByte (bI a, ()) ((c.toNat : Int), ())) := by
 rw [wByte_eq]
 show Ok _ (wByte' itN (bI a) (c.toNat : Int))
 unfold wByte'
 refine Ok.bind (P := fun r => r.1.1 = bI a) (Ok.some rfl) fun r hr => ?_
 rw [hr]
 refine Ok.chk ?_ (Ok.some ?_)
 ·rw [bI_len]; unfold fitA; simp; omega
 ·show bI a ++ [(c.toNat : Int)] = _
  rw [bI_app]; rfl
def NumOk (n : Int) : Prop := 0 ≤ n ∧ n ≤ 999999999
def numL (n : Int) : List UInt8 := 32 :: digs n
def rowL (w : List UInt8) (ns : List Int) : List UInt8 := (w ++ ns.flatMap numL) ++ [10]
theorem nums_len : ∀ (ns : List Int), (∀ n ∈ ns, NumOk n) → (ns.flatMap numL).length ≤ 10 * ns.length
 | [], _ => Nat.le_refl _
 | n :: ns, h => by
  have h1 := h n (List.mem_cons_self ..)
  have h2 := digs_len h1.1 h1.2
  have h3 := nums_len ns fun m hm => h m (List.mem_cons_of_mem _ hm)
  simp only [List.flatMap_cons, List.length_append, numL, List.length_cons]
  omega
theorem take_snoc {α : Type} {l : List α} {k : Nat} {d : α} (h : k < l.length) : l.take (k + 1) = l.take k ++ [l.getD k d] := by
 rw [List.take_succ, List.getD_eq_getElem?_getD, List.getElem?_eq_getElem h]; rfl
theorem flat_snoc {α : Type} {l : List α} {k : Nat} {d : α} (f : α → List UInt8) (h : k < l.length) : (l.take (k + 1)).flatMap f = (l.take k).flatMap f ++ f (l.getD k d) := by
 rw [take_snoc (d := d) h, List.flatMap_append]; simp
theorem okI_of {n : Int} (h : NumOk n) : Tx.okI n = true := by
 unfold Tx.okI
 obtain ⟨h1, h2⟩ := h
 simp; omega
theorem row_ok {a : List UInt8} {w : ByteArray} {ns : List Int} (hn : ∀ n ∈ ns, NumOk n) (ha : a.length ≤ 1000000) (hw : (bl w).length ≤ 1000) (hl : ns.length ≤ 1000) : Ok (fun r => r.1.1 = bI (a ++ rowL (bl w) ns)) (row (bI a, ()) (w, ns, ())) := by
 rw [row_eq]
 show Ok _ (row' itN (bI a) w ns)
 unfold row'
 refine Ok.bind (wStr_ok (by omega)) fun r hr => ?_
 refine Ok.rounds (inv := fun v => ∃ j : Nat, j ≤ ns.length ∧ v.1.2.1 = (j : Int) ∧ v.2.1.2.1 = bI (a ++ (bl w ++ (ns.take j).flatMap numL))) (μ := fun v => ns.length - v.1.2.1.toNat) (by show ns.length - 0 < FUEL; unfold FUEL; omega) ⟨0, Nat.zero_le _, rfl, by rw [hr]; simp⟩ ?_
 rintro v kn ⟨j, hj, e1, e2⟩ hk
 rw [e1, e2]
 unfold row_L2
 by_cases hlt : j < ns.length
 ·rw [decide_eq_true (by omega : (j : Int) < (ns.length : Int))]
  refine Ok.chk (show (decide (0 ≤ (j : Int)) && true) = true by simp) ?_
  rw [show ((j : Int)).toNat = j by omega]
  have hmem : ns.getD j 0 ∈ ns := by rw [List.getD_eq_getElem?_getD, List.getElem?_eq_getElem hlt]; exact List.getElem_mem _
  have hno := hn _ hmem
  have hdl := digs_len hno.1 hno.2
  refine Ok.bind (P := fun r => r = mk (digs (ns.getD j 0))) ⟨_, by unfold Tx.itoaP; rw [okI_of hno]; rfl, rfl⟩ fun r2 hr2 => ?_
  subst hr2
  have hcat : bl (catS ⟨#[32]⟩ (mk (digs (ns.getD j 0)))) = numL (ns.getD j 0) := rfl
  have hsz : (mk (digs (ns.getD j 0))).size = (digs (ns.getD j 0)).length := by show (digs (ns.getD j 0)).toArray.size = _; simp
  refine Ok.chk (by rw [hsz]; show decide (1 + _ ≤ _) = true; exact decide_eq_true (by omega)) ?_
  have hpre := nums_len (ns.take j) fun n h => hn n (List.mem_of_mem_take h)
  refine Ok.bind (wStr_ok (by rw [hcat]; simp only [List.length_append, numL, List.length_cons]; rw [List.length_take] at hpre; omega)) fun r3 hr3 => ?_
  refine hk _ ⟨j + 1, hlt, ?_, ?_⟩ ?_
  ·show w64 ((j : Int) + 1) = _
   rw [w64_id (by omega) (by omega)]; push_cast; rfl
  ·show r3.1.1 = _
   rw [hr3, hcat, flat_snoc (d := 0) numL hlt]
   simp only [List.append_assoc]
  ·show ns.length - (w64 ((j : Int) + 1)).toNat < ns.length - v.1.2.1.toNat
   rw [w64_id (by omega) (by omega), e1]; omega
 ·have hjn : j = ns.length := by omega
  rw [decide_eq_false (by omega : ¬ (j : Int) < (ns.length : Int))]
  have hpre := nums_len ns hn
  show Ok _ ((wByte _ _).bind _)
  refine Ok.bind (wByte_ok (c := 10) (by rw [hjn, List.take_length]; simp only [List.length_append]; omega)) fun r4 hr4 => Ok.some ?_
  show r4.1.1 = _
  rw [hr4, hjn, List.take_length]
  unfold rowL
  simp only [List.append_assoc]
end Go.Proofs.Tt05
namespace Go.Proofs.Tt05
open Go Go.Ab
set_option linter.all false
set_option maxRecDepth 100000
def wRoad : List UInt8 := [114, 111, 97, 100]
def wTruck : List UInt8 := [116, 114, 117, 99, 107]
def wHold : List UInt8 := [104, 111, 108, 100]
def wUp : List UInt8 := [117, 112]
def wDown : List UInt8 := [100, 111, 119, 110]
def wayL (w : Int) : List UInt8 := if w = 1 then wUp else wDown
def holdL (h : Hold) : List UInt8 := rowL wHold [h.At, h.Until]
def headL (t : Truck) : List UInt8 := rowL (wTruck ++ 32 :: wayL t.Way) [t.Start, t.Pace.Lo, t.Pace.Hi]
def truckL (t : Truck) : List UInt8 := headL t ++ t.Holds.flatMap holdL
def roadL (c : Convoy) : List UInt8 := rowL wRoad [c.Length, c.Gap, c.Fails]
def textL (c : Convoy) : List UInt8 := roadL c ++ c.Trucks.flatMap truckL
structure NumT (t : Truck) : Prop where
 way : t.Way = 1 ∨ t.Way = 2
 s : NumOk t.Start
 l : NumOk t.Pace.Lo
 h : NumOk t.Pace.Hi
 hs : ∀ x ∈ t.Holds, NumOk x.At ∧ NumOk x.Until
structure NumC (c : Convoy) : Prop where
 l : NumOk c.Length
 g : NumOk c.Gap
 f : NumOk c.Fails
 t : ∀ t ∈ c.Trucks, NumT t
theorem getD_mem' {α : Type} {l : List α} {d : α} {i : Nat} (h : i < l.length) : l.getD i d ∈ l := by
 rw [List.getD_eq_getElem?_getD, List.getElem?_eq_getElem h]; exact List.getElem_mem _
theorem flat_take {α : Type} (f : α → List UInt8) : ∀ (l : List α) (k : Nat), ((l.take k).flatMap f).length ≤ (l.flatMap f).length
 | [], k => by simp
 | x :: l, 0 => by simp
 | x :: l, k + 1 => by
  simp only [List.take_succ_cons, List.flatMap_cons, List.length_append]
  have := flat_take f l k
  omega
theorem two_ok {a b : Int} (ha : NumOk a) (hb : NumOk b) : ∀ n ∈ [a, b], NumOk n := fun n h => by
 rcases List.mem_cons.1 h with rfl | h
 ·exact ha
 ·rcases List.mem_cons.1 h with rfl | h
  ·exact hb
  ·cases h
theorem three_ok {a b c : Int} (ha : NumOk a) (hb : NumOk b) (hc : NumOk c) : ∀ n ∈ [a, b, c], NumOk n := fun n h => by
 rcases List.mem_cons.1 h with rfl | h
 ·exact ha
 ·exact two_ok hb hc n h
theorem idx_ok {k n : Nat} (h : k < n) : (decide (0 ≤ (k : Int)) && decide ((k : Int) < (n : Int))) = true := by
 rw [decide_eq_true (by omega : (0 : Int) ≤ k), decide_eq_true (by omega : (k : Int) < n)]; rfl
theorem holds_ok {c : Convoy} {k : Nat} {P : ByteArray × Int → Prop} {kn_ : Int → List Int → Option (ByteArray × Int)} {a : List UInt8} {t : Truck} (ht : c.Trucks.getD k dfltTruck = t) (hh : ∀ x ∈ t.Holds, NumOk x.At ∧ NumOk x.Until) (ha : a.length + (t.Holds.flatMap holdL).length ≤ 20000) (hm : t.Holds.length ≤ 1000000000)
  (hk : Ok P (kn_ (w64 ((k : Int) + 1)) (bI (a ++ t.Holds.flatMap holdL)))) : Ok P (itN _ (fun (v_0 : (Unit × Unit × Int × Unit) × ((Unit × (List Int) × Unit) × Unit)) kn => Write_L12 c (k : Int) kn_ v_0.1.2.2.1 v_0.2.1.2.1 (fun y0 y1 => kn (((), (), y0, ()), (((), y1, ()), ())))) (((), (), 0, ()), (((), bI a, ()), ()))) := by
 refine Ok.rounds (inv := fun v => ∃ j : Nat, j ≤ t.Holds.length ∧ v.1.2.2.1 = (j : Int) ∧ v.2.1.2.1 = bI (a ++ (t.Holds.take j).flatMap holdL)) (μ := fun v => t.Holds.length - v.1.2.2.1.toNat) (by show t.Holds.length - 0 < FUEL; unfold FUEL; omega) ⟨0, Nat.zero_le _, rfl, by simp⟩ ?_
 rintro v kn ⟨j, hj, e1, e2⟩ hkn
 rw [e1, e2]
 unfold Write_L12
 rw [show ((k : Int)).toNat = k by omega, show ((j : Int)).toNat = j by omega, ht]
 by_cases hlt : j < t.Holds.length
 ·refine Ok.ite (fun _ => ?_) (fun q => absurd (decide_eq_true (by omega : (j : Int) < (t.Holds.length : Int))) (by rw [q]; decide))
  refine Ok.chk (idx_ok hlt) ?_
  have hn := hh _ (getD_mem' (d := dfltHold) hlt)
  have hp := flat_take holdL t.Holds j
  refine Ok.bind (row_ok (a := a ++ (t.Holds.take j).flatMap holdL) (w := ⟨#[104, 111, 108, 100]⟩) (two_ok hn.1 hn.2) (by rw [List.length_append]; omega) (by show 4 ≤ 1000; omega) (by show 2 ≤ 1000; omega)) fun r hr => ?_
  refine hkn _ ⟨j + 1, hlt, ?_, ?_⟩ ?_
  ·show w64 ((j : Int) + 1) = _
   rw [w64_id (by omega) (by omega)]; push_cast; rfl
  ·show r.1.1 = _
   rw [hr, flat_snoc (d := dfltHold) holdL hlt]
   simp only [List.append_assoc]
   rfl
  ·show t.Holds.length - (w64 ((j : Int) + 1)).toNat < t.Holds.length - v.1.2.2.1.toNat
   rw [w64_id (by omega) (by omega), e1]; omega
 ·have hjn : j = t.Holds.length := by omega
  refine Ok.ite (fun q => absurd (of_decide_eq_true q) (by omega)) (fun _ => ?_)
  rw [hjn, List.take_length]
  exact hk
theorem L12_2 : @Write_L12__2 = @Write_L12 := rfl
theorem L12_3 : @Write_L12__3 = @Write_L12 := rfl
theorem Write_text {c : Convoy} (hc : pCheck c = some 0) (hn : NumC c) (hl : (textL c).length ≤ 20000) : Write c = some (mk (textL c), 0) := by
 have key : Ok (fun r => r = (mk (textL c), 0)) (Write c) := by
  rw [Write_eq]
  unfold Write'
  rw [hc]
  show Ok _ ((row _ _).bind _)
  have hR : (roadL c).length + (c.Trucks.flatMap truckL).length ≤ 20000 := by unfold textL at hl; rwa [List.length_append] at hl
  refine Ok.bind (row_ok (a := []) (w := ⟨#[114, 111, 97, 100]⟩) (three_ok hn.l hn.g hn.f) (Nat.zero_le _) (by show 4 ≤ 1000; omega) (by show 3 ≤ 1000; omega)) fun r hr => ?_
  have hr : r.1.1 = bI (roadL c) := hr
  have hcnt : c.Trucks.length ≤ (c.Trucks.flatMap truckL).length := by
   have : ∀ l : List Truck, l.length ≤ (l.flatMap truckL).length := fun l => by
    induction l with
    | nil => simp
    | cons x l ih =>
     have : 1 ≤ (truckL x).length := by unfold truckL headL rowL; simp; omega
     simp only [List.flatMap_cons, List.length_append, List.length_cons]; omega
   exact this _
  refine Ok.rounds (inv := fun v => ∃ k : Nat, k ≤ c.Trucks.length ∧ v.1.2.2.1 = (k : Int) ∧ v.2.1.2.1 = bI (roadL c ++ (c.Trucks.take k).flatMap truckL)) (μ := fun v => c.Trucks.length - v.1.2.2.1.toNat) (by show c.Trucks.length - 0 < FUEL; unfold FUEL; omega) ⟨0, Nat.zero_le _, rfl, (show r.1.1 = _ from hr.trans (by simp))⟩ ?_
  rintro v kn ⟨k, hk, e1, e2⟩ hkn
  rw [e1, e2]
  unfold Write_L8
  rw [show ((k : Int)).toNat = k by omega]
  by_cases hlt : k < c.Trucks.length
  ·refine Ok.ite (fun _ => ?_) (fun q => absurd (decide_eq_true (by omega : (k : Int) < (c.Trucks.length : Int))) (by rw [q]; decide))
   refine Ok.chk (idx_ok hlt) ?_
   have ht := hn.t _ (getD_mem' (d := dfltTruck) hlt)
   generalize hT : c.Trucks.getD k dfltTruck = t at ht
   have hp : (roadL c ++ (c.Trucks.take k).flatMap truckL ++ truckL t).length ≤ 20000 := by
    have := flat_take truckL c.Trucks (k + 1)
    rw [flat_snoc (d := dfltTruck) truckL hlt, hT, List.length_append] at this
    simp only [List.length_append]; omega
   have hnum := three_ok ht.s ht.l ht.h
   have hp2 : (roadL c ++ (c.Trucks.take k).flatMap truckL ++ headL t).length + (t.Holds.flatMap holdL).length ≤ 20000 := by
    have e : (truckL t).length = (headL t).length + (t.Holds.flatMap holdL).length := List.length_append
    simp only [List.length_append] at hp ⊢; omega
   have hhn : t.Holds.length ≤ (t.Holds.flatMap holdL).length := by
    have : ∀ l : List Hold, l.length ≤ (l.flatMap holdL).length := fun l => by
     induction l with
     | nil => simp
     | cons x l ih =>
      have : 1 ≤ (holdL x).length := by unfold holdL rowL; simp; omega
      simp only [List.flatMap_cons, List.length_append, List.length_cons]; omega
    exact this _
   have hend : ∀ r2 : List Int, r2 = bI (roadL c ++ (c.Trucks.take k).flatMap truckL ++ headL t) → Ok (fun r => r = (mk (textL c), 0)) (itN _ (fun (v_0 : (Unit × Unit × Int × Unit) × ((Unit × (List Int) × Unit) × Unit)) kn2 => Write_L12 c (k : Int) (fun y0 y1 => kn (((), (), y0, ()), (((), y1, ()), ()))) v_0.1.2.2.1 v_0.2.1.2.1 (fun y0 y1 => kn2 (((), (), y0, ()), (((), y1, ()), ())))) (((), (), 0, ()), (((), r2, ()), ()))) := fun r2 e => by
    subst e
    refine holds_ok hT ht.hs hp2 (by simp only [List.length_append] at hp2; omega) ?_
    refine hkn _ ⟨k + 1, hlt, ?_, ?_⟩ ?_
    ·show w64 ((k : Int) + 1) = _
     rw [w64_id (by omega) (by omega)]; push_cast; rfl
    ·show bI _ = _
     rw [flat_snoc (d := dfltTruck) truckL hlt, hT]
     unfold truckL
     simp only [List.append_assoc]
    ·show c.Trucks.length - (w64 ((k : Int) + 1)).toNat < c.Trucks.length - v.1.2.2.1.toNat
     rw [w64_id (by omega) (by omega), e1]; omega
   have hpl : (roadL c ++ (c.Trucks.take k).flatMap truckL).length ≤ 1000000 := by simp only [List.length_append] at hp ⊢; omega
   rcases ht.way with hw | hw
   ·rw [hw, L12_2, L12_3]
    refine Ok.ite (fun q => absurd q (by decide)) (fun _ => Ok.ite (fun _ => ?_) (fun q => absurd q (by decide)))
    refine Ok.chk (by decide) ?_
    refine Ok.bind (row_ok hnum hpl (by show 8 ≤ 1000; omega) (by show 3 ≤ 1000; omega)) fun r2 hr2 => hend _ (hr2.trans ?_)
    unfold headL wayL
    rw [hw]; rfl
   ·rw [hw, L12_2, L12_3]
    refine Ok.ite (fun q => absurd q (by decide)) (fun _ => Ok.ite (fun q => absurd q (by decide)) (fun _ => Ok.ite (fun _ => ?_) (fun q => absurd q (by decide))))
    refine Ok.chk (by decide) ?_
    refine Ok.bind (row_ok hnum hpl (by show 10 ≤ 1000; omega) (by show 3 ≤ 1000; omega)) fun r2 hr2 => hend _ (hr2.trans ?_)
    unfold headL wayL
    rw [hw]; rfl
  ·have hkn' : k = c.Trucks.length := by omega
   refine Ok.ite (fun q => absurd (of_decide_eq_true q) (by omega)) (fun _ => ?_)
   rw [hkn', List.take_length]
   show Ok _ ((bLen (bI (textL c), ()) ()).bind _)
   refine Ok.bind (P := fun r => r.1.1 = bI (textL c) ∧ r.2 = ((textL c).length : Int)) ⟨_, by rw [bLen_eq]; rfl, rfl, by rw [bI_len]⟩ fun r9 h9 => ?_
   rw [h9.1, h9.2]
   refine Ok.ite (fun q => absurd (of_decide_eq_true q) (by omega)) (fun _ => ?_)
   refine Ok.bind (P := fun r => r.2 = mk (textL c)) ⟨((), mk (textL c)), by unfold strP; rw [okBy_bI, bytesV_bI]; rfl, rfl⟩ fun r10 h10 => Ok.some ?_
   rw [h10]
 obtain ⟨r, h1, rfl⟩ := key
 exact h1
end Go.Proofs.Tt05
