/- Walks by computing: what each function of the program that the laws reach gives for what it gets, as plain Lean, and that it is so; without a condition but those that stand in each theorem. -/
import Derived.Test.YtbkogeihjcnejaaGreatDoorW1
import Derived.Test.YtbkogeihjcnejaaGreatDoorW2
import Derived.Test.YtbkogeihjcnejaaGreatDoorW3
import Derived.Test.YtbkogeihjcnejaaGreatDoorW4
import Derived.Test.YtbkogeihjcnejaaGreatDoorW5
import Derived.Test.YtbkogeihjcnejaaGreatDoorW6
import Derived.Test.YtbkogeihjcnejaaGreatDoorW7
import Derived.Test.YtbkogeihjcnejaaGreatDoorW8
import Derived.Test.YtbkogeihjcnejaaGreatDoorW9
import Derived.Test.YtbkogeihjcnejaaGreatDoorW10
import Derived.Test.YtbkogeihjcnejaaGreatDoorW11
import Derived.Test.YtbkogeihjcnejaaGreatDoorW12
import Derived.Test.YtbkogeihjcnejaaGreatDoorW13
import Derived.Test.YtbkogeihjcnejaaGreatDoorW14
set_option linter.all false
namespace Go.Proofs.Tp09
open Go Go.Ab
open Go.Proofs.YtbkogeihjcnejaaGreatDoor (iseat)
set_option linter.all false
set_option maxRecDepth 100000
noncomputable section
def next' (it : It (Seed × Int)) (s : Seed) : Option (Seed × Int) :=
 some ((⟨(IntKind.u64.wrap (s.word + 11400714819323198485))⟩ : Seed), (xorI .u64 (IntKind.u64.wrap ((xorI .u64 (IntKind.u64.wrap ((xorI .u64 (IntKind.u64.wrap (s.word + 11400714819323198485)) (shrI .u64 (IntKind.u64.wrap (s.word + 11400714819323198485)) 30)) * 13787848793156543929)) (shrI .u64 (IntKind.u64.wrap ((xorI .u64 (IntKind.u64.wrap (s.word + 11400714819323198485)) (shrI .u64 (IntKind.u64.wrap (s.word + 11400714819323198485)) 30)) * 13787848793156543929)) 27)) * 10723151780598845931)) (shrI .u64 (IntKind.u64.wrap ((xorI .u64 (IntKind.u64.wrap ((xorI .u64 (IntKind.u64.wrap (s.word + 11400714819323198485)) (shrI .u64 (IntKind.u64.wrap (s.word + 11400714819323198485)) 30)) * 13787848793156543929)) (shrI .u64 (IntKind.u64.wrap ((xorI .u64 (IntKind.u64.wrap (s.word + 11400714819323198485)) (shrI .u64 (IntKind.u64.wrap (s.word + 11400714819323198485)) 30)) * 13787848793156543929)) 27)) * 10723151780598845931)) 31)))
def next : Seed → Option (Seed × Int) := opq (fun s => next' itN s)
theorem next_eq (s : Seed) : next s = next' itN s := by unfold next; rw [opq_eq]
def E24 : FEnv iseat := ⟨⟨30, [], [], [], [], [], [], [], [], [], [], [], [0], true⟩, []⟩
theorem e24 (it : It (Seed × Int)) (s : Seed) : fnRunR (bt := .Seed) (ts := [.int .u64]) it E24 (bodyOf Tryz.f24) Tryz.f24.results.toList (encC .Seed s) (encA [] (())) = next' it s := by kernel_rfl
def sp24 : FnSpecR iseat.toSeat := mkSpecR iseat.toSeat 24 .Seed [] [.int .u64] (fun b a => next b ) (fun b a y x hx h => fn_contractR (E := E24) Tryz.func24 (by kernel_rfl) (by kernel_rfl) (by kernel_rfl) (by kernel_rfl) rfl ((e24 itN b ).trans ((next_eq b ).symm.trans hx)) h)
def Below' (it : It (Seed × Int)) (s : Seed) (n : Int) : Option (Seed × Int) :=
 bif (decide (n < 2)) then
 some (s, 0)
 else
 (next s).bind fun r =>
 chk ((IntKind.u64.wrap (n)) != 0) <|
 some (r.1, (w64 (((shrI .u64 r.2 1).tmod (IntKind.u64.wrap (n))))))
def Below : Seed → Int → Option (Seed × Int) := opq (fun s n => Below' itN s n)
theorem Below_eq (s : Seed) (n : Int) : Below s n = Below' itN s n := by unfold Below; rw [opq_eq]
def E22 : FEnv iseat := ⟨⟨14, [], [sp24], [], [], [], [], [], [], [], [], [], [0], true⟩, []⟩
theorem e22 (it : It (Seed × Int)) (s : Seed) (n : Int) : fnRunR (bt := .Seed) (ts := [.int .i64]) it E22 (bodyOf Tryz.f22) Tryz.f22.results.toList (encC .Seed s) (encA [.int .i64] (n, ())) = Below' it s n := by kernel_rfl
def sp22 : FnSpecR iseat.toSeat := mkSpecR iseat.toSeat 22 .Seed [.int .i64] [.int .i64] (fun b a => Below b a.1) (fun b a y x hx h => fn_contractR (E := E22) Tryz.func22 (by kernel_rfl) (by kernel_rfl) (by kernel_rfl) (by kernel_rfl) rfl ((e22 itN b a.1).trans ((Below_eq b a.1).symm.trans hx)) h)
def Of' (it : It (Seed × Int)) (s : Seed) (l : List Int) : Option (Seed × Int) :=
 bif ((l.length : Int) == 0) then
 some (s, 0)
 else
 (Below s (l.length : Int)).bind fun r =>
 chk (decide (0 ≤ r.2) && decide (r.2 < (l.length : Int))) <|
 some (r.1, (l.getD r.2.toNat 0))
def Of : Seed → (List Int) → Option (Seed × Int) := opq (fun s l => Of' itN s l)
theorem Of_eq (s : Seed) (l : List Int) : Of s l = Of' itN s l := by unfold Of; rw [opq_eq]
def E48 : FEnv iseat := ⟨⟨15, [], [sp22], [], [], [], [], [], [], [], [], [], [0], true⟩, []⟩
theorem e48 (it : It (Seed × Int)) (s : Seed) (l : List Int) : fnRunR (bt := .Seed) (ts := [.int .i64]) it E48 (bodyOf Tryz.f48) Tryz.f48.results.toList (encC .Seed s) (encA [.sl (.int .i64)] (l, ())) = Of' it s l := by kernel_rfl
def sp48 : FnSpecR iseat.toSeat := mkSpecR iseat.toSeat 48 .Seed [.sl (.int .i64)] [.int .i64] (fun b a => Of b a.1) (fun b a y x hx h => fn_contractR (E := E48) Tryz.func48 (by kernel_rfl) (by kernel_rfl) (by kernel_rfl) (by kernel_rfl) rfl ((e48 itN b a.1).trans ((Of_eq b a.1).symm.trans hx)) h)
def DriverOf_L4 (at_ : Int) (i : Int) (s_word : Int) (d_Name : ByteArray) (d_Skills : Int) (d_Turns : List Turn) (kn_ : Int → Int → Int → ByteArray → Int → (List Turn) → Option (Seed × Driver)) : Option (Seed × Driver) :=
 bif (decide (i > 0)) then
 (Below (⟨s_word⟩ : Seed) 15).bind fun r4 =>
 (Below r4.1 5).bind fun r5 =>
 (Of r5.1 [0, 0, r5.2]).bind fun r6 =>
 (Below r6.1 20).bind fun r7 =>
 (Below r7.1 5).bind fun r8 =>
 (Of r8.1 [0, 0, r8.2]).bind fun r9 =>
 chk (fitA (d_Turns.length + ([(⟨⟨(w64 (at_ + r4.2)), (w64 ((w64 (at_ + r4.2)) + r6.2))⟩, ⟨(w64 ((w64 ((w64 (at_ + r4.2)) + r6.2)) + r7.2)), (w64 ((w64 ((w64 ((w64 (at_ + r4.2)) + r6.2)) + r7.2)) + r9.2))⟩⟩ : Turn)] : List Turn).length) 32) <|
 kn_ (w64 ((w64 ((w64 ((w64 (at_ + r4.2)) + r6.2)) + r7.2)) + r9.2)) (w64 (i - 1)) r9.1.word d_Name d_Skills (d_Turns ++ ([(⟨⟨(w64 (at_ + r4.2)), (w64 ((w64 (at_ + r4.2)) + r6.2))⟩, ⟨(w64 ((w64 ((w64 (at_ + r4.2)) + r6.2)) + r7.2)), (w64 ((w64 ((w64 ((w64 (at_ + r4.2)) + r6.2)) + r7.2)) + r9.2))⟩⟩ : Turn)] : List Turn))
 else
 some ((⟨s_word⟩ : Seed), (⟨d_Name, d_Skills, d_Turns⟩ : Driver))
def DriverOf' (it : It (Seed × Driver)) (s : Seed) (name : ByteArray) (turns : Int) : Option (Seed × Driver) :=
 (Below s 8).bind fun r =>
 (Below r.1 10).bind fun r2 =>
 (Below r2.1 (w64 (turns + 1))).bind fun r3 =>
 it _ (fun (v_0 : (Unit × Unit × Unit × Int × Int × Unit) × ((Int × Unit) × (ByteArray × Int × (List Turn) × Unit) × Unit)) kn => DriverOf_L4 v_0.1.2.2.2.1 v_0.1.2.2.2.2.1 v_0.2.1.1 v_0.2.2.1.1 v_0.2.2.1.2.1 v_0.2.2.1.2.2.1 (fun y0 y1 y2 y3 y4 y5 => kn (((), (), (), y0, y1, ()), ((y2, ()), (y3, y4, y5, ()), ())))) (((), (), (), r2.2, r3.2, ()), ((r3.1.word, ()), (name, r.2, [], ()), ()))
def DriverOf : Seed → ByteArray → Int → Option (Seed × Driver) := opq (fun s name turns => DriverOf' itN s name turns)
theorem DriverOf_eq (s : Seed) (name : ByteArray) (turns : Int) : DriverOf s name turns = DriverOf' itN s name turns := by unfold DriverOf; rw [opq_eq]
def E23 : FEnv iseat := ⟨⟨71, [], [sp22, sp48], [], [], [], [], [], [], [], [], [37, 56, 64], [0], true⟩, [(4, ⟨⟨[(0, .bx 0 0), (6, .bx 6 0), (7, .bx 7 0), (8, .v (.int .i64)), (9, .v (.int .i64))], [(0, [.v (.int .u64)]), (7, [.v .str, .v (.int .i64), .os 65 75 .Turn])]⟩, [], [6], []⟩)]⟩
theorem e23 (it : It (Seed × Driver)) (s : Seed) (name : ByteArray) (turns : Int) : fnRunR (bt := .Seed) (ts := [.Driver]) it E23 (bodyOf Tryz.f23) Tryz.f23.results.toList (encC .Seed s) (encA [.str, .int .i64] (name, turns, ())) = DriverOf' it s name turns := by kernel_rfl
def sp23 : FnSpecR iseat.toSeat := mkSpecR iseat.toSeat 23 .Seed [.str, .int .i64] [.Driver] (fun b a => DriverOf b a.1 a.2.1) (fun b a y x hx h => fn_contractR (E := E23) Tryz.func23 (by kernel_rfl) (by kernel_rfl) (by kernel_rfl) (by kernel_rfl) rfl ((e23 itN b a.1 a.2.1).trans ((DriverOf_eq b a.1 a.2.1).symm.trans hx)) h)
def CrewOf_L4 (turns : Int) (out : List Driver) (i : Int) (s_word : Int) (kn_ : (List Driver) → Int → Int → Option (Seed × List Driver)) : Option (Seed × List Driver) :=
 bif (decide (i > 0)) then
 chk (decide (0 ≤ ((out.length : Int).tmod 4)) && decide (((out.length : Int).tmod 4) < ([(⟨#[97, 110, 110]⟩ : ByteArray), (⟨#[98, 111, 98]⟩ : ByteArray), (⟨#[99, 97, 116]⟩ : ByteArray), (⟨#[100, 97, 110]⟩ : ByteArray)].length : Int))) <|
 chk (decide (((out.length : Int).tmod 4).toNat < [(⟨#[97, 110, 110]⟩ : ByteArray), (⟨#[98, 111, 98]⟩ : ByteArray), (⟨#[99, 97, 116]⟩ : ByteArray), (⟨#[100, 97, 110]⟩ : ByteArray)].length)) <|
 (DriverOf (⟨s_word⟩ : Seed) ([(⟨#[97, 110, 110]⟩ : ByteArray), (⟨#[98, 111, 98]⟩ : ByteArray), (⟨#[99, 97, 116]⟩ : ByteArray), (⟨#[100, 97, 110]⟩ : ByteArray)].getD ((out.length : Int).tmod 4).toNat ⟨#[]⟩) turns).bind fun r2 =>
 chk (fitA (out.length + ([r2.2] : List Driver).length) 48) <|
 kn_ (out ++ ([r2.2] : List Driver)) (w64 (i - 1)) r2.1.word
 else
 some ((⟨s_word⟩ : Seed), out)
def CrewOf' (it : It (Seed × List Driver)) (s : Seed) (most_ : Int) (turns : Int) : Option (Seed × List Driver) :=
 (Below s (w64 (most_ + 1))).bind fun r =>
 it _ (fun (v_0 : (Unit × Unit × (List Driver) × Int × Unit) × ((Int × Unit) × Unit)) kn => CrewOf_L4 turns v_0.1.2.2.1 v_0.1.2.2.2.1 v_0.2.1.1 (fun y0 y1 y2 => kn (((), (), y0, y1, ()), ((y2, ()), ())))) (((), (), ([] : List Driver), r.2, ()), ((r.1.word, ()), ()))
def CrewOf : Seed → Int → Int → Option (Seed × List Driver) := opq (fun s most_ turns => CrewOf' itN s most_ turns)
theorem CrewOf_eq (s : Seed) (most_ : Int) (turns : Int) : CrewOf s most_ turns = CrewOf' itN s most_ turns := by unfold CrewOf; rw [opq_eq]
def E7 : FEnv iseat := ⟨⟨32, [], [sp22, sp23], [], [], [], [], [], [], [], [], [29], [0], true⟩, [(4, ⟨⟨[(0, .bx 0 0), (7, .osr 10), (8, .os 8 27 .Driver), (9, .v (.int .i64))], [(0, [.v (.int .u64)])]⟩, [2], [10], []⟩)]⟩
theorem e7 (it : It (Seed × List Driver)) (s : Seed) (most_ : Int) (turns : Int) : fnRunR (bt := .Seed) (ts := [.sl .Driver]) it E7 (bodyOf Tryz.f7) Tryz.f7.results.toList (encC .Seed s) (encA [.int .i64, .int .i64] (most_, turns, ())) = CrewOf' it s most_ turns := by kernel_rfl
def sp7 : FnSpecR iseat.toSeat := mkSpecR iseat.toSeat 7 .Seed [.int .i64, .int .i64] [.sl .Driver] (fun b a => CrewOf b a.1 a.2.1) (fun b a y x hx h => fn_contractR (E := E7) Tryz.func7 (by kernel_rfl) (by kernel_rfl) (by kernel_rfl) (by kernel_rfl) rfl ((e7 itN b a.1 a.2.1).trans ((CrewOf_eq b a.1 a.2.1).symm.trans hx)) h)
def NewSeed_L3 (nums : List Int) (i : Int) (x6_word : Int) (kn_ : Int → Int → Option Seed) : Option Seed :=
 bif (decide (i < (nums.length : Int))) then
 chk (decide (0 ≤ i) && decide (i < (nums.length : Int))) <|
 (next (⟨(IntKind.u64.wrap ((IntKind.u64.wrap ((IntKind.u64.wrap (x6_word * 6364136223846793005)) + (IntKind.u64.wrap ((nums.getD i.toNat 0))))) + 1442695040888963407))⟩ : Seed)).bind fun r =>
 kn_ (w64 (i + 1)) r.1.word
 else
 some (⟨x6_word⟩ : Seed)
def NewSeed' (it : It Seed) (nums : List Int) : Option Seed :=
 it _ (fun (v_0 : (Unit × Int × Unit) × ((Int × Unit) × Unit)) kn => NewSeed_L3 nums v_0.1.2.1 v_0.2.1.1 (fun y0 y1 => kn (((), y0, ()), ((y1, ()), ())))) (((), 0, ()), ((1, ()), ()))
def NewSeed : (List Int) → Option Seed := opq (fun nums => NewSeed' itN nums)
theorem NewSeed_eq (nums : List Int) : NewSeed nums = NewSeed' itN nums := by unfold NewSeed; rw [opq_eq]
def E8 : FEnv iseat := ⟨⟨31, [], [sp24], [], [], [], [], [], [], [], [], [], [], true⟩, [(3, ⟨⟨[(3, .bx 6 0), (4, .v (.int .i64))], [(6, [.v (.int .u64)])]⟩, [0], [], []⟩)]⟩
theorem e8 (it : It Seed) (nums : List Int) : fnRunB (bt := .Seed) it E8 (bodyOf Tryz.f8) Tryz.f8.results.toList (encA [.sl (.int .i64)] (nums, ())) = NewSeed' it nums := by kernel_rfl
def sp8 : FnSpecB iseat.toSeat := mkSpecB iseat.toSeat 8 .Seed [.sl (.int .i64)] (fun a => NewSeed a.1) (fun a y hx h => fn_contractB (E := E8) Tryz.func8 (by kernel_rfl) (by kernel_rfl) (by kernel_rfl) (by kernel_rfl) rfl ⟨_, rfl⟩ ((e8 itN a.1).trans ((NewSeed_eq a.1).symm.trans hx)) h)
def Same_L9 (i : Int) (a : List Driver) (b : List Driver) (kn_ : Int → Option Bool) (k : Int) (kn_2 : Int → Option Bool) : Option Bool :=
 chk (decide (0 ≤ i) && decide (i < (a.length : Int))) <|
 bif (decide (k < (((a.getD i.toNat dfltDriver).Turns).length : Int))) then
 chk (decide (0 ≤ i) && decide (i < (a.length : Int))) <|
 chk (decide (0 ≤ k) && decide (k < (((a.getD i.toNat dfltDriver).Turns).length : Int))) <|
 chk (decide (0 ≤ i) && decide (i < (b.length : Int))) <|
 chk (decide (0 ≤ k) && decide (k < (((b.getD i.toNat dfltDriver).Turns).length : Int))) <|
 bif (!(decide ((((a.getD i.toNat dfltDriver).Turns).getD k.toNat dfltTurn).From.Lo = (((b.getD i.toNat dfltDriver).Turns).getD k.toNat dfltTurn).From.Lo) && (decide ((((a.getD i.toNat dfltDriver).Turns).getD k.toNat dfltTurn).From.Hi = (((b.getD i.toNat dfltDriver).Turns).getD k.toNat dfltTurn).From.Hi) && (decide ((((a.getD i.toNat dfltDriver).Turns).getD k.toNat dfltTurn).To.Lo = (((b.getD i.toNat dfltDriver).Turns).getD k.toNat dfltTurn).To.Lo) && (decide ((((a.getD i.toNat dfltDriver).Turns).getD k.toNat dfltTurn).To.Hi = (((b.getD i.toNat dfltDriver).Turns).getD k.toNat dfltTurn).To.Hi) && true))))) then
 some false
 else
 kn_2 (w64 (k + 1))
 else
 kn_ (w64 (i + 1))
def Same_L4 (it : It Bool) (a : List Driver) (b : List Driver) (i : Int) (kn_ : Int → Option Bool) : Option Bool :=
 bif (decide (i < (a.length : Int))) then
 chk (decide (0 ≤ i) && decide (i < (a.length : Int))) <|
 chk (decide (0 ≤ i) && decide (i < (b.length : Int))) <|
 bif (!(((a.getD i.toNat dfltDriver).Name).toList == ((b.getD i.toNat dfltDriver).Name).toList)) then
 some false
 else
 chk (decide (0 ≤ i) && decide (i < (a.length : Int))) <|
 chk (decide (0 ≤ i) && decide (i < (b.length : Int))) <|
 bif ((a.getD i.toNat dfltDriver).Skills != (b.getD i.toNat dfltDriver).Skills) then
 some false
 else
 chk (decide (0 ≤ i) && decide (i < (a.length : Int))) <|
 chk (decide (0 ≤ i) && decide (i < (b.length : Int))) <|
 bif ((((a.getD i.toNat dfltDriver).Turns).length : Int) != (((b.getD i.toNat dfltDriver).Turns).length : Int)) then
 some false
 else
 it _ (fun (v_0 : (Int × Unit) × (Unit)) kn => Same_L9 i a b kn_ v_0.1.1 (fun y0 => kn ((y0, ()), (())))) ((0, ()), (()))
 else
 some true
def Same' (it : It Bool) (a : List Driver) (b : List Driver) : Option Bool :=
 bif ((a.length : Int) != (b.length : Int)) then
 some false
 else
 it _ (fun (v_0 : (Int × Unit) × (Unit)) kn => Same_L4 it a b v_0.1.1 (fun y0 => kn ((y0, ()), (())))) ((0, ()), (()))
def Same : (List Driver) → (List Driver) → Option Bool := opq (fun a b => Same' itN a b)
theorem Same_eq (a : List Driver) (b : List Driver) : Same a b = Same' itN a b := by unfold Same; rw [opq_eq]
def E14 : FEnv iseat := ⟨⟨84, [], [], [], [], [], [], [], [], [], [], [], [], true⟩, [(4, ⟨⟨[(5, .v (.int .i64))], []⟩, [0, 1], [], []⟩), (9, ⟨⟨[(6, .v (.int .i64))], []⟩, [5], [], []⟩)]⟩
theorem e14 (it : It Bool) (a : List Driver) (b : List Driver) : fnRun (ts := [.bool]) it E14 (bodyOf Tryz.f14) Tryz.f14.results.toList (encA [.sl .Driver, .sl .Driver] (a, b, ())) = Same' it a b := by kernel_rfl
def sp14 : FnSpec iseat.toSeat := mkSpec iseat.toSeat 14 [.sl .Driver, .sl .Driver] [.bool] true (fun a => Same a.1 a.2.1) (fun a x hx h h' => fn_contract (E := E14) Tryz.func14 (by kernel_rfl) (by kernel_rfl) (by kernel_rfl) (by kernel_rfl) rfl ((e14 itN a.1 a.2.1).trans ((Same_eq a.1 a.2.1).symm.trans hx)) h h') (fun _ x => rfl)
end
end Go.Proofs.Tp09
namespace Go.Proofs.Tp09
open Go Go.Ab
set_option linter.all false
set_option maxRecDepth 100000
def bI (l : List UInt8) : List Int := l.map fun b => (b.toNat : Int)
theorem bI_app (a b : List UInt8) : bI (a ++ b) = bI a ++ bI b := List.map_append
theorem bI_len (a : List UInt8) : (bI a).length = a.length := List.length_map ..
theorem okBy_bI (a : List UInt8) : Tx.okBy (bI a) = true := by
 unfold Tx.okBy bI
 rw [List.all_map, List.all_eq_true]
 intro b _
 have := UInt8.toNat_lt b
 simp; omega
theorem bytesV_bI (a : List UInt8) : Tx.bytesV (bI a) = mk a := by
 unfold Tx.bytesV Tx.byL bI mk
 rw [List.map_map]
 congr 2
 refine (List.map_congr_left fun b _ => ?_).trans (List.map_id a)
 show UInt8.ofNat ((b.toNat : Int)).toNat = b
 simp
theorem wStr_ok {a : List UInt8} {s : ByteArray} (h : a.length + (bl s).length ≤ 140737488355328) : Ok (fun r => r.1.1 = bI (a ++ bl s)) (wStr (bI a, ()) (s, ())) := by
 rw [wStr_eq]
 show Ok _ (wStr' itN (bI a) s)
 unfold wStr'
 refine Ok.bind (P := fun r => r.1.1 = bI a) (Ok.some rfl) fun r hr => ?_
 rw [hr]
 refine Ok.chk ?_ (Ok.some ?_)
 ·rw [bI_len]; exact decide_eq_true h
 ·show bI a ++ bytesI s = _
  rw [bI_app]; rfl
def NumOk (n : Int) : Prop := 0 ≤ n ∧ n ≤ 999999
def numL (n : Int) : List UInt8 := 32 :: digs n
def rowL (w : List UInt8) (ns : List Int) : List UInt8 := (w ++ ns.flatMap numL) ++ [10]
theorem nums_len : ∀ (ns : List Int), (∀ n ∈ ns, NumOk n) → (ns.flatMap numL).length ≤ 7 * ns.length
 | [], _ => Nat.le_refl _
 | n :: ns, h => by
  have h1 := h n (List.mem_cons_self ..)
  have h2 := digs_len h1.1 h1.2
  have h3 := nums_len ns fun m hm => h m (List.mem_cons_of_mem _ hm)
  simp only [List.flatMap_cons, List.length_append, numL, List.length_cons]
  omega
theorem take_snoc {α : Type} {l : List α} {k : Nat} {d : α} (h : k < l.length) : l.take (k + 1) = l.take k ++ [l.getD k d] := by
 rw [List.take_succ, List.getD_eq_getElem?_getD, List.getElem?_eq_getElem h]; rfl
theorem flat_snoc {α : Type} {l : List α} {k : Nat} {d : α} (f : α → List UInt8) (h : k < l.length) : (l.take (k + 1)).flatMap f = (l.take k).flatMap f ++ f (l.getD k d) := by
 rw [take_snoc (d := d) h, List.flatMap_append]; simp
theorem okI_of {n : Int} (h : NumOk n) : Tx.okI n = true := by
 unfold Tx.okI
 obtain ⟨h1, h2⟩ := h
 simp; omega
end Go.Proofs.Tp09
namespace Go.Proofs.Tp09
open Go Go.Ab
set_option linter.all false
set_option maxRecDepth 100000
def wDriver : List UInt8 := [100, 114, 105, 118, 101, 114]
def wTurn : List UInt8 := [116, 117, 114, 110]
def wEnd : List UInt8 := [101, 110, 100]
def turnNs (t : Turn) : List Int := [t.From.Lo, t.From.Hi, t.To.Lo, t.To.Hi]
def headL (d : Driver) : List UInt8 := rowL (wDriver ++ 32 :: bl d.Name) [d.Skills]
def turnL (t : Turn) : List UInt8 := rowL wTurn (turnNs t)
def driverL (d : Driver) : List UInt8 := headL d ++ d.Turns.flatMap turnL
def cnt : List Driver → Nat
 | [] => 0
 | d :: l => d.Turns.length + cnt l
def endL (n : Int) : List UInt8 := rowL wEnd [n]
def bodyL (l : List Driver) : List UInt8 := l.flatMap driverL
def textL (l : List Driver) : List UInt8 := bodyL l ++ endL (cnt l)
structure NumW (d : Driver) : Prop where
 s : NumOk d.Skills
 t : ∀ t ∈ d.Turns, ∀ n ∈ turnNs t, NumOk n
structure NumD (d : Driver) : Prop extends NumW d where
 n0 : bl d.Name ≠ []
 n32 : (32 : UInt8) ∉ bl d.Name
 n10 : (10 : UInt8) ∉ bl d.Name
theorem cnt_app : ∀ a b : List Driver, cnt (a ++ b) = cnt a + cnt b
 | [], b => (Nat.zero_add _).symm
 | d :: a, b => by show d.Turns.length + cnt (a ++ b) = d.Turns.length + cnt a + cnt b; rw [cnt_app a b, Nat.add_assoc]
theorem getD_mem' {α : Type} {l : List α} {d : α} {i : Nat} (h : i < l.length) : l.getD i d ∈ l := by
 rw [List.getD_eq_getElem?_getD, List.getElem?_eq_getElem h]; exact List.getElem_mem _
theorem cnt_take {l : List Driver} {k : Nat} {d : Driver} (h : k < l.length) : cnt (l.take (k + 1)) = cnt (l.take k) + (l.getD k d).Turns.length := by
 rw [take_snoc (d := d) h, cnt_app]; rfl
theorem cnt_le : ∀ (l : List Driver) (k : Nat), cnt (l.take k) ≤ cnt l
 | [], k => by rw [List.take_nil]; exact Nat.le_refl _
 | d :: l, 0 => Nat.zero_le _
 | d :: l, k + 1 => Nat.add_le_add_left (cnt_le l k) _
theorem flat_take {α : Type} (f : α → List UInt8) : ∀ (l : List α) (k : Nat), ((l.take k).flatMap f).length ≤ (l.flatMap f).length
 | [], k => by simp
 | x :: l, 0 => by simp
 | x :: l, k + 1 => by
  simp only [List.take_succ_cons, List.flatMap_cons, List.length_append]
  have := flat_take f l k
  omega
theorem flat_mem {α : Type} (f : α → List UInt8) : ∀ {l : List α} {x : α}, x ∈ l → (f x).length ≤ (l.flatMap f).length
 | y :: l, x, h => by
  rw [List.flatMap_cons, List.length_append]
  rcases List.mem_cons.1 h with rfl | h
  ·omega
  ·have := flat_mem f h; omega
theorem flat_cnt {α : Type} (f : α → List UInt8) (hf : ∀ x, 1 ≤ (f x).length) : ∀ l : List α, l.length ≤ (l.flatMap f).length
 | [] => Nat.le_refl _
 | x :: l => by
  have := flat_cnt f hf l
  have := hf x
  simp only [List.flatMap_cons, List.length_append, List.length_cons]; omega
theorem idx_ok {k n : Nat} (h : k < n) : (decide (0 ≤ (k : Int)) && decide ((k : Int) < (n : Int))) = true := by
 rw [decide_eq_true (by omega : (0 : Int) ≤ k), decide_eq_true (by omega : (k : Int) < n)]; rfl
theorem mk_size (l : List UInt8) : (mk l).size = l.length := by show l.toArray.size = _; simp
theorem bl_len (s : ByteArray) : (bl s).length = s.size := by show s.data.toList.length = s.data.size; simp
theorem cat_size (s t : ByteArray) : (catS s t).size = s.size + t.size := by
 rw [← bl_len, ← bl_len, ← bl_len, show bl (catS s t) = bl s ++ bl t from rfl, List.length_append]
theorem row_pos (w : List UInt8) (ns : List Int) : 1 ≤ (rowL w ns).length := by unfold rowL; rw [List.length_append]; exact Nat.le_add_left _ _
theorem turn_pos (t : Turn) : 1 ≤ (turnL t).length := row_pos _ _
theorem driver_pos (d : Driver) : 1 ≤ (driverL d).length := by unfold driverL; rw [List.length_append]; have := row_pos (wDriver ++ 32 :: bl d.Name) [d.Skills]; unfold headL; omega
theorem cnt_body : ∀ l : List Driver, cnt l ≤ (bodyL l).length
 | [] => Nat.le_refl _
 | d :: l => by
  have h1 := cnt_body l
  have h2 := flat_cnt turnL turn_pos d.Turns
  show d.Turns.length + cnt l ≤ (driverL d ++ bodyL l).length
  unfold driverL
  simp only [List.length_append]; omega
theorem put_ok {β : Type} {P : β → Prop} {a : List UInt8} {n : Int} {f : (((List Int) × Unit) × (Int × Bool)) → Option β} (hn : NumOk n) (ha : a.length ≤ 1000000) (hf : ∀ r, r.1.1 = bI (a ++ numL n) → Ok P (f r)) :
  Ok P ((Tx.itoaP n).bind fun r => chk (decide ((⟨#[32]⟩ : ByteArray).size + r.size ≤ 9223372036854775807)) <| (wStr (bI a, ()) ((catS (⟨#[32]⟩ : ByteArray) r), ())).bind f) := by
 have hdl := digs_len hn.1 hn.2
 refine Ok.bind (P := fun r => r = mk (digs n)) ⟨_, by unfold Tx.itoaP; rw [okI_of hn]; rfl, rfl⟩ fun r2 hr2 => ?_
 subst hr2
 have hcat : bl (catS ⟨#[32]⟩ (mk (digs n))) = numL n := rfl
 refine Ok.chk (by rw [mk_size]; show decide (1 + _ ≤ _) = true; exact decide_eq_true (by omega)) ?_
 refine Ok.bind (wStr_ok (a := a) (s := catS ⟨#[32]⟩ (mk (digs n))) (by rw [hcat]; simp only [numL, List.length_cons]; omega)) fun r3 hr3 => hf r3 ?_
 rw [hr3, hcat]
theorem L15_ok {P : ByteArray × Int → Prop} {l : List Driver} {k i : Nat} {a : List UInt8} {tn : Int} {t : Turn} {kn_2 : Int → Int → List Int → Option (ByteArray × Int)} (ht : ((l.getD k dfltDriver).Turns).getD i dfltTurn = t) (hn : ∀ n ∈ turnNs t, NumOk n) (ha : a.length ≤ 950000)
  (hk : Ok P (kn_2 (w64 (tn + 1)) (w64 ((i : Int) + 1)) (bI (a ++ (turnNs t).flatMap numL ++ [10])))) :
  Ok P (itN _ (fun (v_0 : (Unit × Int × Unit) × ((Unit × (List Int) × Unit) × Unit)) kn => Write_L15 l (k : Int) (i : Int) kn_2 tn v_0.1.2.1 v_0.2.1.2.1 (fun y0 y1 => kn (((), y0, ()), (((), y1, ()), ())))) (((), 0, ()), (((), bI a, ()), ()))) := by
 refine Ok.rounds (inv := fun v => ∃ j : Nat, j ≤ 4 ∧ v.1.2.1 = (j : Int) ∧ v.2.1.2.1 = bI (a ++ ((turnNs t).take j).flatMap numL)) (μ := fun v => 4 - v.1.2.1.toNat) (by show 4 - 0 < FUEL; unfold FUEL; omega) ⟨0, Nat.zero_le _, rfl, by simp⟩ ?_
 rintro v kn ⟨j, hj, e1, e2⟩ hkn
 rw [e1, e2]
 have hlen : (a ++ ((turnNs t).take j).flatMap numL).length ≤ 1000000 := by
  have h1 := nums_len ((turnNs t).take j) fun n h => hn n (List.mem_of_mem_take h)
  have h2 : ((turnNs t).take j).length ≤ 4 := by rw [List.length_take]; exact Nat.min_le_right _ _
  rw [List.length_append]; omega
 have go : ∀ n : Int, j < 4 → (turnNs t).getD j 0 = n → Ok P ((Tx.itoaP n).bind fun r => chk (decide ((⟨#[32]⟩ : ByteArray).size + r.size ≤ 9223372036854775807)) <| (wStr (bI (a ++ ((turnNs t).take j).flatMap numL), ()) ((catS (⟨#[32]⟩ : ByteArray) r), ())).bind fun r6 => kn (((), w64 ((j : Int) + 1), ()), (((), r6.1.1, ()), ()))) := fun n hj4 e => by
  have hl4 : j < (turnNs t).length := hj4
  refine put_ok (hn n (e ▸ getD_mem' hl4)) hlen fun r hr => ?_
  refine hkn _ ⟨j + 1, hj4, ?_, ?_⟩ ?_
  ·show w64 ((j : Int) + 1) = _
   rw [w64_id (by omega) (by omega)]; push_cast; rfl
  ·show r.1.1 = _
   rw [hr, flat_snoc (d := 0) numL hl4, e, List.append_assoc]
  ·show 4 - (w64 ((j : Int) + 1)).toNat < 4 - v.1.2.1.toNat
   rw [w64_id (by omega) (by omega), e1]; omega
 unfold Write_L15
 rw [show ((k : Int)).toNat = k by omega, show ((i : Int)).toNat = i by omega, ht]
 obtain rfl | rfl | rfl | rfl | rfl : j = 0 ∨ j = 1 ∨ j = 2 ∨ j = 3 ∨ j = 4 := by omega
 ·exact Ok.ite (fun _ => Ok.ite (fun _ => go _ (by decide) rfl) fun q => absurd q (by decide)) fun q => absurd q (by decide)
 ·exact Ok.ite (fun _ => Ok.ite (fun q => absurd q (by decide)) fun _ => Ok.ite (fun _ => go _ (by decide) rfl) fun q => absurd q (by decide)) fun q => absurd q (by decide)
 ·exact Ok.ite (fun _ => Ok.ite (fun q => absurd q (by decide)) fun _ => Ok.ite (fun q => absurd q (by decide)) fun _ => Ok.ite (fun _ => go _ (by decide) rfl) fun q => absurd q (by decide)) fun q => absurd q (by decide)
 ·exact Ok.ite (fun _ => Ok.ite (fun q => absurd q (by decide)) fun _ => Ok.ite (fun q => absurd q (by decide)) fun _ => Ok.ite (fun q => absurd q (by decide)) fun _ => Ok.ite (fun _ => go _ (by decide) rfl) fun q => absurd q (by decide)) fun q => absurd q (by decide)
 ·refine Ok.ite (fun q => absurd q (by decide)) fun _ => ?_
  refine Ok.bind (wStr_ok (a := a ++ ((turnNs t).take 4).flatMap numL) (s := ⟨#[10]⟩) (by show _ + 1 ≤ _; omega)) fun r hr => ?_
  rw [hr]
  exact hk
theorem L11_ok {P : ByteArray × Int → Prop} {l : List Driver} {k tn : Nat} {d : Driver} {a : List UInt8} {kn_ : Int → Int → List Int → Option (ByteArray × Int)} (hd : l.getD k dfltDriver = d) (hn : ∀ t ∈ d.Turns, ∀ n ∈ turnNs t, NumOk n) (ha : a.length + (d.Turns.flatMap turnL).length ≤ 900000) (htn : tn + d.Turns.length ≤ 1000000)
  (hk : Ok P (kn_ ((tn + d.Turns.length : Nat) : Int) (w64 ((k : Int) + 1)) (bI (a ++ d.Turns.flatMap turnL)))) :
  Ok P (itN _ (fun (v_0 : (Unit × Int × Int × Unit) × ((Unit × (List Int) × Unit) × Unit)) kn => Write_L11 itN l (k : Int) kn_ v_0.1.2.1 v_0.1.2.2.1 v_0.2.1.2.1 (fun y0 y1 y2 => kn (((), y0, y1, ()), (((), y2, ()), ())))) (((), (tn : Int), 0, ()), (((), bI a, ()), ()))) := by
 refine Ok.rounds (inv := fun v => ∃ j : Nat, j ≤ d.Turns.length ∧ v.1.2.1 = ((tn + j : Nat) : Int) ∧ v.1.2.2.1 = (j : Int) ∧ v.2.1.2.1 = bI (a ++ (d.Turns.take j).flatMap turnL)) (μ := fun v => d.Turns.length - v.1.2.2.1.toNat) (by show d.Turns.length - 0 < FUEL; unfold FUEL; omega) ⟨0, Nat.zero_le _, rfl, rfl, by simp⟩ ?_
 rintro v kn ⟨j, hj, e0, e1, e2⟩ hkn
 rw [e0, e1, e2]
 unfold Write_L11
 rw [show ((k : Int)).toNat = k by omega, hd]
 by_cases hlt : j < d.Turns.length
 ·refine Ok.ite (fun _ => ?_) (fun q => absurd (decide_eq_true (by omega : (j : Int) < (d.Turns.length : Int))) (by rw [q]; decide))
  refine Ok.chk (idx_ok hlt) ?_
  have hp := flat_take turnL d.Turns j
  refine Ok.bind (wStr_ok (a := a ++ (d.Turns.take j).flatMap turnL) (s := ⟨#[116, 117, 114, 110]⟩) (by rw [List.length_append]; show _ + 4 ≤ _; omega)) fun r hr => ?_
  rw [hr]
  refine L15_ok (t := d.Turns.getD j dfltTurn) (by rw [hd]) (hn _ (getD_mem' hlt)) (by simp only [List.length_append]; show _ + _ + 4 ≤ _; omega) ?_
  refine hkn _ ⟨j + 1, hlt, ?_, ?_, ?_⟩ ?_
  ·show w64 (((tn + j : Nat) : Int) + 1) = _
   rw [w64_id (by omega) (by omega)]; push_cast; omega
  ·show w64 ((j : Int) + 1) = _
   rw [w64_id (by omega) (by omega)]; push_cast; rfl
  ·show bI _ = _
   rw [flat_snoc (d := dfltTurn) turnL hlt]
   unfold turnL rowL
   rw [show bl ⟨#[116, 117, 114, 110]⟩ = wTurn from rfl]
   simp only [List.append_assoc]
  ·show d.Turns.length - (w64 ((j : Int) + 1)).toNat < d.Turns.length - v.1.2.2.1.toNat
   rw [w64_id (by omega) (by omega), e1]; omega
 ·have hjn : j = d.Turns.length := by omega
  refine Ok.ite (fun q => absurd (of_decide_eq_true q) (by omega)) (fun _ => ?_)
  rw [hjn, List.take_length]
  exact hk
theorem Write_text {l : List Driver} (hc : pChecks l = some 0) (hn : ∀ d ∈ l, NumW d) (hl : (textL l).length ≤ 800000) : Write l = some (mk (textL l), 0) := by
 have key : Ok (fun r => r = (mk (textL l), 0)) (Write l) := by
  rw [Write_eq]
  unfold Write'
  refine Ok.bind (P := fun r => r = 0) ⟨_, hc, rfl⟩ fun r0 hr0 => ?_
  subst hr0
  refine Ok.ite (fun q => absurd q (by decide)) fun _ => ?_
  have hR : (bodyL l).length + (endL (cnt l)).length ≤ 800000 := by unfold textL at hl; rwa [List.length_append] at hl
  have hcn := cnt_body l
  have hll := flat_cnt driverL driver_pos l
  have hll : l.length ≤ (bodyL l).length := hll
  refine Ok.rounds (inv := fun v => ∃ k : Nat, k ≤ l.length ∧ v.1.2.1 = ((cnt (l.take k) : Nat) : Int) ∧ v.1.2.2.1 = (k : Int) ∧ v.2.1.2.1 = bI (bodyL (l.take k))) (μ := fun v => l.length - v.1.2.2.1.toNat) (by show l.length - 0 < FUEL; unfold FUEL; omega) ⟨0, Nat.zero_le _, rfl, rfl, rfl⟩ ?_
  rintro v kn ⟨k, hk, e0, e1, e2⟩ hkn
  rw [e0, e1, e2]
  unfold Write_L7
  rw [show ((k : Int)).toNat = k by omega]
  by_cases hlt : k < l.length
  ·refine Ok.ite (fun _ => ?_) (fun q => absurd (decide_eq_true (by omega : (k : Int) < (l.length : Int))) (by rw [q]; decide))
   refine Ok.chk (idx_ok hlt) ?_
   have ht := hn _ (getD_mem' (d := dfltDriver) hlt)
   generalize hT : l.getD k dfltDriver = d at ht
   have hp : (bodyL (l.take k)).length + (driverL d).length ≤ 800000 := by
    have := flat_take driverL l (k + 1)
    rw [flat_snoc (d := dfltDriver) driverL hlt, hT, List.length_append] at this
    have e : (bodyL l).length = (l.flatMap driverL).length := rfl
    have e' : (bodyL (l.take k)).length = ((l.take k).flatMap driverL).length := rfl
    omega
   have hD : (driverL d).length = (headL d).length + (d.Turns.flatMap turnL).length := List.length_append
   have hH : (headL d).length = 6 + (1 + d.Name.size) + (1 + (digs d.Skills).length) + 1 := by
    show (((wDriver ++ 32 :: bl d.Name) ++ [d.Skills].flatMap numL) ++ [10]).length = _
    simp only [List.length_append, List.length_cons, List.length_nil, List.flatMap_cons, List.flatMap_nil, numL, List.append_nil]
    rw [bl_len]
    have : wDriver.length = 6 := rfl
    omega
   have hds := digs_len ht.s.1 ht.s.2
   have z7 : (⟨#[100, 114, 105, 118, 101, 114, 32]⟩ : ByteArray).size = 7 := rfl
   have z1 : (⟨#[32]⟩ : ByteArray).size = 1 := rfl
   have z2 : (⟨#[10]⟩ : ByteArray).size = 1 := rfl
   refine Ok.chk (decide_eq_true (by omega)) (Ok.chk (decide_eq_true (by rw [cat_size]; omega)) ?_)
   refine Ok.bind (P := fun r => r = mk (digs d.Skills)) ⟨_, by unfold Tx.itoaP; rw [okI_of ht.s]; rfl, rfl⟩ fun r2 hr2 => ?_
   subst hr2
   refine Ok.chk (decide_eq_true (by rw [cat_size, cat_size, mk_size]; omega)) (Ok.chk (decide_eq_true (by rw [cat_size, cat_size, cat_size, mk_size]; omega)) ?_)
   have hcat : bl (catS (catS (catS (catS (⟨#[100, 114, 105, 118, 101, 114, 32]⟩ : ByteArray) d.Name) (⟨#[32]⟩ : ByteArray)) (mk (digs d.Skills))) (⟨#[10]⟩ : ByteArray)) = headL d := by
    show (((([100, 114, 105, 118, 101, 114, 32] ++ bl d.Name) ++ [32]) ++ digs d.Skills) ++ [10]) = ((wDriver ++ 32 :: bl d.Name) ++ [d.Skills].flatMap numL) ++ [10]
    simp [wDriver, numL]
   refine Ok.bind (wStr_ok (a := bodyL (l.take k)) (by rw [hcat]; omega)) fun r3 hr3 => ?_
   rw [hr3, hcat]
   have hct := cnt_take (d := dfltDriver) hlt
   have hcl := cnt_le l (k + 1)
   rw [hT] at hct
   refine L11_ok hT ht.t (by rw [List.length_append]; omega) (by omega) ?_
   refine hkn _ ⟨k + 1, hlt, ?_, ?_, ?_⟩ ?_
   ·show _ = ((cnt (l.take (k + 1)) : Nat) : Int)
    rw [hct]
   ·show w64 ((k : Int) + 1) = _
    rw [w64_id (by omega) (by omega)]; push_cast; rfl
   ·show bI _ = bI ((l.take (k + 1)).flatMap driverL)
    rw [flat_snoc (d := dfltDriver) driverL hlt, hT]
    unfold driverL bodyL
    simp only [List.append_assoc]
    rfl
   ·show l.length - (w64 ((k : Int) + 1)).toNat < l.length - v.1.2.2.1.toNat
    rw [w64_id (by omega) (by omega), e1]; omega
  ·have hkn' : k = l.length := by omega
   refine Ok.ite (fun q => absurd (of_decide_eq_true q) (by omega)) (fun _ => ?_)
   rw [hkn', List.take_length]
   refine Ok.bind (P := fun r => r.2 = mk (bodyL l)) ⟨((), mk (bodyL l)), by unfold strP; rw [okBy_bI, bytesV_bI]; rfl, rfl⟩ fun r10 h10 => ?_
   rw [h10]
   have hcnt : NumOk ((cnt l : Nat) : Int) := ⟨by omega, by omega⟩
   have hds := digs_len hcnt.1 hcnt.2
   have z4 : (⟨#[101, 110, 100, 32]⟩ : ByteArray).size = 4 := rfl
   have z2 : (⟨#[10]⟩ : ByteArray).size = 1 := rfl
   refine Ok.chk (decide_eq_true (by rw [mk_size]; omega)) ?_
   refine Ok.bind (P := fun r => r = mk (digs ((cnt l : Nat) : Int))) ⟨_, by unfold Tx.itoaP; rw [okI_of hcnt]; rfl, rfl⟩ fun r2 hr2 => ?_
   subst hr2
   refine Ok.chk (decide_eq_true (by rw [cat_size, mk_size, mk_size]; omega)) (Ok.chk (decide_eq_true (by rw [cat_size, cat_size, mk_size, mk_size]; omega)) (Ok.some ?_))
   have e : bl (catS (catS (catS (mk (bodyL l)) (⟨#[101, 110, 100, 32]⟩ : ByteArray)) (mk (digs ((cnt l : Nat) : Int)))) (⟨#[10]⟩ : ByteArray)) = textL l := by
    show ((bodyL l ++ [101, 110, 100, 32]) ++ digs (cnt l)) ++ [10] = bodyL l ++ ((wEnd ++ [((cnt l : Nat) : Int)].flatMap numL) ++ [10])
    simp [wEnd, numL]
   rw [← e]; rfl
 obtain ⟨r, h1, rfl⟩ := key
 exact h1
end Go.Proofs.Tp09
namespace Go.Proofs.Tp09
open Go Go.Ab Go.Proofs.Crew
set_option linter.all false
set_option maxRecDepth 100000
theorem u64_bnd (n : Int) : 0 ≤ IntKind.u64.wrap n ∧ IntKind.u64.wrap n < 18446744073709551616 := by
 unfold IntKind.wrap
 simp [IntKind.bits, IntKind.signed]
 omega
theorem u64_id {n : Int} (h1 : 0 ≤ n) (h2 : n < 18446744073709551616) : IntKind.u64.wrap n = n := by
 unfold IntKind.wrap
 simp [IntKind.bits, IntKind.signed]
 omega
theorem next_ok (s : Seed) : Ok (fun r => 0 ≤ r.2 ∧ r.2 < 18446744073709551616) (next s) := by
 rw [next_eq]
 exact ⟨_, rfl, u64_bnd _⟩
theorem Below_ok (s : Seed) {n : Int} (hn : n ≤ 1000000000) : Ok (fun r => 0 ≤ r.2 ∧ (r.2 < n ∨ r.2 = 0)) (Below s n) := by
 rw [Below_eq]
 refine Ok.ite (fun h => Ok.some ⟨Int.le_refl _, .inr rfl⟩) fun h => ?_
 have hn2 : ¬ n < 2 := by simpa using h
 refine Ok.bind (next_ok s) fun r hr => ?_
 have hu : IntKind.u64.wrap n = n := u64_id (by omega) (by omega)
 refine Ok.chk (by rw [hu]; simp; omega) (Ok.some ?_)
 rw [hu]
 have e : shrI .u64 r.2 1 = r.2 / 2 := by
  unfold shrI
  rw [Int.fdiv_eq_ediv_of_nonneg _ (by decide)]
  simp [IntKind.bits]
 rw [e, Int.tmod_eq_emod_of_nonneg (by omega)]
 have h1 := Int.emod_nonneg (r.2 / 2) (show n ≠ 0 by omega)
 have h2 := Int.emod_lt_of_pos (r.2 / 2) (show 0 < n by omega)
 rw [w64_id (by omega) (by omega)]
 exact ⟨h1, .inl h2⟩
theorem Of_ok (s : Seed) {l : List Int} (h0 : l ≠ []) (hl : l.length ≤ 1000) : Ok (fun r => r.2 ∈ l) (Of s l) := by
 rw [Of_eq]
 have hp : 0 < l.length := List.length_pos_iff.2 h0
 refine Ok.ite (fun h => ?_) fun h => Ok.bind (Below_ok s (n := (l.length : Int)) (by omega)) fun r hr => Ok.chk ?_ (Ok.some ?_)
 ·simp at h; exact absurd h h0
 ·simp; omega
 ·simp only
  rw [List.getD_eq_getElem?_getD, List.getElem?_eq_getElem (by omega)]
  exact List.getElem_mem _
theorem NewSeed_ok {nums : List Int} (hn : nums.length ≤ 9223372036854775807) : Ok (fun _ => True) (NewSeed nums) := by
 rw [NewSeed_eq]
 refine Ok.rounds (fun v => 0 ≤ v.1.2.1 ∧ v.1.2.1 ≤ nums.length) (fun v => ((nums.length : Int) - v.1.2.1).toNat) ?_ ?_ ?_
 ·show ((nums.length : Int) - 0).toNat < 18446744073709551616
  omega
 ·simp
 ·rintro ⟨⟨_, i, _⟩, ⟨w, _⟩, _⟩ kn hi' hk
  simp only at hi'
  refine Ok.ite (fun hlt => ?_) fun _ => Ok.some trivial
  simp only [decide_eq_true_eq] at hlt
  have e : w64 (i + 1) = i + 1 := w64_id (by omega) (by omega)
  refine Ok.chk (by simp; omega) (Ok.bind (next_ok _) fun r _ => hk _ ?_ ?_)
  ·simp [e]; omega
  ·simp [e]; omega
structure DMade (name : ByteArray) (n : Int) (d : Driver) : Prop where
 nm : d.Name = name
 sk : 0 ≤ d.Skills ∧ d.Skills ≤ 7
 len : (d.Turns.length : Int) ≤ n
 tv : ∀ t ∈ d.Turns, TV t ∧ t.To.Hi ≤ 10 + 60 * n
 srt : d.Turns.Pairwise fun a b => a.To.Hi ≤ b.From.Lo
theorem DriverOf_ok (s : Seed) (name : ByteArray) {n : Int} (h0 : 0 ≤ n) (h1 : n ≤ 20) : Ok (fun r => DMade name n r.2) (DriverOf s name n) := by
 rw [DriverOf_eq]
 unfold DriverOf'
 refine Ok.bind (Below_ok s (by decide)) fun r1 q1 => ?_
 refine Ok.bind (Below_ok _ (by decide)) fun r2 q2 => ?_
 have e0 : w64 (n + 1) = n + 1 := w64_id (by omega) (by omega)
 rw [e0]
 refine Ok.bind (Below_ok _ (by omega)) fun r3 q3 => ?_
 refine Ok.rounds (fun v => 0 ≤ v.1.2.2.2.2.1 ∧ v.1.2.2.2.2.1 + v.2.2.1.2.2.1.length ≤ n ∧ v.2.2.1.1 = name ∧ 0 ≤ v.2.2.1.2.1 ∧ v.2.2.1.2.1 ≤ 7 ∧ 0 ≤ v.1.2.2.2.1 ∧ v.1.2.2.2.1 ≤ 10 + 60 * v.2.2.1.2.2.1.length ∧ (∀ t ∈ v.2.2.1.2.2.1, TV t ∧ t.To.Hi ≤ v.1.2.2.2.1) ∧ v.2.2.1.2.2.1.Pairwise fun a b => a.To.Hi ≤ b.From.Lo) (fun v => v.1.2.2.2.2.1.toNat) ?_ ?_ ?_
 ·simp only; unfold FUEL; omega
 ·refine ⟨by simp only; omega, by simp only [List.length_nil]; omega, rfl, by simp only; omega, by simp only; omega, by simp only; omega, by simp only [List.length_nil]; omega, fun t ht => (by cases ht), .nil⟩
 rintro ⟨⟨u1, u2, u3, a, i, u4⟩, ⟨w, u5⟩, ⟨nm, sk, ts, u6⟩, u7⟩ kn ⟨i0, i1, i2, i3, i4, i5, i6, i7, i8⟩ hk
 simp only at i0 i1 i2 i3 i4 i5 i6 i7 i8 hk ⊢
 unfold DriverOf_L4
 refine Ok.ite (fun hc => ?_) (fun hc => ?_)
 ·have hi := of_decide_eq_true hc
  refine Ok.bind (Below_ok _ (by decide)) fun r4 q4 => ?_
  refine Ok.bind (Below_ok _ (by decide)) fun r5 q5 => ?_
  refine Ok.bind (Of_ok _ (by simp) (by simp)) fun r6 q6 => ?_
  refine Ok.bind (Below_ok _ (by decide)) fun r7 q7 => ?_
  refine Ok.bind (Below_ok _ (by decide)) fun r8 q8 => ?_
  refine Ok.bind (Of_ok _ (by simp) (by simp)) fun r9 q9 => ?_
  have q6' : 0 ≤ r6.2 ∧ r6.2 ≤ 5 := by simp only [List.mem_cons, List.not_mem_nil, or_false] at q6; omega
  have q9' : 0 ≤ r9.2 ∧ r9.2 ≤ 5 := by simp only [List.mem_cons, List.not_mem_nil, or_false] at q9; omega
  have e1 : w64 (a + r4.2) = a + r4.2 := w64_id (by omega) (by omega)
  have e2 : w64 (a + r4.2 + r6.2) = a + r4.2 + r6.2 := w64_id (by omega) (by omega)
  have e3 : w64 (a + r4.2 + r6.2 + r7.2) = a + r4.2 + r6.2 + r7.2 := w64_id (by omega) (by omega)
  have e4 : w64 (a + r4.2 + r6.2 + r7.2 + r9.2) = a + r4.2 + r6.2 + r7.2 + r9.2 := w64_id (by omega) (by omega)
  have e5 : w64 (i - 1) = i - 1 := w64_id (by omega) (by omega)
  simp only [e1, e2, e3, e4, e5]
  refine Ok.chk (fitA_ok (by simp only [List.length_cons, List.length_nil]; omega) (by decide)) ?_
  refine hk (((), (), (), a + r4.2 + r6.2 + r7.2 + r9.2, i - 1, ()), ((r9.1.word, ()), (nm, sk, ts ++ [⟨⟨a + r4.2, a + r4.2 + r6.2⟩, ⟨a + r4.2 + r6.2 + r7.2, a + r4.2 + r6.2 + r7.2 + r9.2⟩⟩], ()), ())) ⟨by simp only; omega, ?_, i2, i3, i4, by simp only; omega, ?_, ?_, ?_⟩ (by simp only; omega)
  ·simp only [List.length_append, List.length_cons, List.length_nil]; omega
  ·simp only [List.length_append, List.length_cons, List.length_nil]; omega
  ·intro t ht
   simp only [List.mem_append, List.mem_singleton] at ht ⊢
   rcases ht with ht | rfl
   ·obtain ⟨j1, j2⟩ := i7 t ht; exact ⟨j1, by omega⟩
   ·simp only [TV]; omega
  ·simp only
   rw [List.pairwise_append]
   refine ⟨i8, List.pairwise_singleton _ _, fun x hx y hy => ?_⟩
   rw [List.mem_singleton.1 hy]
   have := (i7 x hx).2
   simp only; omega
 ·refine Ok.some ⟨i2, ⟨i3, i4⟩, by simp only; omega, fun t ht => ?_, i8⟩
  obtain ⟨j1, j2⟩ := i7 t ht
  exact ⟨j1, by omega⟩
theorem DMade.ok {name : ByteArray} {n : Int} {d : Driver} (h : DMade name n d) (hn : NameOk name) (h1 : n ≤ 20) : DOk d :=
 ⟨by rw [h.nm]; exact hn, by have := h.sk; omega, by have := h.len; omega, fun t ht => ⟨(h.tv t ht).1, by have := (h.tv t ht).2; omega⟩, h.srt⟩
def NameG (b : ByteArray) : Prop := NameOk b ∧ bl b ≠ [] ∧ (32 : UInt8) ∉ bl b ∧ (10 : UInt8) ∉ bl b
theorem nameG {l : List UInt8} (h0 : 1 ≤ l.length) (h1 : l.length ≤ 8) (h2 : (Lib.trimS l az.data.toList).isEmpty = true) (h3 : (32 : UInt8) ∉ l) (h4 : (10 : UInt8) ∉ l) : NameG (mk l) := by
 have hs : (mk l).size = l.length := by show l.toArray.size = _; simp
 refine ⟨⟨by omega, by omega, _, by rw [Tx.trim_eq, show Tx.okTrim (mk l) az = true by unfold Tx.okTrim; rw [decide_eq_true (by omega)]; rfl]; rfl, ?_⟩, fun e => ?_, h3, h4⟩
 ·rw [Lib.toList_data, Lib.toList_data]
  show (Lib.trimS l az.data.toList == []) = true
  cases hl : Lib.trimS l az.data.toList with
  | nil => rfl
  | cons _ _ => rw [hl] at h2; cases h2
 ·rw [show bl (mk l) = l from rfl] at e
  rw [e] at h0; exact absurd h0 (by decide)
theorem CrewOf_ok (s : Seed) {most turns : Int} (h0 : 0 ≤ most) (h1 : most ≤ 100) (t0 : 0 ≤ turns) (t1 : turns ≤ 20) : Ok (fun r => (r.2.length : Int) ≤ most ∧ ∀ d ∈ r.2, ∃ name : ByteArray, NameG name ∧ DMade name turns d) (CrewOf s most turns) := by
 rw [CrewOf_eq]
 have e0 : w64 (most + 1) = most + 1 := w64_id (by omega) (by omega)
 refine Ok.bind (Below_ok s (by rw [e0]; omega)) fun r hr => ?_
 rw [e0] at hr
 refine Ok.rounds (fun v => 0 ≤ v.1.2.2.2.1 ∧ (v.1.2.2.1.length : Int) + v.1.2.2.2.1 ≤ most ∧ ∀ d ∈ v.1.2.2.1, ∃ name : ByteArray, NameG name ∧ DMade name turns d) (fun v => v.1.2.2.2.1.toNat) ?_ ?_ ?_
 ·show r.2.toNat < 18446744073709551616
  omega
 ·exact ⟨hr.1, by show ((0 : Nat) : Int) + r.2 ≤ most; omega, fun d hd => by cases hd⟩
 rintro ⟨⟨_, _, out, i, _⟩, ⟨⟨w, _⟩, _⟩⟩ kn ⟨i0, i1, i2⟩ hk
 simp only at i0 i1 i2 ⊢
 refine Ok.ite (fun hlt => ?_) fun _ => Ok.some ⟨by simp only; omega, i2⟩
 have hlt := of_decide_eq_true hlt
 have e : w64 (i - 1) = i - 1 := w64_id (by omega) (by omega)
 have et : ((out.length : Int).tmod 4) = ((out.length % 4 : Nat) : Int) := by
  rw [Int.tmod_eq_emod_of_nonneg (by omega)]; omega
 have hm4 : out.length % 4 < 4 := Nat.mod_lt _ (by omega)
 rw [et]
 simp only [Int.toNat_natCast]
 have hname : ∀ k, k < 4 → NameG ([(⟨#[97, 110, 110]⟩ : ByteArray), (⟨#[98, 111, 98]⟩ : ByteArray), (⟨#[99, 97, 116]⟩ : ByteArray), (⟨#[100, 97, 110]⟩ : ByteArray)].getD k ⟨#[]⟩) := by
  intro k hk
  match k, hk with
  | 0, _ => exact nameG (l := [97, 110, 110]) (by decide) (by decide) (by decide) (by decide) (by decide)
  | 1, _ => exact nameG (l := [98, 111, 98]) (by decide) (by decide) (by decide) (by decide) (by decide)
  | 2, _ => exact nameG (l := [99, 97, 116]) (by decide) (by decide) (by decide) (by decide) (by decide)
  | 3, _ => exact nameG (l := [100, 97, 110]) (by decide) (by decide) (by decide) (by decide) (by decide)
 refine Ok.chk (by simp; omega) (Ok.chk (by simp; omega) (Ok.bind (DriverOf_ok _ _ t0 t1) fun r2 h2 => Ok.chk (fitA_ok (by simp; omega) (by omega)) (hk _ ?_ ?_)))
 ·simp only [e, List.length_append, List.length_singleton]
  refine ⟨by omega, by push_cast; omega, fun d hd => ?_⟩
  rcases List.mem_append.1 hd with hd | hd
  ·exact i2 d hd
  ·simp only [List.mem_singleton] at hd; subst hd
   exact ⟨_, hname _ hm4, h2⟩
 ·simp only [e]; omega
end Go.Proofs.Tp09
