/- Walks by computing: what each function of the program that the laws reach gives for what it gets, as plain Lean, and that it is so; without a condition but those that stand in each theorem. -/
import Derived.Test.YtbkogeihjcnejaaGreatDoorW1
import Derived.Test.YtbkogeihjcnejaaGreatDoorW2
import Derived.Test.YtbkogeihjcnejaaGreatDoorW3
import Derived.Test.YtbkogeihjcnejaaGreatDoorW4
import Derived.Test.YtbkogeihjcnejaaGreatDoorW5
import Derived.Test.YtbkogeihjcnejaaGreatDoorW6
import Derived.Test.YtbkogeihjcnejaaGreatDoorW7
import Derived.Test.YtbkogeihjcnejaaGreatDoorW8
import Derived.Test.YtbkogeihjcnejaaGreatDoorW9
import Derived.Test.YtbkogeihjcnejaaGreatDoorW10
set_option linter.all false
namespace Go.Proofs.Tp09
open Go Go.Ab
open Go.Proofs.YtbkogeihjcnejaaGreatDoor (iseat)
set_option linter.all false
set_option maxRecDepth 100000
noncomputable section
def pChecks_L4 (l : List Driver) (x11 : Int) (kn_ : Int → Option Int) : Option Int :=
 bif (decide (x11 < (l.length : Int))) then
 chk (decide (0 ≤ x11) && decide (x11 < (l.length : Int))) <|
 (Crew.pCheck (l.getD x11.toNat dfltDriver)).bind fun r =>
 bif (r != 0) then
 some r
 else
 kn_ (w64 (x11 + 1))
 else
 some 0
def pChecks' (it : It Int) (l : List Driver) : Option Int :=
 bif (decide ((l.length : Int) > 4)) then
 some 8
 else
 it _ (fun (v_0 : (Int × Unit) × (Unit)) kn => pChecks_L4 l v_0.1.1 (fun y0 => kn ((y0, ()), (())))) ((0, ()), (()))
def pChecks : (List Driver) → Option Int := opq (fun l => pChecks' itN l)
theorem pChecks_eq (l : List Driver) : pChecks l = pChecks' itN l := by unfold pChecks; rw [opq_eq]
def E25 : FEnv iseat := ⟨⟨21, [Crew.sp49], [], [], [], [], [], [], [], [], [], [], [], true⟩, [(4, ⟨⟨[(11, .v (.int .i64))], []⟩, [9, 10], [], []⟩)]⟩
theorem e25 (it : It Int) (l : List Driver) : fnRun (ts := [.int .i64]) it E25 (bodyOf Tryz.f25) Tryz.f25.results.toList (encA [.sl .Driver] (l, ())) = pChecks' it l := by kernel_rfl
def sp25 : FnSpec iseat.toSeat := mkSpec iseat.toSeat 25 [.sl .Driver] [.int .i64] true (fun a => pChecks a.1) (fun a x hx h h' => fn_contract (E := E25) Tryz.func25 (by kernel_rfl) (by kernel_rfl) (by kernel_rfl) (by kernel_rfl) rfl ((e25 itN a.1).trans ((pChecks_eq a.1).symm.trans hx)) h h') (fun _ x => rfl)
def wStr' (it : It (((List Int) × Unit) × (Int × Bool))) (x1 : List Int) (s : ByteArray) : Option (((List Int) × Unit) × (Int × Bool)) :=
 (ccheckP (x1, ()) (())).bind fun r =>
 chk (decide (r.1.1.length + s.size ≤ 140737488355328)) <|
 some (((r.1.1 ++ bytesI s), ()), ((s.size : Int), true))
def E26 : FEnv iseat := ⟨⟨19, [], [], [], [], [], [], [Tx.sp50], [], [], [], [], [0], false⟩, []⟩
theorem e26 (it : It (((List Int) × Unit) × (Int × Bool))) (x1 : List Int) (s : ByteArray) : fnRunZ 68 5 (.int .u8) (ts := [.int .i64, .err]) it (E26 ) (bodyOf Tryz.f26) Tryz.f26.results.toList (x1, ()) (encAK [.p 0, .d .str] (s, ())) = wStr' it x1 s := by kernel_rfl
def wStr : ((List Int) × Unit) → (ByteArray × Unit) → Option (((List Int) × Unit) × (Int × Bool)) := opq (fun x a => wStr' itN x.1 a.1)
theorem wStr_eq : wStr = fun x a => wStr' itN x.1 a.1 := by unfold wStr; rw [opq_eq]
def sp26 : FnSpecM iseat.toSeat := mkSpecZ iseat.toSeat 26 68 5 (.int .u8) [.p 0, .d .str] [.int .i64, .err] [] [0] wStr (fun x a y z hx => fn_contractZ (E := E26 ) Tryz.func26 (by kernel_rfl) (by kernel_rfl) (by kernel_rfl) (by kernel_rfl) rfl rfl ((e26 itN x.1 a.1).trans ((congrFun (congrFun wStr_eq x) a).symm.trans hx)))
def Write_L15 (l : List Driver) (x20 : Int) (x37 : Int) (kn_2 : Int → Int → (List Int) → Option (ByteArray × Int)) (turns2 : Int) (x55 : Int) (s_buf3 : List Int) (kn_3 : Int → (List Int) → Option (ByteArray × Int)) : Option (ByteArray × Int) :=
 bif (decide (x55 < 4)) then
 bif x55 == 0 then
 (Tx.itoaP ((((l.getD x20.toNat dfltDriver).Turns).getD x37.toNat dfltTurn).From.Lo)).bind fun r5 =>
 chk (decide ((⟨#[32]⟩ : ByteArray).size + r5.size ≤ 9223372036854775807)) <|
 (wStr (s_buf3, ()) ((catS (⟨#[32]⟩ : ByteArray) r5), ())).bind fun r6 =>
 kn_3 (w64 (x55 + 1)) r6.1.1
 else
 bif x55 == 1 then
 (Tx.itoaP ((((l.getD x20.toNat dfltDriver).Turns).getD x37.toNat dfltTurn).From.Hi)).bind fun r7 =>
 chk (decide ((⟨#[32]⟩ : ByteArray).size + r7.size ≤ 9223372036854775807)) <|
 (wStr (s_buf3, ()) ((catS (⟨#[32]⟩ : ByteArray) r7), ())).bind fun r8 =>
 kn_3 (w64 (x55 + 1)) r8.1.1
 else
 bif x55 == 2 then
 (Tx.itoaP ((((l.getD x20.toNat dfltDriver).Turns).getD x37.toNat dfltTurn).To.Lo)).bind fun r9 =>
 chk (decide ((⟨#[32]⟩ : ByteArray).size + r9.size ≤ 9223372036854775807)) <|
 (wStr (s_buf3, ()) ((catS (⟨#[32]⟩ : ByteArray) r9), ())).bind fun r10 =>
 kn_3 (w64 (x55 + 1)) r10.1.1
 else
 bif x55 == 3 then
 (Tx.itoaP ((((l.getD x20.toNat dfltDriver).Turns).getD x37.toNat dfltTurn).To.Hi)).bind fun r11 =>
 chk (decide ((⟨#[32]⟩ : ByteArray).size + r11.size ≤ 9223372036854775807)) <|
 (wStr (s_buf3, ()) ((catS (⟨#[32]⟩ : ByteArray) r11), ())).bind fun r12 =>
 kn_3 (w64 (x55 + 1)) r12.1.1
 else
 none
 else
 (wStr (s_buf3, ()) ((⟨#[10]⟩ : ByteArray), ())).bind fun r13 =>
 kn_2 (w64 (turns2 + 1)) (w64 (x37 + 1)) r13.1.1
def Write_L11 (it : It (ByteArray × Int)) (l : List Driver) (x20 : Int) (kn_ : Int → Int → (List Int) → Option (ByteArray × Int)) (turns2 : Int) (x37 : Int) (s_buf2 : List Int) (kn_2 : Int → Int → (List Int) → Option (ByteArray × Int)) : Option (ByteArray × Int) :=
 bif (decide (x37 < (((l.getD x20.toNat dfltDriver).Turns).length : Int))) then
 chk (decide (0 ≤ x37) && decide (x37 < (((l.getD x20.toNat dfltDriver).Turns).length : Int))) <|
 (wStr (s_buf2, ()) ((⟨#[116, 117, 114, 110]⟩ : ByteArray), ())).bind fun r4 =>
 it _ (fun (v_0 : (Unit × Int × Unit) × ((Unit × (List Int) × Unit) × Unit)) kn => Write_L15 l x20 x37 kn_2 turns2 v_0.1.2.1 v_0.2.1.2.1 (fun y0 y1 => kn (((), y0, ()), (((), y1, ()), ())))) (((), 0, ()), (((), r4.1.1, ()), ()))
 else
 kn_ turns2 (w64 (x20 + 1)) s_buf2
def Write_L7 (it : It (ByteArray × Int)) (l : List Driver) (turns : Int) (x20 : Int) (s_buf : List Int) (kn_ : Int → Int → (List Int) → Option (ByteArray × Int)) : Option (ByteArray × Int) :=
 bif (decide (x20 < (l.length : Int))) then
 chk (decide (0 ≤ x20) && decide (x20 < (l.length : Int))) <|
 chk (decide ((⟨#[100, 114, 105, 118, 101, 114, 32]⟩ : ByteArray).size + ((l.getD x20.toNat dfltDriver).Name).size ≤ 9223372036854775807)) <|
 chk (decide ((catS (⟨#[100, 114, 105, 118, 101, 114, 32]⟩ : ByteArray) ((l.getD x20.toNat dfltDriver).Name)).size + (⟨#[32]⟩ : ByteArray).size ≤ 9223372036854775807)) <|
 (Tx.itoaP ((l.getD x20.toNat dfltDriver).Skills)).bind fun r2 =>
 chk (decide ((catS (catS (⟨#[100, 114, 105, 118, 101, 114, 32]⟩ : ByteArray) ((l.getD x20.toNat dfltDriver).Name)) (⟨#[32]⟩ : ByteArray)).size + r2.size ≤ 9223372036854775807)) <|
 chk (decide ((catS (catS (catS (⟨#[100, 114, 105, 118, 101, 114, 32]⟩ : ByteArray) ((l.getD x20.toNat dfltDriver).Name)) (⟨#[32]⟩ : ByteArray)) r2).size + (⟨#[10]⟩ : ByteArray).size ≤ 9223372036854775807)) <|
 (wStr (s_buf, ()) ((catS (catS (catS (catS (⟨#[100, 114, 105, 118, 101, 114, 32]⟩ : ByteArray) ((l.getD x20.toNat dfltDriver).Name)) (⟨#[32]⟩ : ByteArray)) r2) (⟨#[10]⟩ : ByteArray)), ())).bind fun r3 =>
 it _ (fun (v_0 : (Unit × Int × Int × Unit) × ((Unit × (List Int) × Unit) × Unit)) kn => Write_L11 it l x20 kn_ v_0.1.2.1 v_0.1.2.2.1 v_0.2.1.2.1 (fun y0 y1 y2 => kn (((), y0, y1, ()), (((), y2, ()), ())))) (((), turns, 0, ()), (((), r3.1.1, ()), ()))
 else
 (strP (s_buf, ()) (())).bind fun r14 =>
 chk (decide (r14.2.size + (⟨#[101, 110, 100, 32]⟩ : ByteArray).size ≤ 9223372036854775807)) <|
 (Tx.itoaP turns).bind fun r15 =>
 chk (decide ((catS r14.2 (⟨#[101, 110, 100, 32]⟩ : ByteArray)).size + r15.size ≤ 9223372036854775807)) <|
 chk (decide ((catS (catS r14.2 (⟨#[101, 110, 100, 32]⟩ : ByteArray)) r15).size + (⟨#[10]⟩ : ByteArray).size ≤ 9223372036854775807)) <|
 some ((catS (catS (catS r14.2 (⟨#[101, 110, 100, 32]⟩ : ByteArray)) r15) (⟨#[10]⟩ : ByteArray)), 0)
def Write' (it : It (ByteArray × Int)) (l : List Driver) : Option (ByteArray × Int) :=
 (pChecks l).bind fun r =>
 bif (r != 0) then
 some ((⟨#[]⟩ : ByteArray), r)
 else
 it _ (fun (v_0 : (Unit × Int × Int × Unit) × ((Unit × (List Int) × Unit) × Unit)) kn => Write_L7 it l v_0.1.2.1 v_0.1.2.2.1 v_0.2.1.2.1 (fun y0 y1 y2 => kn (((), y0, y1, ()), (((), y2, ()), ())))) (((), 0, 0, ()), (((), ([] : List Int), ()), ()))
def Write : (List Driver) → Option (ByteArray × Int) := opq (fun l => Write' itN l)
theorem Write_eq (l : List Driver) : Write l = Write' itN l := by unfold Write; rw [opq_eq]
def E9 : FEnv iseat := ⟨⟨74, [sp25, Tx.sp27], [], [], [], [], [], [sp26, Tx.sp28], [], [], [], [], [], true⟩, [(7, ⟨⟨[(5, .bx 5 0), (6, .v (.int .i64)), (20, .v (.int .i64))], [(5, [.mb 5 68, .os 40000005 5 (.int .u8)])]⟩, [18, 19], [], []⟩), (11, ⟨⟨[(5, .bx 5 0), (6, .v (.int .i64)), (37, .v (.int .i64))], [(5, [.mb 5 68, .os 40000005 5 (.int .u8)])]⟩, [20, 35, 36], [], []⟩), (15, ⟨⟨[(5, .bx 5 0), (55, .v (.int .i64))], [(5, [.mb 5 68, .os 40000005 5 (.int .u8)])]⟩, [6, 37, 54], [], []⟩)]⟩
theorem e9 (it : It (ByteArray × Int)) (l : List Driver) : fnRun (ts := [.str, .int .i64]) it E9 (bodyOf Tryz.f9) Tryz.f9.results.toList (encA [.sl .Driver] (l, ())) = Write' it l := by kernel_rfl
def sp9 : FnSpec iseat.toSeat := mkSpec iseat.toSeat 9 [.sl .Driver] [.str, .int .i64] true (fun a => Write a.1) (fun a x hx h h' => fn_contract (E := E9) Tryz.func9 (by kernel_rfl) (by kernel_rfl) (by kernel_rfl) (by kernel_rfl) rfl ((e9 itN a.1).trans ((Write_eq a.1).symm.trans hx)) h h') (fun _ x => rfl)
end
end Go.Proofs.Tp09
namespace Go.Proofs.Tp09
open Go Go.Ab
open Go.Proofs.YtbkogeihjcnejaaGreatDoor (iseat)
set_option linter.all false
set_option maxRecDepth 100000
noncomputable section
def numbers_L5 (words : List ByteArray) (l : List Int) (x17 : Int) (kn_ : (List Int) → Int → Option ((List Int) × Bool)) : Option ((List Int) × Bool) :=
 bif (decide (x17 < (words.length : Int))) then
 chk (decide (0 ≤ x17) && decide (x17 < (words.length : Int))) <|
 (Tx.atoiP (words.getD x17.toNat ⟨#[]⟩)).bind fun r =>
 bif (!r.2) then
 some (([] : List Int), false)
 else
 bif (decide (r.1 < 0)) then
 some (([] : List Int), false)
 else
 bif (decide (((words.getD x17.toNat ⟨#[]⟩).size : Int) > 6)) then
 some (([] : List Int), false)
 else
 (Tx.itoaP r.1).bind fun r2 =>
 bif (!(r2.toList == (words.getD x17.toNat ⟨#[]⟩).toList)) then
 some (([] : List Int), false)
 else
 chk (fitA (l.length + [r.1].length) 8) <|
 kn_ (l ++ [r.1]) (w64 (x17 + 1))
 else
 some (l, true)
def numbers' (it : It ((List Int) × Bool)) (words : List ByteArray) (many : Int) : Option ((List Int) × Bool) :=
 bif ((words.length : Int) != many) then
 some (([] : List Int), false)
 else
 it _ (fun (v_0 : ((List Int) × Int × Unit) × (Unit)) kn => numbers_L5 words v_0.1.1 v_0.1.2.1 (fun y0 y1 => kn ((y0, y1, ()), (())))) ((([] : List Int), 0, ()), (()))
def numbers : (List ByteArray) → Int → Option ((List Int) × Bool) := opq (fun words many => numbers' itN words many)
theorem numbers_eq (words : List ByteArray) (many : Int) : numbers words many = numbers' itN words many := by unfold numbers; rw [opq_eq]
def E53 : FEnv iseat := ⟨⟨49, [Tx.sp68, Tx.sp27], [], [], [], [], [], [], [], [], [], [45], [], true⟩, [(5, ⟨⟨[(6, .os 6 3 (.int .i64)), (17, .v (.int .i64))], []⟩, [15, 16], [], []⟩)]⟩
theorem e53 (it : It ((List Int) × Bool)) (words : List ByteArray) (many : Int) : fnRun (ts := [.sl (.int .i64), .bool]) it E53 (bodyOf Tryz.f53) Tryz.f53.results.toList (encA [.sl .str, .int .i64] (words, many, ())) = numbers' it words many := by kernel_rfl
def sp53 : FnSpec iseat.toSeat := mkSpec iseat.toSeat 53 [.sl .str, .int .i64] [.sl (.int .i64), .bool] false (fun a => numbers a.1 a.2.1) (fun a x hx h h' => fn_contract (E := E53) Tryz.func53 (by kernel_rfl) (by kernel_rfl) (by kernel_rfl) (by kernel_rfl) rfl ((e53 itN a.1 a.2.1).trans ((numbers_eq a.1 a.2.1).symm.trans hx)) h h') (fun h => nomatch h)
def driverR' (it : It (Reader × Bool)) (r : Reader) (words : List ByteArray) : Option (Reader × Bool) :=
 bif (decide ((words.length : Int) < 1)) then
 some (r, false)
 else
 chk (decide (0 ≤ 0) && decide (0 < (words.length : Int))) <|
 bif ((words.getD 0 ⟨#[]⟩).toList == (⟨#[]⟩ : ByteArray).toList) then
 some (r, false)
 else
 chk (decide (0 ≤ 1) && decide (1 ≤ (words.length : Int)) && decide ((words.length : Int) ≤ (words.length : Int))) <|
 (numbers (subL words 1 (words.length : Int)) 1).bind fun r2 =>
 bif r2.2 then
 chk (decide (0 ≤ 0) && decide (0 < (words.length : Int))) <|
 chk (decide (0 ≤ 0) && decide (0 < (r2.1.length : Int))) <|
 none
 else
 some (r, r2.2)
def driverR : Reader → (List ByteArray) → Option (Reader × Bool) := opq (fun r words => driverR' itN r words)
theorem driverR_eq (r : Reader) (words : List ByteArray) : driverR r words = driverR' itN r words := by unfold driverR; rw [opq_eq]
def E31 : FEnv iseat := ⟨⟨40, [sp53], [], [], [], [], [], [], [], [], [], [35], [0], true⟩, []⟩
theorem e31 (it : It (Reader × Bool)) (r : Reader) (words : List ByteArray) : fnRunR (bt := .Reader) (ts := [.bool]) it E31 (bodyOf Tryz.f31) Tryz.f31.results.toList (encC .Reader r) (encA [.sl .str] (words, ())) = driverR' it r words := by kernel_rfl
def turnR' (it : It (Reader × Bool)) (r : Reader) (words : List ByteArray) : Option (Reader × Bool) :=
 (numbers words 4).bind fun r2 =>
 bif (!r2.2) then
 some (r, false)
 else
 bif ((r.drivers.length : Int) == 0) then
 some (r, false)
 else
 chk (decide (0 ≤ (w64 ((r.drivers.length : Int) - 1))) && decide ((w64 ((r.drivers.length : Int) - 1)) < (r.drivers.length : Int))) <|
 chk (decide (0 ≤ 0) && decide (0 < (r2.1.length : Int))) <|
 chk (decide (0 ≤ 1) && decide (1 < (r2.1.length : Int))) <|
 chk (decide (0 ≤ 2) && decide (2 < (r2.1.length : Int))) <|
 chk (decide (0 ≤ 3) && decide (3 < (r2.1.length : Int))) <|
 none
def turnR : Reader → (List ByteArray) → Option (Reader × Bool) := opq (fun r words => turnR' itN r words)
theorem turnR_eq (r : Reader) (words : List ByteArray) : turnR r words = turnR' itN r words := by unfold turnR; rw [opq_eq]
def E32 : FEnv iseat := ⟨⟨65, [sp53], [], [], [], [], [], [], [], [], [], [54], [0], true⟩, []⟩
theorem e32 (it : It (Reader × Bool)) (r : Reader) (words : List ByteArray) : fnRunR (bt := .Reader) (ts := [.bool]) it E32 (bodyOf Tryz.f32) Tryz.f32.results.toList (encC .Reader r) (encA [.sl .str] (words, ())) = turnR' it r words := by kernel_rfl
def endedR' (it : It (Reader × Bool)) (r : Reader) (words : List ByteArray) : Option (Reader × Bool) :=
 (numbers words 1).bind fun r2 =>
 bif r2.2 then
 chk (decide (0 ≤ 0) && decide (0 < (r2.1.length : Int))) <|
 some ((⟨r.drivers, r.turns, r.end_, (r2.1.getD 0 0)⟩ : Reader), r2.2)
 else
 some (r, r2.2)
def endedR : Reader → (List ByteArray) → Option (Reader × Bool) := opq (fun r words => endedR' itN r words)
theorem endedR_eq (r : Reader) (words : List ByteArray) : endedR r words = endedR' itN r words := by unfold endedR; rw [opq_eq]
def E33 : FEnv iseat := ⟨⟨20, [sp53], [], [], [], [], [], [], [], [], [], [], [0], true⟩, []⟩
theorem e33 (it : It (Reader × Bool)) (r : Reader) (words : List ByteArray) : fnRunR (bt := .Reader) (ts := [.bool]) it E33 (bodyOf Tryz.f33) Tryz.f33.results.toList (encC .Reader r) (encA [.sl .str] (words, ())) = endedR' it r words := by kernel_rfl
end
end Go.Proofs.Tp09
namespace Go.Ab
open Go Go.RowKit
set_option linter.all false
abbrev FB : Nat := 50000000
noncomputable def mkF (rs : List (Nat × D)) (os : List (Nat × Own)) (h : Nat → Nat) (bg : Nat → Own) : St := ⟨look .undef rs, h, fun s => bif Nat.ble FB s then bg s else look .none os s⟩
section
variable {X : Ctx} {Q : Exit → St → Prop} {S : St}
def MatchF (S : St) (rs : List (Nat × D)) (os : List (Nat × Own)) (bg : Nat → Own) : Prop := AllE S.ρ rs ∧ AllE S.σ os ∧ ∀ s, FB ≤ s → bg s = .none ∨ bg s = S.σ s
theorem wk_mkF {rs : List (Nat × D)} {os : List (Nat × Own)} {bg : Nat → Own} (h : MatchF S rs os bg) : Wk X S (mkF rs os S.γ bg) :=
 wk_gen (look_ok h.1) (fun _ => Nat.le_refl _) (fun s => by
  show (bif Nat.ble FB s then bg s else look .none os s) = .none ∨ (bif Nat.ble FB s then bg s else look .none os s) = S.σ s
  cases hb : Nat.ble FB s with
  | true => exact h.2.2 s (Nat.le_of_ble_eq_true hb)
  | false => exact look_ok h.2.1 s)
theorem W_loopF {c : Code} {α : Type} (rs : α → (Nat → Nat) → List (Nat × D)) (os : α → (Nat → Nat) → List (Nat × Own)) (bg : α → (Nat → Nat) → Nat → Own) (inv : α → Prop) (μ : α → Nat) (x0 : α) (h0 : inv x0) (hs : MatchF S (rs x0 S.γ) (os x0 S.γ) (bg x0 S.γ))
  (round : ∀ x h, inv x → W X c (thenQ (fun S' => ∃ x' S'', inv x' ∧ μ x' < μ x ∧ Wk X S' S'' ∧ MatchF S'' (rs x' S''.γ) (os x' S''.γ) (bg x' S''.γ)) Q) (mkF (rs x h) (os x h) h (bg x h))) : W X (.loop c) Q S := by
 refine W_loop (α := α × (Nat → Nat)) (fun x => mkF (rs x.1 x.2) (os x.1 x.2) x.2 (bg x.1 x.2)) (fun x => inv x.1) (fun x => μ x.1) (x0, S.γ) h0 (wk_mkF hs) (fun x hi => ?_)
 refine W_mono (round x.1 x.2 hi) (fun e S' hq => ?_)
 cases e with
 | normal =>
  obtain ⟨x', S'', h1, h2, h3, h4⟩ := hq
  exact ⟨(x', S''.γ), h1, h2, h3.trans (wk_mkF h4)⟩
 | _ => exact hq
end
def canF (i : Nat) : Nat × Nat := (i, 1)
def OwA.ownF (q : OwA) (f : Nat → Nat × Nat) : Own := .arr q.E q.z q.n (fun j => renLM f (q.el j))
structure OwnsF (base : Nat) (κ : Nat → Nat → Option Value) (sl : Nat → Value) (w : World) (k : Nat) (os : Nat → OwA) : Prop where
 own : ∀ i, i < k → Owns base κ (fun _ => 1) sl w i ((os i).ownF canF)
 sep : ∀ i, i < k → ∀ b, blk (os i).own (sl i) = some b → ∀ o, κ b o = none
 inj : ∀ i j b, i < k → j < k → blk (os i).own (sl i) = some b → blk (os j).own (sl j) = some b → i = j
structure ContractOF (Z : Seat) (f : FuncId) (A : List D) (R : D) (k : Nat) (os : Nat → OwA) : Prop where
 pureA : PureL A
 poR : POk k R
 poE : ∀ j, j < k → ∀ i, i < (os j).n → POkL k ((os j).el i)
 body : HasBody Z.P f
 calls : ∀ (w : World) (κ : Nat → Nat → Option Value) (args : List Value), Fits κ w → GlobOk Z κ w → RepL κ γ0 sv0 A args →
  Calls Z.P f args.toArray w fun e w' => ∃ v sl κ', e = .returned v ∧ Rep κ' (fun _ => 1) sl (renM canF R) v ∧ (∀ b o u, κ b o = some u → κ' b o = some u) ∧ (∀ b o u, b < w.heap.size → κ' b o = some u → κ b o = some u) ∧
   (∀ b o u, κ' b o = some u → w'.cell? ⟨b, o, none⟩ = some u) ∧ OwnsF w.heap.size κ' sl w' k os ∧ Below w.heap.size w w'
section
variable {X : Ctx} {Q : Exit → St → Prop} {S : St} {ops : Array Oper} {o : Oper} {rest : List Oper}
end
end Go.Ab
namespace Go.Ab
open Go Go.RowKit
set_option linter.all false
section
variable {X : Ctx} {S : St}
theorem wk_new (s E z : Nat) (f : Nat → List D) : Wk X S ⟨S.ρ, upd S.γ s (S.γ s + 1), upd S.σ s (.arr E z 0 f)⟩ := fun κ sv a w hs => by
 have hle := le_renew κ S.γ sv s (.slice none 0 0)
 have hW := hs.wld.renew s (.arr E z 0 f) (.slice none 0 0) (below_grown (Below.refl _ _) _) (fun b hb => by cases hb)
   ⟨[], by rw [upd_same]; exact ownsAt_nil _ _ _ _, fun _ h => by omega, fun _ h => by omega, fun _ h => by omega⟩ S.ρ
 exact ⟨κ, upd sv s (.slice none 0 0), ⟨hs.size, hs.defers, fun i hi => (hs.slot i hi).mono hle, hW⟩⟩
theorem wk_nil_elem (t i j s : Nat) (E z : Nat) (f : Nat → List D) {E2 z2 n2 : Nat} {f2 f2' : Nat → List D} {l' : List D} (hσt : S.σ t = .arr E2 z2 n2 f2) (hne : t ≠ s) (hi : i < n2) (hl : nth (f2 i) j = some .nil) (hl' : overN (f2 i) j [.os s (S.γ s + 1)] = some l')
  (hf : ∀ k, k < n2 → f2' k = if k = i then l' else f2 k) :
  Wk X S ⟨S.ρ, upd S.γ s (S.γ s + 1), upd (upd S.σ s (.arr E z 0 f)) t (.arr E2 z2 n2 f2')⟩ := fun κ sv a w hs => by
 obtain ⟨hl'e, hlen⟩ := overN_eq hl'
 have hle := le_renew κ S.γ sv s (.slice none 0 0)
 have hW := hs.wld.renew s (.arr E z 0 f) (.slice none 0 0) (below_grown (Below.refl _ _) _) (fun b hb => by cases hb)
   ⟨[], by rw [upd_same]; exact ownsAt_nil _ _ _ _, fun _ h => by omega, fun _ h => by omega, fun _ h => by omega⟩ S.ρ
 refine ⟨κ, upd sv s (.slice none 0 0), ⟨hs.size, hs.defers, fun i hi => (hs.slot i hi).mono hle, ?_⟩⟩
 have hown := hW.own t
 simp only [upd_ne _ _ _ _ hne, hσt] at hown
 obtain ⟨xs, e1, e2, e3, e4⟩ := hown
 refine hW.rewrite t (.arr E2 z2 n2 f2') (below_grown (Below.refl _ _) _) (by
   simp only [upd_ne _ _ _ _ hne, hσt]
   cases sv t with
   | pointer a => cases a <;> rfl
   | slice a => cases a <;> rfl
   | map a => cases a <;> rfl
   | _ => rfl) ⟨xs, e1, fun k hk => ?_, fun k hk => ?_, fun k hk => ?_⟩ _
 ·rw [hf k hk]
  split
  ·rename_i h; subst h; rw [hl'e]; have := e2 k hk; simp at hlen ⊢; omega
  ·exact e2 k hk
 ·rw [hf k hk]
  split
  ·rename_i h; subst h; rw [hl'e]; exact allCell_append (allCell_append (allCell_take (e3 k hk) _) rfl) (allCell_drop (e3 k hk) _)
  ·exact e3 k hk
 ·rw [hf k hk]
  split
  ·rename_i h
   subst h
   rw [hl'e]
   have e3' := e4 k hk
   rw [nth_eq] at hl
   obtain ⟨vj, hvj, hrj⟩ := e3'.get hl
   generalize (xs.drop (k * z2)).take z2 = cs at e3' hvj
   have hjl : j < cs.length := (List.getElem?_eq_some_iff.1 hvj).1
   have hcs : cs = cs.take j ++ [vj] ++ cs.drop (j + 1) := by
    have h3 : cs[j] = vj := by simpa [List.getElem?_eq_getElem hjl] using hvj
    rw [← h3, List.append_assoc, List.singleton_append, List.getElem_cons_drop, List.take_append_drop]
   rw [hcs]
   refine ((e3'.take j).append (.cons _ _ _ _ ?_ .nil)).append (e3'.drop _)
   cases hrj
   exact .os _ _ _ (by rw [upd_same]; exact Nat.le_refl _) (fun _ => by rw [upd_same]) rfl
  ·exact e4 k hk
end
end Go.Ab
namespace Go.Ab
open Go Go.RowKit
set_option linter.all false
section
variable {X : Ctx} {Q : Exit → St → Prop} {S : St} {ops : Array Oper} {o : Oper} {rest : List Oper}
theorem WL_callRv {f : FuncId} {xc : Operand} {x0 : Operand} {xs : List Operand} {ts : Array TypeId} {l l' A : List D} {R : D} {s g : Nat} (hg : o.guard = none) (ho : o.op = .call { callee := .value xc, args := (x0 :: xs).toArray, argTypes := ts }) (hxc : S.ev X xc = .fn f []) (hx : S.ev X x0 = .bx s g 0) (hγ : S.γ s = g) (hσ : S.σ s = .box l)
  (hc : ContractR X.Z f l l' A R) (hA : xs.map (S.ev X) = A) {t : Nat} (hd : o.dst = some t) (hk : WL X ops rest Q ⟨upd S.ρ t R, S.γ, upd S.σ s (.box l')⟩) : WL X ops (o :: rest) Q S := fun κ sv a w hs => by
 obtain ⟨b, T, cs, he, hsv, hh, hrep, hac⟩ := box_cells hs hx hγ hσ
 have hblk : blk (S.σ s) (sv s) = some b := by rw [hσ, hsv]; rfl
 have hr := evs_rep hs xs
 rw [hA] at hr
 obtain ⟨lb, hl1, hl2⟩ := ev_fn hs hxc
 cases hl2
 have hrun := run_callv (P := X.Z.P) (a := a) (w := w) hc.body ho hl1
 simp only [List.map_cons, he, List.append_nil] at hrun
 have hcall := hc.calls w κ (xs.map a.eval) b T cs (Sim.fits hs.wld) (fun o => hs.wld.sep s b o hblk) hh (hrep.pure (fun _ _ _ h => h) hc.purel) (Sim.globOk hs.wld) (hr.pure (fun _ _ _ h => h) hc.pureA)
 refine wpListIn_plain hg fun K hK => op_call hrun hcall ?_
 rintro e w' ⟨v, cs', T', rfl, hh', hl', hv, hfr⟩
 have hgr : w.grownBy w' (some b) := ⟨hfr.os, hfr.tape, hfr.output, hfr.size, fun k hk hne => hfr.block k hk hne⟩
 have hle : Le κ (growK κ w w') S.γ S.γ sv sv := le_growK hs.wld.imm w'
 have hbt : ∀ t, t ≠ s → ∀ b', blk (S.σ t) (sv t) = some b' → w'.heap[b']? = w.heap[b']? := fun t ht b' hb' =>
  hgr.block b' (owns_lt (hs.wld.own t) hb') (fun e => ht (hs.wld.inj t s b' hb' (by rw [hblk]; exact e.symm)))
 have hbk : ∀ t b', blk (upd S.σ s (.box l') t) (sv t) = some b' → blk (S.σ t) (sv t) = some b' := by
  intro t b' hb'
  by_cases e : t = s
  ·subst e; rw [upd_same, hsv] at hb'; rw [hblk]; exact hb'
  ·rw [upd_ne _ _ _ _ e] at hb'; exact hb'
 have hW : SimW X (growK κ w w') sv ⟨S.ρ, S.γ, upd S.σ s (.box l')⟩ w' := by
  have h0 := hs.wld
  obtain ⟨h1, h2, h3, h4, h5, _, h7, h8, h9, h10, h11, h12, h13, h14, h15⟩ := hs.wld
  refine ⟨fun b' o v hk => ?_, fun t => ?_, fun t u b' ht hu => h3 t u b' (hbk t b' ht) (hbk u b' hu), fun t b' o ht => ?_, fun t b' ht => h5 t b' (hbk t b' ht), frame_step h0 hgr (fun b' e => ⟨s, by rw [hblk]; exact e⟩) (fun t b' ht => .inr ⟨t, hbk t b' ht⟩), fun g l hgl => ?_, fun b' o v hlt hk => ?_, h9, Nat.le_trans h10 hgr.size, h11.trans hle, fun b' o v hk => ?_, fun t b' ht => h13 t b' (hbk t b' ht), fun b h => Nat.lt_of_lt_of_le (h14 b h) hgr.size, h15⟩
  ·simp only [growK] at hk
   split at hk
   ·refine hgr.cell (h1 b' o v hk) (fun e => ?_)
    simp only [Option.some.injEq] at e
    subst e
    rw [h4 s b' o hblk] at hk; cases hk
   ·exact hk
  ·by_cases e : t = s
   ·subst e; simp only [upd_same]
    exact ⟨b, T', cs', hsv, hh', hl'.pure (fun _ _ _ h => h) hc.purel', .pure hc.cell' hc.purel'⟩
   ·simp only [upd_ne _ _ _ _ e]
    exact owns_mono hle rfl (hbt t e) (h2 t)
  ·have hb' := hbk t b' ht
   have := owns_lt (h2 t) hb'
   simp only [growK]; rw [if_pos this]; exact h4 t b' o hb'
  ·obtain ⟨hc2, u, hu, hk⟩ := h7 g l hgl
   exact ⟨hc2, u, hu.mono hle, fun j v hj => hle.cells _ _ _ (hk j v hj)⟩
  ·have := h10
   simp only [growK] at hk
   rw [if_pos (by omega)] at hk
   exact h8 b' o v hlt hk
  ·simp only [growK] at hk
   split at hk
   ·exact h12 b' o v hk
   ·intro hT; have := h14 b' hT; omega
 have hs' : Sim X (growK κ w w') sv ⟨S.ρ, S.γ, upd S.σ s (.box l')⟩ a w' := ⟨hs.size, dfr_own hs s (by rw [hblk]; exact hgr), fun i hi => (hs.slot i hi).mono hle, hW⟩
 refine ⟨v, rfl, ?_⟩
 rw [hd]
 exact hK _ _ (hk _ sv _ w' (hs'.put (some t) (hv.pure (fun _ _ _ h => h) hc.pureR)))
end
end Go.Ab
