/- Walks by computing: what each function of the program that the laws reach gives for what it gets, as plain Lean, and that it is so; without a condition but those that stand in each theorem. -/
import Derived.Test.YtafnhieaeejlcaaDoorW1
import Derived.Test.YtafnhieaeejlcaaDoorW2
import Derived.Test.YtafnhieaeejlcaaDoorW3
import Derived.Test.YtafnhieaeejlcaaDoorW4
import Derived.Test.YtafnhieaeejlcaaDoorW5
import Derived.Test.YtafnhieaeejlcaaDoorW6
set_option linter.all false
namespace Go.Proofs.Plain04
open Go Go.Ab
open Go.Proofs.YtafnhieaeejlcaaDoor (iseat seat chkConvoy meetingP optM bigS c18 c19 c20 c23 c27 c28)
set_option linter.all false
set_option maxRecDepth 100000
noncomputable section
def oH (h : Hold) : Go.Proofs.YtafnhieaeejlcaaDoor.Hold := ⟨h.At, h.Until⟩
def oT (t : Truck) : Go.Proofs.YtafnhieaeejlcaaDoor.Truck := ⟨t.Way, t.Start, t.Pace.Lo, t.Pace.Hi, t.Holds.map oH⟩
def oC (c : Convoy) : Go.Proofs.YtafnhieaeejlcaaDoor.Convoy := ⟨c.Length, c.Gap, c.Fails, c.Trucks.map oT⟩
def nM (m : Go.Proofs.YtafnhieaeejlcaaDoor.Meeting) : Meeting := ⟨m.m, m.i, m.k, m.fi, m.fk, m.p, m.q⟩
theorem getD_map {α β : Type} (f : α → β) (l : List α) (i : Nat) (d : α) : (l.map f).getD i (f d) = f (l.getD i d) := by
  simp only [List.getD_eq_getElem?_getD, List.getElem?_map]
  cases l[i]? <;> rfl
theorem encTruck_o (t : Truck) : Go.Proofs.YtafnhieaeejlcaaDoor.encTruck (oT t) = encDTruck t := by
  unfold Go.Proofs.YtafnhieaeejlcaaDoor.encTruck encDTruck slOf oT
  simp only [List.length_map]
  have : (fun i => Go.Proofs.YtafnhieaeejlcaaDoor.encHold ((t.Holds.map oH).getD i default)) = fun i => encDHold (t.Holds.getD i dfltHold) := by
    funext i
    rw [show (default : Go.Proofs.YtafnhieaeejlcaaDoor.Hold) = oH dfltHold from rfl, getD_map]
    rfl
  rw [this]
theorem encConvoy_o (c : Convoy) : Go.Proofs.YtafnhieaeejlcaaDoor.encConvoy (oC c) = encDConvoy c := by
  unfold Go.Proofs.YtafnhieaeejlcaaDoor.encConvoy encDConvoy slOf oC
  simp only [List.length_map]
  have : (fun i => Go.Proofs.YtafnhieaeejlcaaDoor.encTruck ((c.Trucks.map oT).getD i default)) = fun i => encDTruck (c.Trucks.getD i dfltTruck) := by
    funext i
    rw [show (default : Go.Proofs.YtafnhieaeejlcaaDoor.Truck) = oT dfltTruck from rfl, getD_map, encTruck_o]
  rw [this]
theorem argC (c : Convoy) (h : Nat → Nat) : (encV .Convoy c).toD h = .agg (Go.Proofs.YtafnhieaeejlcaaDoor.encConvoy (oC c)) := by
  rw [encConvoy_o]
  show D.agg (I.toDL h (encC .Convoy c)) = _
  rw [toDL_enc]; rfl
def meetS (c : Convoy) : Meeting × Int := (nM (if chkConvoy (oC c) = 0 then optM (meetingP (oC c)) else default), if chkConvoy (oC c) = 0 then (if (meetingP (oC c)).isSome then 0 else 7) else chkConvoy (oC c))
theorem resM (c : Convoy) (h : Nat → Nat) : (encR [.Meeting, .int .i64] (meetS c)).toD h = .tup [.agg (Go.Proofs.YtafnhieaeejlcaaDoor.encMeeting (if chkConvoy (oC c) = 0 then optM (meetingP (oC c)) else default)), .int .i64 (if chkConvoy (oC c) = 0 then (if (meetingP (oC c)).isSome then 0 else 7) else chkConvoy (oC c))] := rfl
def fit25 (c : Convoy) : Bool := decide (c.Trucks.length ≤ 25) && c.Trucks.all fun t => decide (t.Holds.length ≤ 12)
theorem fit_holds {c : Convoy} {n : Nat} (h : (c.Trucks.all fun t => decide (t.Holds.length ≤ n)) = true) : ∀ k, k < (oC c).trucks.length → ((oC c).trucks.getD k default).holds.length ≤ n := fun k hk => by
  simp only [oC, List.length_map] at hk ⊢
  rw [show (default : Go.Proofs.YtafnhieaeejlcaaDoor.Truck) = oT dfltTruck from rfl, getD_map]
  have hm : c.Trucks.getD k dfltTruck ∈ c.Trucks := by
    rw [List.getD_eq_getElem?_getD, List.getElem?_eq_getElem hk]
    exact List.getElem_mem hk
  have := List.all_eq_true.1 h _ hm
  simpa [oT] using this
def big : Convoy → Option Bool := opq fun c => some (bigS (oC c))
theorem big_eq (c : Convoy) : big c = some (bigS (oC c)) := by unfold big; rw [opq_eq]
def awake : Option Bool := opq (some true)
theorem awake_eq : awake = some true := by unfold awake; rw [opq_eq]
def OwnConvoy : Convoy → Option Convoy := opq fun c => chk (fit25 c) (some c)
theorem OwnConvoy_eq (c : Convoy) : OwnConvoy c = chk (fit25 c) (some c) := by unfold OwnConvoy; rw [opq_eq]
def fit1000 (c : Convoy) : Bool := decide (c.Trucks.length ≤ 1000) && c.Trucks.all fun t => decide (t.Holds.length ≤ 1000)
def SameConvoys : Convoy → Convoy → Option Bool := opq fun a b => chk (fit1000 a) (some (decide (oC a = oC b)))
theorem SameConvoys_eq (a b : Convoy) : SameConvoys a b = chk (fit1000 a) (some (decide (oC a = oC b))) := by unfold SameConvoys; rw [opq_eq]
def pMeets : Convoy → Option (Meeting × Int) := opq fun c => some (meetS c)
theorem pMeets_eq (c : Convoy) : pMeets c = some (meetS c) := by unfold pMeets; rw [opq_eq]
def rMeets : Convoy → Option (Meeting × Int) := opq fun c => some (meetS c)
theorem rMeets_eq (c : Convoy) : rMeets c = some (meetS c) := by unfold rMeets; rw [opq_eq]
def w18 : FnSpec iseat.toSeat := mkSpec iseat.toSeat 18 [.Convoy] [.bool] true (fun a => big a.1) (fun a x hx h h' => by
  replace hx : big a.1 = some x := hx; rw [big_eq] at hx
  simp only [Option.some.injEq] at hx; subst hx
  show Contract iseat.toSeat 18 [(encV .Convoy a.1).toD h] (.bool (bigS (oC a.1)))
  rw [argC]; exact c18 _) (fun _ x => rfl)
def w19 : FnSpec iseat.toSeat := mkSpec iseat.toSeat 19 [] [.bool] true (fun _ => awake) (fun a x hx h h' => by
  replace hx : awake = some x := hx; rw [awake_eq] at hx
  simp only [Option.some.injEq] at hx; subst hx
  exact c19) (fun _ x => rfl)
def w20 : FnSpec iseat.toSeat := mkSpec iseat.toSeat 20 [.Convoy] [.Convoy] false (fun a => OwnConvoy a.1) (fun a x hx h h' => by
  replace hx : OwnConvoy a.1 = some x := hx; rw [OwnConvoy_eq] at hx
  obtain ⟨hc, hx⟩ := chk_some hx
  simp only [Option.some.injEq] at hx; subst hx
  simp only [fit25, Bool.and_eq_true, decide_eq_true_eq] at hc
  show Contract iseat.toSeat 20 [(encV .Convoy a.1).toD h] ((encV .Convoy a.1).toD h')
  rw [argC, argC]
  exact c20 _ (by simp only [oC, List.length_map]; exact hc.1) (fit_holds hc.2)) (fun h => nomatch h)
def w23 : FnSpec iseat.toSeat := mkSpec iseat.toSeat 23 [.Convoy, .Convoy] [.bool] true (fun a => SameConvoys a.1 a.2.1) (fun a x hx h h' => by
  replace hx : SameConvoys a.1 a.2.1 = some x := hx; rw [SameConvoys_eq] at hx
  obtain ⟨hc, hx⟩ := chk_some hx
  simp only [Option.some.injEq] at hx; subst hx
  simp only [fit1000, Bool.and_eq_true, decide_eq_true_eq] at hc
  show Contract iseat.toSeat 23 [(encV .Convoy a.1).toD h, (encV .Convoy a.2.1).toD h] (.bool (decide (oC a.1 = oC a.2.1)))
  rw [argC, argC]
  exact c23 _ _ (by simp only [oC, List.length_map]; exact hc.1) (fit_holds hc.2)) (fun _ x => rfl)
def w27 : FnSpec iseat.toSeat := mkSpec iseat.toSeat 27 [.Convoy] [.Meeting, .int .i64] true (fun a => pMeets a.1) (fun a x hx h h' => by
  replace hx : pMeets a.1 = some x := hx; rw [pMeets_eq] at hx
  simp only [Option.some.injEq] at hx; subst hx
  show Contract iseat.toSeat 27 [(encV .Convoy a.1).toD h] _
  rw [argC, resM]; exact c27 _) (fun _ x => rfl)
def w28 : FnSpec iseat.toSeat := mkSpec iseat.toSeat 28 [.Convoy] [.Meeting, .int .i64] true (fun a => rMeets a.1) (fun a x hx h h' => by
  replace hx : rMeets a.1 = some x := hx; rw [rMeets_eq] at hx
  simp only [Option.some.injEq] at hx; subst hx
  show Contract iseat.toSeat 28 [(encV .Convoy a.1).toD h] _
  rw [argC, resM]; exact c28 _) (fun _ x => rfl)
end
end Go.Proofs.Plain04
namespace Go.Proofs.Plain04
open Go Go.Ab
open Go.Proofs.YtafnhieaeejlcaaDoor (iseat)
set_option linter.all false
set_option maxRecDepth 100000
noncomputable section
def next' (it : It (Seed × Int)) (s : Seed) : Option (Seed × Int) :=
  some ((⟨(IntKind.u64.wrap (s.word + 11400714819323198485))⟩ : Seed), (xorI .u64 (IntKind.u64.wrap ((xorI .u64 (IntKind.u64.wrap ((xorI .u64 (IntKind.u64.wrap (s.word + 11400714819323198485)) (shrI .u64 (IntKind.u64.wrap (s.word + 11400714819323198485)) 30)) * 13787848793156543929)) (shrI .u64 (IntKind.u64.wrap ((xorI .u64 (IntKind.u64.wrap (s.word + 11400714819323198485)) (shrI .u64 (IntKind.u64.wrap (s.word + 11400714819323198485)) 30)) * 13787848793156543929)) 27)) * 10723151780598845931)) (shrI .u64 (IntKind.u64.wrap ((xorI .u64 (IntKind.u64.wrap ((xorI .u64 (IntKind.u64.wrap (s.word + 11400714819323198485)) (shrI .u64 (IntKind.u64.wrap (s.word + 11400714819323198485)) 30)) * 13787848793156543929)) (shrI .u64 (IntKind.u64.wrap ((xorI .u64 (IntKind.u64.wrap (s.word + 11400714819323198485)) (shrI .u64 (IntKind.u64.wrap (s.word + 11400714819323198485)) 30)) * 13787848793156543929)) 27)) * 10723151780598845931)) 31)))
def next : Seed → Option (Seed × Int) := opq (fun s => next' itN s)
theorem next_eq (s : Seed) : next s = next' itN s := by unfold next; rw [opq_eq]
def E68 : FEnv iseat := ⟨⟨30, [], [], [], [], [], [], [], [0], true⟩, []⟩
theorem e68 (it : It (Seed × Int)) (s : Seed) : fnRunR (bt := .Seed) (ts := [.int .u64]) it E68 (bodyOf Tryd.f68) Tryd.f68.results.toList (encC .Seed s) (encA [] (())) = next' it s := by kernel_rfl
def sp68 : FnSpecR iseat.toSeat := mkSpecR iseat.toSeat 68 .Seed [] [.int .u64] (fun b a => next b ) (fun b a y x hx h => fn_contractR (Z := iseat) (bt := .Seed) (ats := []) (ts := [.int .u64]) (E := E68) (fn := Tryd.f68) (c := bodyOf Tryd.f68) Tryd.func68 (by kernel_rfl) (by kernel_rfl) (by kernel_rfl) (by kernel_rfl) rfl ((e68 itN b ).trans ((next_eq b ).symm.trans hx)) h)
def Below' (it : It (Seed × Int)) (s : Seed) (n : Int) : Option (Seed × Int) :=
  bif (decide (n < 2)) then
    some (s, 0)
  else
    (next s).bind fun r =>
    chk ((IntKind.u64.wrap (n)) != 0) <|
    some (r.1, (w64 (((shrI .u64 r.2 1).tmod (IntKind.u64.wrap (n))))))
def Below : Seed → Int → Option (Seed × Int) := opq (fun s n => Below' itN s n)
theorem Below_eq (s : Seed) (n : Int) : Below s n = Below' itN s n := by unfold Below; rw [opq_eq]
def E32 : FEnv iseat := ⟨⟨14, [], [sp68], [], [], [], [], [], [0], true⟩, []⟩
theorem e32 (it : It (Seed × Int)) (s : Seed) (n : Int) : fnRunR (bt := .Seed) (ts := [.int .i64]) it E32 (bodyOf Tryd.f32) Tryd.f32.results.toList (encC .Seed s) (encA [.int .i64] (n, ())) = Below' it s n := by kernel_rfl
def sp32 : FnSpecR iseat.toSeat := mkSpecR iseat.toSeat 32 .Seed [.int .i64] [.int .i64] (fun b a => Below b a.1) (fun b a y x hx h => fn_contractR (Z := iseat) (bt := .Seed) (ats := [.int .i64]) (ts := [.int .i64]) (E := E32) (fn := Tryd.f32) (c := bodyOf Tryd.f32) Tryd.func32 (by kernel_rfl) (by kernel_rfl) (by kernel_rfl) (by kernel_rfl) rfl ((e32 itN b a.1).trans ((Below_eq b a.1).symm.trans hx)) h)
def Yes' (it : It (Seed × Bool)) (s : Seed) (n : Int) : Option (Seed × Bool) :=
  (Below s n).bind fun r =>
  some (r.1, (r.2 == 0))
def Yes : Seed → Int → Option (Seed × Bool) := opq (fun s n => Yes' itN s n)
theorem Yes_eq (s : Seed) (n : Int) : Yes s n = Yes' itN s n := by unfold Yes; rw [opq_eq]
def E33 : FEnv iseat := ⟨⟨9, [], [sp32], [], [], [], [], [], [0], true⟩, []⟩
theorem e33 (it : It (Seed × Bool)) (s : Seed) (n : Int) : fnRunR (bt := .Seed) (ts := [.bool]) it E33 (bodyOf Tryd.f33) Tryd.f33.results.toList (encC .Seed s) (encA [.int .i64] (n, ())) = Yes' it s n := by kernel_rfl
def sp33 : FnSpecR iseat.toSeat := mkSpecR iseat.toSeat 33 .Seed [.int .i64] [.bool] (fun b a => Yes b a.1) (fun b a y x hx h => fn_contractR (Z := iseat) (bt := .Seed) (ats := [.int .i64]) (ts := [.bool]) (E := E33) (fn := Tryd.f33) (c := bodyOf Tryd.f33) Tryd.func33 (by kernel_rfl) (by kernel_rfl) (by kernel_rfl) (by kernel_rfl) rfl ((e33 itN b a.1).trans ((Yes_eq b a.1).symm.trans hx)) h)
def From' (it : It (Seed × Int)) (s : Seed) (low : Int) (high : Int) : Option (Seed × Int) :=
  (Below s (w64 ((w64 (high - low)) + 1))).bind fun r =>
  some (r.1, (w64 (low + r.2)))
def From : Seed → Int → Int → Option (Seed × Int) := opq (fun s low high => From' itN s low high)
theorem From_eq (s : Seed) (low : Int) (high : Int) : From s low high = From' itN s low high := by unfold From; rw [opq_eq]
def E35 : FEnv iseat := ⟨⟨15, [], [sp32], [], [], [], [], [], [0], true⟩, []⟩
theorem e35 (it : It (Seed × Int)) (s : Seed) (low : Int) (high : Int) : fnRunR (bt := .Seed) (ts := [.int .i64]) it E35 (bodyOf Tryd.f35) Tryd.f35.results.toList (encC .Seed s) (encA [.int .i64, .int .i64] (low, high, ())) = From' it s low high := by kernel_rfl
def sp35 : FnSpecR iseat.toSeat := mkSpecR iseat.toSeat 35 .Seed [.int .i64, .int .i64] [.int .i64] (fun b a => From b a.1 a.2.1) (fun b a y x hx h => fn_contractR (Z := iseat) (bt := .Seed) (ats := [.int .i64, .int .i64]) (ts := [.int .i64]) (E := E35) (fn := Tryd.f35) (c := bodyOf Tryd.f35) Tryd.func35 (by kernel_rfl) (by kernel_rfl) (by kernel_rfl) (by kernel_rfl) rfl ((e35 itN b a.1 a.2.1).trans ((From_eq b a.1 a.2.1).symm.trans hx)) h)
def Of' (it : It (Seed × Int)) (s : Seed) (l : List Int) : Option (Seed × Int) :=
  bif ((l.length : Int) == 0) then
    some (s, 0)
  else
    (Below s (l.length : Int)).bind fun r =>
    chk (decide (0 ≤ r.2) && decide (r.2 < (l.length : Int))) <|
    some (r.1, (l.getD r.2.toNat 0))
def Of : Seed → (List Int) → Option (Seed × Int) := opq (fun s l => Of' itN s l)
theorem Of_eq (s : Seed) (l : List Int) : Of s l = Of' itN s l := by unfold Of; rw [opq_eq]
def E45 : FEnv iseat := ⟨⟨15, [], [sp32], [], [], [], [], [], [0], true⟩, []⟩
theorem e45 (it : It (Seed × Int)) (s : Seed) (l : List Int) : fnRunR (bt := .Seed) (ts := [.int .i64]) it E45 (bodyOf Tryd.f45) Tryd.f45.results.toList (encC .Seed s) (encA [.sl (.int .i64)] (l, ())) = Of' it s l := by kernel_rfl
def sp45 : FnSpecR iseat.toSeat := mkSpecR iseat.toSeat 45 .Seed [.sl (.int .i64)] [.int .i64] (fun b a => Of b a.1) (fun b a y x hx h => fn_contractR (Z := iseat) (bt := .Seed) (ats := [.sl (.int .i64)]) (ts := [.int .i64]) (E := E45) (fn := Tryd.f45) (c := bodyOf Tryd.f45) Tryd.func45 (by kernel_rfl) (by kernel_rfl) (by kernel_rfl) (by kernel_rfl) rfl ((e45 itN b a.1).trans ((Of_eq b a.1).symm.trans hx)) h)
def TruckOf_L6 (length : Int) (at_ : Int) (i : Int) (s_word : Int) (t_Way : Int) (t_Start : Int) (t_Pace_Lo : Int) (t_Pace_Hi : Int) (t_Holds : List Hold) (kn_ : Int → Int → Int → Int → Int → Int → Int → (List Hold) → Option (Seed × Truck)) : Option (Seed × Truck) :=
  bif (decide (i > 0)) then
    bif (decide (at_ < (w64 (length - 1)))) then
      (From (⟨s_word⟩ : Seed) (w64 (at_ + 1)) (w64 (length - 1))).bind fun r9 =>
      (Below r9.1 150).bind fun r10 =>
      bif (t_Way == 2) then
        chk (fitA (t_Holds.length + ([(⟨(w64 (length - r9.2)), r10.2⟩ : Hold)] : List Hold).length) 16) <|
        kn_ r9.2 (w64 (i - 1)) r10.1.word t_Way t_Start t_Pace_Lo t_Pace_Hi (t_Holds ++ ([(⟨(w64 (length - r9.2)), r10.2⟩ : Hold)] : List Hold))
      else
        chk (fitA (t_Holds.length + ([(⟨r9.2, r10.2⟩ : Hold)] : List Hold).length) 16) <|
        kn_ r9.2 (w64 (i - 1)) r10.1.word t_Way t_Start t_Pace_Lo t_Pace_Hi (t_Holds ++ ([(⟨r9.2, r10.2⟩ : Hold)] : List Hold))
    else
      some ((⟨s_word⟩ : Seed), (⟨t_Way, t_Start, ⟨t_Pace_Lo, t_Pace_Hi⟩, t_Holds⟩ : Truck))
  else
    some ((⟨s_word⟩ : Seed), (⟨t_Way, t_Start, ⟨t_Pace_Lo, t_Pace_Hi⟩, t_Holds⟩ : Truck))
def TruckOf' (it : It (Seed × Truck)) (s : Seed) (length : Int) (holds : Int) : Option (Seed × Truck) :=
  (From s 1 2).bind fun r =>
  (Below r.1 60).bind fun r2 =>
  (Below r2.1 200).bind fun r3 =>
  (Of r3.1 [0, r2.2, r3.2]).bind fun r4 =>
  (From r4.1 5 25).bind fun r5 =>
  (Below r5.1 8).bind fun r6 =>
  (Of r6.1 [0, r6.2]).bind fun r7 =>
  (Below r7.1 (w64 (holds + 1))).bind fun r8 =>
  it _ (fun (v_0 : (Unit × Unit × Unit × Int × Int × Unit) × ((Int × Unit) × (Int × Int × Int × Int × (List Hold) × Unit) × Unit)) kn => TruckOf_L6 length v_0.1.2.2.2.1 v_0.1.2.2.2.2.1 v_0.2.1.1 v_0.2.2.1.1 v_0.2.2.1.2.1 v_0.2.2.1.2.2.1 v_0.2.2.1.2.2.2.1 v_0.2.2.1.2.2.2.2.1 (fun y0 y1 y2 y3 y4 y5 y6 y7 => kn (((), (), (), y0, y1, ()), ((y2, ()), (y3, y4, y5, y6, y7, ()), ())))) (((), (), (), 0, r8.2, ()), ((r8.1.word, ()), (r.2, r4.2, r5.2, (w64 (r5.2 + r7.2)), [], ()), ()))
def TruckOf : Seed → Int → Int → Option (Seed × Truck) := opq (fun s length holds => TruckOf' itN s length holds)
theorem TruckOf_eq (s : Seed) (length : Int) (holds : Int) : TruckOf s length holds = TruckOf' itN s length holds := by unfold TruckOf; rw [opq_eq]
def E46 : FEnv iseat := ⟨⟨74, [], [sp35, sp32, sp45], [], [], [], [], [18, 31, 70], [0], true⟩, [(6, ⟨⟨[(0, .bx 0 0), (6, .bx 6 0), (7, .bx 7 0), (8, .v (.int .i64)), (9, .v (.int .i64))], [(0, [.v (.int .u64)]), (7, [.v (.int .i64), .v (.int .i64), .v (.int .i64), .v (.int .i64), .os 71 89 .Hold])]⟩, [1], [6]⟩)]⟩
theorem e46 (it : It (Seed × Truck)) (s : Seed) (length : Int) (holds : Int) : fnRunR (bt := .Seed) (ts := [.Truck]) it E46 (bodyOf Tryd.f46) Tryd.f46.results.toList (encC .Seed s) (encA [.int .i64, .int .i64] (length, holds, ())) = TruckOf' it s length holds := by kernel_rfl
def sp46 : FnSpecR iseat.toSeat := mkSpecR iseat.toSeat 46 .Seed [.int .i64, .int .i64] [.Truck] (fun b a => TruckOf b a.1 a.2.1) (fun b a y x hx h => fn_contractR (Z := iseat) (bt := .Seed) (ats := [.int .i64, .int .i64]) (ts := [.Truck]) (E := E46) (fn := Tryd.f46) (c := bodyOf Tryd.f46) Tryd.func46 (by kernel_rfl) (by kernel_rfl) (by kernel_rfl) (by kernel_rfl) rfl ((e46 itN b a.1 a.2.1).trans ((TruckOf_eq b a.1 a.2.1).symm.trans hx)) h)
def NewSeed_L3 (nums : List Int) (i : Int) (x6_word : Int) (kn_ : Int → Int → Option Seed) : Option Seed :=
  bif (decide (i < (nums.length : Int))) then
    chk (decide (0 ≤ i) && decide (i < (nums.length : Int))) <|
    (next (⟨(IntKind.u64.wrap ((IntKind.u64.wrap ((IntKind.u64.wrap (x6_word * 6364136223846793005)) + (IntKind.u64.wrap ((nums.getD i.toNat 0))))) + 1442695040888963407))⟩ : Seed)).bind fun r =>
    kn_ (w64 (i + 1)) r.1.word
  else
    some (⟨x6_word⟩ : Seed)
def NewSeed' (it : It Seed) (nums : List Int) : Option Seed :=
  it _ (fun (v_0 : (Unit × Int × Unit) × ((Int × Unit) × Unit)) kn => NewSeed_L3 nums v_0.1.2.1 v_0.2.1.1 (fun y0 y1 => kn (((), y0, ()), ((y1, ()), ())))) (((), 0, ()), ((1, ()), ()))
def NewSeed : (List Int) → Option Seed := opq (fun nums => NewSeed' itN nums)
theorem NewSeed_eq (nums : List Int) : NewSeed nums = NewSeed' itN nums := by unfold NewSeed; rw [opq_eq]
def E24 : FEnv iseat := ⟨⟨31, [], [sp68], [], [], [], [], [], [], true⟩, [(3, ⟨⟨[(3, .bx 6 0), (4, .v (.int .i64))], [(6, [.v (.int .u64)])]⟩, [0], []⟩)]⟩
theorem e24 (it : It Seed) (nums : List Int) : fnRunB (bt := .Seed) it E24 (bodyOf Tryd.f24) Tryd.f24.results.toList (encA [.sl (.int .i64)] (nums, ())) = NewSeed' it nums := by kernel_rfl
def sp24 : FnSpecB iseat.toSeat := mkSpecB iseat.toSeat 24 .Seed [.sl (.int .i64)] (fun a => NewSeed a.1) (fun a y hx h => fn_contractB (Z := iseat) (bt := .Seed) (ats := [.sl (.int .i64)]) (E := E24) (fn := Tryd.f24) (c := bodyOf Tryd.f24) Tryd.func24 (by kernel_rfl) (by kernel_rfl) (by kernel_rfl) (by kernel_rfl) rfl ⟨_, rfl⟩ ((e24 itN a.1).trans ((NewSeed_eq a.1).symm.trans hx)) h)
def AcceptedOf_L9 (kn_ : Int → Int → Int → Int → Int → (List Truck) → Option (Seed × Convoy)) (i : Int) (n : Int) (s_word2 : Int) (c_Length2 : Int) (c_Gap2 : Int) (c_Fails2 : Int) (c_Trucks2 : List Truck) (t_Way : Int) (t_Start : Int) (t_Pace_Lo : Int) (t_Pace_Hi : Int) (t_Holds : List Hold) (kn_2 : Int → Int → Int → Int → Int → (List Truck) → Int → Int → Int → Int → (List Hold) → Option (Seed × Convoy)) : Option (Seed × Convoy) :=
  bif (decide (n < 12)) then
    (Below (⟨s_word2⟩ : Seed) (w64 (40 * (w64 (n + 1))))).bind fun r6 =>
    chk (fitA (([] : List Truck).length + c_Trucks2.length) 56) <|
    chk (fitA ((([] : List Truck) ++ c_Trucks2).length + ([(⟨t_Way, r6.2, ⟨t_Pace_Lo, t_Pace_Hi⟩, t_Holds⟩ : Truck)] : List Truck).length) 56) <|
    (rMeets (⟨c_Length2, c_Gap2, c_Fails2, ((([] : List Truck) ++ c_Trucks2) ++ ([(⟨t_Way, r6.2, ⟨t_Pace_Lo, t_Pace_Hi⟩, t_Holds⟩ : Truck)] : List Truck))⟩ : Convoy)).bind fun r7 =>
    bif (r7.2 == 7) then
      kn_ (w64 (i - 1)) r6.1.word c_Length2 c_Gap2 c_Fails2 ((([] : List Truck) ++ c_Trucks2) ++ ([(⟨t_Way, r6.2, ⟨t_Pace_Lo, t_Pace_Hi⟩, t_Holds⟩ : Truck)] : List Truck))
    else
      kn_2 (w64 (n + 1)) r6.1.word c_Length2 c_Gap2 c_Fails2 c_Trucks2 t_Way r6.2 t_Pace_Lo t_Pace_Hi t_Holds
  else
    kn_ (w64 (i - 1)) s_word2 c_Length2 c_Gap2 c_Fails2 c_Trucks2
def AcceptedOf_L9__2 (kn_ : Int → Int → Int → Int → Int → (List Truck) → Option (Seed × Convoy)) (i : Int) (n2 : Int) (s_word3 : Int) (c_Length3 : Int) (c_Gap3 : Int) (c_Fails3 : Int) (c_Trucks3 : List Truck) (t_Way2 : Int) (t_Start2 : Int) (t_Pace_Lo2 : Int) (t_Pace_Hi2 : Int) (t_Holds2 : List Hold) (kn_3 : Int → Int → Int → Int → Int → (List Truck) → Int → Int → Int → Int → (List Hold) → Option (Seed × Convoy)) : Option (Seed × Convoy) :=
  bif (decide (n2 < 12)) then
    (Below (⟨s_word3⟩ : Seed) (w64 (40 * (w64 (n2 + 1))))).bind fun r8 =>
    chk (fitA (([] : List Truck).length + c_Trucks3.length) 56) <|
    chk (fitA ((([] : List Truck) ++ c_Trucks3).length + ([(⟨t_Way2, r8.2, ⟨t_Pace_Lo2, t_Pace_Hi2⟩, t_Holds2⟩ : Truck)] : List Truck).length) 56) <|
    (rMeets (⟨c_Length3, c_Gap3, c_Fails3, ((([] : List Truck) ++ c_Trucks3) ++ ([(⟨t_Way2, r8.2, ⟨t_Pace_Lo2, t_Pace_Hi2⟩, t_Holds2⟩ : Truck)] : List Truck))⟩ : Convoy)).bind fun r9 =>
    bif (r9.2 == 7) then
      kn_ (w64 (i - 1)) r8.1.word c_Length3 c_Gap3 c_Fails3 ((([] : List Truck) ++ c_Trucks3) ++ ([(⟨t_Way2, r8.2, ⟨t_Pace_Lo2, t_Pace_Hi2⟩, t_Holds2⟩ : Truck)] : List Truck))
    else
      kn_3 (w64 (n2 + 1)) r8.1.word c_Length3 c_Gap3 c_Fails3 c_Trucks3 t_Way2 r8.2 t_Pace_Lo2 t_Pace_Hi2 t_Holds2
  else
    kn_ (w64 (i - 1)) s_word3 c_Length3 c_Gap3 c_Fails3 c_Trucks3
def AcceptedOf_L3 (it : It (Seed × Convoy)) (i : Int) (s_word : Int) (c_Length : Int) (c_Gap : Int) (c_Fails : Int) (c_Trucks : List Truck) (kn_ : Int → Int → Int → Int → Int → (List Truck) → Option (Seed × Convoy)) : Option (Seed × Convoy) :=
  bif (decide (i > 0)) then
    (TruckOf (⟨s_word⟩ : Seed) c_Length 2).bind fun r4 =>
    (Yes r4.1 2).bind fun r5 =>
    bif r5.2 then
      it _ (fun (v_0 : (Unit × Unit × Unit × Unit × Int × Unit) × ((Int × Unit) × (Int × Int × Int × (List Truck) × Unit) × (Int × Int × Int × Int × (List Hold) × Unit) × Unit)) kn => AcceptedOf_L9 kn_ i v_0.1.2.2.2.2.1 v_0.2.1.1 v_0.2.2.1.1 v_0.2.2.1.2.1 v_0.2.2.1.2.2.1 v_0.2.2.1.2.2.2.1 v_0.2.2.2.1.1 v_0.2.2.2.1.2.1 v_0.2.2.2.1.2.2.1 v_0.2.2.2.1.2.2.2.1 v_0.2.2.2.1.2.2.2.2.1 (fun y0 y1 y2 y3 y4 y5 y6 y7 y8 y9 y10 => kn (((), (), (), (), y0, ()), ((y1, ()), (y2, y3, y4, y5, ()), (y6, y7, y8, y9, y10, ()), ())))) (((), (), (), (), 0, ()), ((r5.1.word, ()), (c_Length, c_Gap, c_Fails, c_Trucks, ()), (r4.2.Way, r4.2.Start, r4.2.Pace.Lo, r4.2.Pace.Hi, [], ()), ()))
    else
      it _ (fun (v_0 : (Unit × Unit × Unit × Unit × Int × Unit) × ((Int × Unit) × (Int × Int × Int × (List Truck) × Unit) × (Int × Int × Int × Int × (List Hold) × Unit) × Unit)) kn => AcceptedOf_L9__2 kn_ i v_0.1.2.2.2.2.1 v_0.2.1.1 v_0.2.2.1.1 v_0.2.2.1.2.1 v_0.2.2.1.2.2.1 v_0.2.2.1.2.2.2.1 v_0.2.2.2.1.1 v_0.2.2.2.1.2.1 v_0.2.2.2.1.2.2.1 v_0.2.2.2.1.2.2.2.1 v_0.2.2.2.1.2.2.2.2.1 (fun y0 y1 y2 y3 y4 y5 y6 y7 y8 y9 y10 => kn (((), (), (), (), y0, ()), ((y1, ()), (y2, y3, y4, y5, ()), (y6, y7, y8, y9, y10, ()), ())))) (((), (), (), (), 0, ()), ((r5.1.word, ()), (c_Length, c_Gap, c_Fails, c_Trucks, ()), (r4.2.Way, r4.2.Start, r4.2.Pace.Lo, r4.2.Pace.Hi, r4.2.Holds, ()), ()))
  else
    some ((⟨s_word⟩ : Seed), (⟨c_Length, c_Gap, c_Fails, c_Trucks⟩ : Convoy))
def AcceptedOf' (it : It (Seed × Convoy)) (s : Seed) (most_ : Int) : Option (Seed × Convoy) :=
  (From s 60 300).bind fun r =>
  (Below r.1 3).bind fun r2 =>
  (Below r2.1 (w64 (most_ + 1))).bind fun r3 =>
  it _ (fun (v_0 : (Unit × Unit × Unit × Int × Unit) × ((Int × Unit) × (Int × Int × Int × (List Truck) × Unit) × Unit)) kn => AcceptedOf_L3 it v_0.1.2.2.2.1 v_0.2.1.1 v_0.2.2.1.1 v_0.2.2.1.2.1 v_0.2.2.1.2.2.1 v_0.2.2.1.2.2.2.1 (fun y0 y1 y2 y3 y4 y5 => kn (((), (), (), y0, ()), ((y1, ()), (y2, y3, y4, y5, ()), ())))) (((), (), (), r3.2, ()), ((r3.1.word, ()), (r.2, 70, r2.2, [], ()), ()))
def AcceptedOf : Seed → Int → Option (Seed × Convoy) := opq (fun s most_ => AcceptedOf' itN s most_)
theorem AcceptedOf_eq (s : Seed) (most_ : Int) : AcceptedOf s most_ = AcceptedOf' itN s most_ := by unfold AcceptedOf; rw [opq_eq]
def E26 : FEnv iseat := ⟨⟨60, [w28], [sp35, sp32, sp46, sp33], [], [], [], [], [48], [0], true⟩, [(3, ⟨⟨[(0, .bx 0 0), (4, .bx 4 0), (5, .bx 5 0), (6, .v (.int .i64))], [(0, [.v (.int .u64)]), (5, [.v (.int .i64), .v (.int .i64), .v (.int .i64), .v (.sl .Truck)])]⟩, [], [4]⟩), (9, ⟨⟨[(0, .bx 0 0), (4, .bx 4 0), (5, .bx 5 0), (7, .bx 7 0), (8, .v (.int .i64))], [(0, [.v (.int .u64)]), (5, [.v (.int .i64), .v (.int .i64), .v (.int .i64), .v (.sl .Truck)]), (7, [.v (.int .i64), .v (.int .i64), .v (.int .i64), .v (.int .i64), .v (.sl .Hold)])]⟩, [6], []⟩)]⟩
theorem e26 (it : It (Seed × Convoy)) (s : Seed) (most_ : Int) : fnRunR (bt := .Seed) (ts := [.Convoy]) it E26 (bodyOf Tryd.f26) Tryd.f26.results.toList (encC .Seed s) (encA [.int .i64] (most_, ())) = AcceptedOf' it s most_ := by kernel_rfl
def sp26 : FnSpecR iseat.toSeat := mkSpecR iseat.toSeat 26 .Seed [.int .i64] [.Convoy] (fun b a => AcceptedOf b a.1) (fun b a y x hx h => fn_contractR (Z := iseat) (bt := .Seed) (ats := [.int .i64]) (ts := [.Convoy]) (E := E26) (fn := Tryd.f26) (c := bodyOf Tryd.f26) Tryd.func26 (by kernel_rfl) (by kernel_rfl) (by kernel_rfl) (by kernel_rfl) rfl ((e26 itN b a.1).trans ((AcceptedOf_eq b a.1).symm.trans hx)) h)
end
end Go.Proofs.Plain04
namespace Go.Proofs.Plain04
open Go Go.Ab
open Go.Proofs.YtafnhieaeejlcaaDoor (iseat seat chkConvoy meetingP optM offP offS c21 c22 c36 c52 c81 c95 c70 cr_of cok_of)
set_option linter.all false
set_option maxRecDepth 100000
noncomputable section
def nS (s : Go.Proofs.YtafnhieaeejlcaaDoor.Span) : Span := ⟨s.lo, s.hi⟩
def pCheck : Convoy → Option Int := opq fun c => some (chkConvoy (oC c))
theorem pCheck_eq (c : Convoy) : pCheck c = some (chkConvoy (oC c)) := by unfold pCheck; rw [opq_eq]
def rCheck : Convoy → Option Int := opq fun c => some (chkConvoy (oC c))
theorem rCheck_eq (c : Convoy) : rCheck c = some (chkConvoy (oC c)) := by unfold rCheck; rw [opq_eq]
def pOff : Convoy → Option (Span × Int) := opq fun c => some (nS (if chkConvoy (oC c) = 0 then offP (oC c) else default), chkConvoy (oC c))
theorem pOff_eq (c : Convoy) : pOff c = some (nS (if chkConvoy (oC c) = 0 then offP (oC c) else default), chkConvoy (oC c)) := by unfold pOff; rw [opq_eq]
def meeting : Convoy → Option (Meeting × Bool) := opq fun c => chk (chkConvoy (oC c) == 0) (some (nM (optM (meetingP (oC c))), (meetingP (oC c)).isSome))
theorem meeting_eq (c : Convoy) : meeting c = chk (chkConvoy (oC c) == 0) (some (nM (optM (meetingP (oC c))), (meetingP (oC c)).isSome)) := by unfold meeting; rw [opq_eq]
def w21 : FnSpec iseat.toSeat := mkSpec iseat.toSeat 21 [.Convoy] [.int .i64] true (fun a => pCheck a.1) (fun a x hx h h' => by
  replace hx : pCheck a.1 = some x := hx; rw [pCheck_eq] at hx
  simp only [Option.some.injEq] at hx; subst hx
  show Contract iseat.toSeat 21 [(encV .Convoy a.1).toD h] (.int .i64 (chkConvoy (oC a.1)))
  rw [argC]; exact c21 _) (fun _ x => rfl)
def w22 : FnSpec iseat.toSeat := mkSpec iseat.toSeat 22 [.Convoy] [.int .i64] true (fun a => rCheck a.1) (fun a x hx h h' => by
  replace hx : rCheck a.1 = some x := hx; rw [rCheck_eq] at hx
  simp only [Option.some.injEq] at hx; subst hx
  show Contract iseat.toSeat 22 [(encV .Convoy a.1).toD h] (.int .i64 (chkConvoy (oC a.1)))
  rw [argC]; exact c22 _) (fun _ x => rfl)
def w36 : FnSpec iseat.toSeat := mkSpec iseat.toSeat 36 [.Convoy] [.Span, .int .i64] true (fun a => pOff a.1) (fun a x hx h h' => by
  replace hx : pOff a.1 = some x := hx; rw [pOff_eq] at hx
  simp only [Option.some.injEq] at hx; subst hx
  show Contract iseat.toSeat 36 [(encV .Convoy a.1).toD h] (.tup [.agg (Go.Proofs.YtafnhieaeejlcaaDoor.encSpan (if chkConvoy (oC a.1) = 0 then offP (oC a.1) else default)), .int .i64 (chkConvoy (oC a.1))])
  rw [argC]; exact c36 _) (fun _ x => rfl)
def w70 : FnSpec iseat.toSeat := mkSpec iseat.toSeat 70 [.Convoy] [.Meeting, .bool] true (fun a => meeting a.1) (fun a x hx h h' => by
  replace hx : meeting a.1 = some x := hx; rw [meeting_eq] at hx
  obtain ⟨hc, hx⟩ := chk_some hx
  simp only [Option.some.injEq] at hx; subst hx
  show Contract iseat.toSeat 70 [(encV .Convoy a.1).toD h] (.tup [.agg (Go.Proofs.YtafnhieaeejlcaaDoor.encMeeting (optM (meetingP (oC a.1)))), .bool (meetingP (oC a.1)).isSome])
  rw [argC]; exact c70 _ (cr_of (by simpa using hc))) (fun _ x => rfl)
end
end Go.Proofs.Plain04
