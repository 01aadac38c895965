/- Walks by computing: what each function of the program that the laws reach gives for what it gets, as plain Lean, and that it is so; without a condition but those that stand in each theorem. -/
import Derived.Test.YtafnhieaeejlcaaDoorCards
import Derived.Test.YtafnhieaeejlcaaDoorTie
import Derived.WalkKit
import Derived.ProofKit
import Derived.OpenShut
import Derived.Deep.Slices
import Derived.Deep.DeepHandedRow
import Derived.Lib.LaidTab
import Derived.Test.YtafnhieaeejlcaaDoorW1
import Derived.Test.YtafnhieaeejlcaaDoorW2
import Derived.Test.YtafnhieaeejlcaaDoorW3
import Derived.Test.YtafnhieaeejlcaaDoorW4
import Derived.Test.YtafnhieaeejlcaaDoorW5
import Derived.Test.YtafnhieaeejlcaaDoorW6
import Derived.Test.YtafnhieaeejlcaaDoorW7
set_option linter.all false
/- Courses lie in what is said; meetings that are told can happen. -/
namespace Go.Proofs.Plain04
open Go Go.Ab
open Go.Proofs.YtafnhieaeejlcaaDoor (posR nextR stopR stopP hitR alongI freeT laneP laneB heldB roadP atP gone ROk CR chkConvoy cr_of loI hiI lane_lt loI_hiI loI_bnd hiI_bnd hiI_stop onL bI lane_one lane_two road_mem atP_lohi meetingP)
set_option linter.all false
theorem Has_sp (x : Span) (n : Int) : Has x n = some (decide (x.Lo ≤ n ∧ n ≤ x.Hi)) := by
  rw [Has_eq]; unfold Has'
  by_cases h : x.Lo ≤ n
  · rw [bif_t (decide_eq_true h)]; simp [h]
  · rw [bif_f (decide_eq_false h)]; simp [h]
theorem OnRoad_sp (c : Convoy) (t : Truck) {g : Int} (h1 : 0 ≤ c.Length) (h2 : c.Length ≤ 1000000) (h3 : -1000000 ≤ g) (h4 : g ≤ 1000000) : OnRoad c t g = some (alongI t.Way c.Length g) := by
  rw [OnRoad_eq]; unfold OnRoad' alongI
  by_cases e : t.Way = 2
  · simp only [e, beq_self_eq_true, cond_true, if_true]; rw [w64_id (by omega) (by omega)]
  · rw [bif_f (by simpa using e), if_neg e]
theorem OnLane_sp {c : Convoy} {t : Truck} (b : Bool) (h : ROk c.Length (oT (frN t b))) (g m : Int) : OnLane c t b g m = some (laneB (oT (frN t b)) c.Length g m) := by
  rw [OnLane_eq]; apply ok_eq
  cases b with
  | true => exact Ok.beq (Lane_sp (t := frN t true) h g m) (Ok.some rfl)
  | false => exact Ok.beq (Lane_sp (t := t) h g m) (Ok.some rfl)
theorem lane_is {t : OTr} {len m g : Int} (h : ROk len t) (h1 : loI t len m ≤ g) (h2 : g ≤ hiI t len m) : laneB t len g m = true ↔ onL t len m g := by
  by_cases hm : t.start ≤ m
  · have hs := hiI_stop h hm
    rw [lane_lt h hm (by omega)]
    simp only [decide_eq_true_eq]
    exact ⟨fun h3 => ⟨hm, h1, h2, h3⟩, fun h3 => h3.2.2.2⟩
  · have : laneB t len g m = false := by unfold laneB; rw [if_pos (.inl (by omega))]
    rw [this]
    constructor
    · intro h; cases h
    · intro h; exact absurd h.1 hm
theorem frN_way (t : Truck) (b : Bool) : (frN t b).Way = t.Way := by cases b <;> rfl
theorem where_ok {c : Convoy} (h : chkConvoy (oC c) = 0) {i : Int} (i0 : 0 ≤ i) (hi : i < c.Trucks.length) (b : Bool) {m : Int} (m0 : 0 ≤ m) (m1 : m ≤ 30000) :
    whereS c i b m = (nS (roadP (c.Trucks.getD i.toNat dfltTruck).Way c.Length ⟨loI (oT (frN (c.Trucks.getD i.toNat dfltTruck) b)) c.Length m, hiI (oT (frN (c.Trucks.getD i.toNat dfltTruck) b)) c.Length m⟩), (laneP (oT (frN (c.Trucks.getD i.toNat dfltTruck) b)) c.Length m).2, 0) := by
  unfold whereS
  rw [if_neg (fun hh => hh h), if_neg (fun hh => hh ⟨i0, by omega⟩), if_neg (fun hh => hh ⟨m0, m1⟩), atP_lohi (rokF h (by omega) b), frN_way]
end Go.Proofs.Plain04


/- When the last truck is off: plain law. Those fail that would be the last ones, and the least number for which as many have to fail as may: the same. -/
namespace Go.Proofs.YtafnhieaeejlcaaDoor
open Go Go.Ab
set_option linter.all false
section
variable {s fast : Nat → Int} {n : Nat}
end
end Go.Proofs.YtafnhieaeejlcaaDoor


/- Both ends of arrivals. -/
namespace Go.Proofs.Plain04
open Go Go.Ab
open Go.Proofs.YtafnhieaeejlcaaDoor (posR nextR stopR stopP hitR alongI freeT ROk CR chkConvoy cr_of loI hiI loI_bnd hiI_bnd bI posR_le stopR_late hitR_ok keepF failF endF keepF_eq failF_eq endF_eq maxUp offP offPLo mayF hit_lohi maxUp_bnd)
set_option linter.all false
set_option maxRecDepth 100000
theorem stopped_sp {c : Convoy} {t : Truck} (h : ROk c.Length (oT t)) {g m d : Int} (h1 : -1000000 ≤ g) (h2 : g ≤ 1000000) (h3 : -1000000 ≤ d) (h4 : d ≤ 1000000) : stopped c t g m d = some (nextR (oT t) c.Length g m d) := by
  rw [stopped_eq]; apply ok_eq
  have hl := holds_len h
  have l1 := h.l1
  have l2 := h.l2
  have ed : w64 (g + d) = g + d := w64_id (by omega) (by omega)
  unfold nextR
  refine Ok.rounds (fun v => 0 ≤ v.1.2.2.1 ∧ v.1.2.2.1 ≤ t.Holds.length ∧ stopR t.Way c.Length g m ((t.Holds.map oH).drop v.1.2.2.1.toNat) = stopR t.Way c.Length g m (t.Holds.map oH)) (fun v => ((t.Holds.length : Int) - v.1.2.2.1).toNat) ?_ ?_ ?_
  · show ((t.Holds.length : Int) - 0).toNat < 18446744073709551616
    omega
  · exact ⟨Int.le_refl _, by show (0 : Int) ≤ _; omega, rfl⟩
  · rintro ⟨⟨_, _, i, _⟩, _⟩ kn ⟨i1, i2, i3⟩ hk
    simp only at i1 i2 i3 ⊢
    have e : w64 (i + 1) = i + 1 := w64_id (by omega) (by omega)
    refine Ok.ite (fun hlt => ?_) fun hge => Ok.some ?_
    · simp only [decide_eq_true_eq] at hlt
      have hi : i.toNat < t.Holds.length := by omega
      obtain ⟨b1, b2, b3, b4⟩ := hold_mem h hi
      rw [dropm (d := dfltHold) hi, stopR_oH] at i3
      have nxt : ¬ ((alongI t.Way c.Length (t.Holds.getD i.toNat dfltHold).At ≥ g) ∧ (t.Holds.getD i.toNat dfltHold).Until > m) → Ok (fun b => b = min (g + d) (stopR (oT t).way c.Length g m (oT t).holds)) (kn (((), (), w64 (i + 1), ()), ())) := fun hn => by
        rw [if_neg hn] at i3
        refine hk _ ⟨by simp only [e]; omega, by simp only [e]; omega, ?_⟩ (by simp only [e]; omega)
        simp only [e]; rw [toNat_succ i1]; exact i3
      refine Ok.chk (ib i1 hlt) ?_
      by_cases hw : t.Way = 2
      · have ea : alongI t.Way c.Length (t.Holds.getD i.toNat dfltHold).At = c.Length - (t.Holds.getD i.toNat dfltHold).At := by unfold alongI; rw [if_pos hw]
        have ew : w64 (c.Length - (t.Holds.getD i.toNat dfltHold).At) = c.Length - (t.Holds.getD i.toNat dfltHold).At := w64_id (by omega) (by omega)
        rw [ea] at nxt i3
        rw [ew, ed]
        refine Ok.yes (beq_iff_eq.2 hw) (Ok.ite (fun hc => Ok.chk (ib i1 hlt) ?_) fun hc => nxt fun hh => ?_)
        · simp only [decide_eq_true_eq] at hc
          refine Ok.ite (fun hc2 => Ok.some ?_) fun hc2 => nxt fun hh => ?_
          · simp only [decide_eq_true_eq] at hc2
            rw [if_pos ⟨hc, hc2⟩] at i3
            exact congrArg (min (g + d)) i3
          · simp only [decide_eq_false_iff_not] at hc2; exact hc2 hh.2
        · simp only [decide_eq_false_iff_not] at hc; exact hc hh.1
      · have ea : alongI t.Way c.Length (t.Holds.getD i.toNat dfltHold).At = (t.Holds.getD i.toNat dfltHold).At := by unfold alongI; rw [if_neg hw]
        rw [ea] at nxt i3
        rw [ed]
        refine Ok.no (beq_eq_false_iff_ne.2 hw) (Ok.ite (fun hc => Ok.chk (ib i1 hlt) ?_) fun hc => nxt fun hh => ?_)
        · simp only [decide_eq_true_eq] at hc
          refine Ok.ite (fun hc2 => Ok.some ?_) fun hc2 => nxt fun hh => ?_
          · simp only [decide_eq_true_eq] at hc2
            rw [if_pos ⟨hc, hc2⟩] at i3
            exact congrArg (min (g + d)) i3
          · simp only [decide_eq_false_iff_not] at hc2; exact hc2 hh.2
        · simp only [decide_eq_false_iff_not] at hc; exact hc hh.1
    · simp only [decide_eq_false_iff_not] at hge
      rw [List.drop_eq_nil_of_le (by simp; omega)] at i3
      rw [ed]; exact congrArg (min (g + d)) i3
end Go.Proofs.Plain04


/- Storms, what is reached. Written out by gen2.py (ours). -/
namespace Go.Proofs.Plain04
open Go Go.Ab
open Go.Proofs.YtafnhieaeejlcaaDoor (iseat)
set_option linter.all false
set_option maxRecDepth 100000
noncomputable section
def reached_L11 (g : Int) (now : List Bool) (t : Truck) (c : Convoy) (m : Int) (kn_2 : (List Bool) → Int → Option (List Bool)) (next2 : List Bool) (d : Int) (kn_3 : (List Bool) → Int → Option (List Bool)) : Option (List Bool) :=
  chk (decide (0 ≤ g) && decide (g < (now.length : Int))) <|
  bif (now.getD g.toNat false) then
    bif (decide (d ≤ t.Pace.Hi)) then
      (stopped c t g m d).bind fun r =>
      chk (decide (0 ≤ r) && decide (r < (next2.length : Int))) <|
      chk (decide (r.toNat < next2.length)) <|
      kn_3 (next2.set r.toNat true) (w64 (d + 1))
    else
      kn_2 next2 (w64 (g + 1))
  else
    kn_2 next2 (w64 (g + 1))
def reached_L8 (it : It (List Bool)) (c : Convoy) (now : List Bool) (t : Truck) (m : Int) (kn_ : (List Bool) → Int → Option (List Bool)) (next : List Bool) (g : Int) (kn_2 : (List Bool) → Int → Option (List Bool)) : Option (List Bool) :=
  bif (decide (g ≤ c.Length)) then
    it _ (fun (v_0 : (Unit × Unit × (List Bool) × Int × Unit) × (Unit)) kn => reached_L11 g now t c m kn_2 v_0.1.2.2.1 v_0.1.2.2.2.1 (fun y0 y1 => kn (((), (), y0, y1, ()), (())))) (((), (), next, t.Pace.Lo, ()), (()))
  else
    kn_ next (w64 (m + 1))
def reached_L4 (it : It (List Bool)) (minute : Int) (c : Convoy) (t : Truck) (now : List Bool) (m : Int) (kn_ : (List Bool) → Int → Option (List Bool)) : Option (List Bool) :=
  bif (decide (m < minute)) then
    chk (fitM (w64 (c.Length + 1)) 1) <|
    it _ (fun (v_0 : (Unit × Unit × (List Bool) × Int × Unit) × (Unit)) kn => reached_L8 it c now t m kn_ v_0.1.2.2.1 v_0.1.2.2.2.1 (fun y0 y1 => kn (((), (), y0, y1, ()), (())))) (((), (), (List.replicate (w64 (c.Length + 1)).toNat false), 0, ()), (()))
  else
    some now
def reached' (it : It (List Bool)) (c : Convoy) (t : Truck) (minute : Int) : Option (List Bool) :=
  chk (fitM (w64 (c.Length + 1)) 1) <|
  chk (decide (0 ≤ 0) && decide (0 < ((List.replicate (w64 (c.Length + 1)).toNat false).length : Int))) <|
  chk (decide (0 < (List.replicate (w64 (c.Length + 1)).toNat false).length)) <|
  it _ (fun (v_0 : (Unit × Unit × (List Bool) × Int × Unit) × (Unit)) kn => reached_L4 it minute c t v_0.1.2.2.1 v_0.1.2.2.2.1 (fun y0 y1 => kn (((), (), y0, y1, ()), (())))) (((), (), ((List.replicate (w64 (c.Length + 1)).toNat false).set 0 true), t.Start, ()), (()))
def reached : Convoy → Truck → Int → Option (List Bool) := opq (fun c t minute => reached' itN c t minute)
theorem reached_eq (c : Convoy) (t : Truck) (minute : Int) : reached c t minute = reached' itN c t minute := by unfold reached; rw [opq_eq]
def E47 : FEnv iseat := ⟨⟨61, [sp82], [], [], [], [], [], [], true⟩, [(4, ⟨⟨[(3, .bx 3 0), (4, .bx 4 0), (7, .v (.sl .bool)), (8, .v (.int .i64))], []⟩, [2], [3, 4]⟩), (8, ⟨⟨[(3, .bx 3 0), (4, .bx 4 0), (9, .os 28 4 .bool), (10, .v (.int .i64))], []⟩, [7, 8], []⟩), (11, ⟨⟨[(3, .bx 3 0), (4, .bx 4 0), (9, .os 28 4 .bool), (11, .v (.int .i64))], []⟩, [10], []⟩)]⟩
theorem e47 (it : It (List Bool)) (c : Convoy) (t : Truck) (minute : Int) : fnRun (ts := [.sl .bool]) it E47 (bodyOf Tryd.f47) Tryd.f47.results.toList (encA [.Convoy, .Truck, .int .i64] (c, t, minute, ())) = reached' it c t minute := by kernel_rfl
def sp47 : FnSpec iseat.toSeat := mkSpec iseat.toSeat 47 [.Convoy, .Truck, .int .i64] [.sl .bool] false (fun a => reached a.1 a.2.1 a.2.2.1) (fun a x hx h h' => fn_contract (Z := iseat) (ats := [.Convoy, .Truck, .int .i64]) (ts := [.sl .bool]) (E := E47) (fn := Tryd.f47) (c := bodyOf Tryd.f47) Tryd.func47 (by kernel_rfl) (by kernel_rfl) (by kernel_rfl) (by kernel_rfl) rfl ((e47 itN a.1 a.2.1 a.2.2.1).trans ((reached_eq a.1 a.2.1 a.2.2.1).symm.trans hx)) h h') (fun h => nomatch h)
def ConvoyExact_L13 (r2 : (Seed × Int)) (r9 : List Bool) (r3 : (Seed × Truck)) (r4 : (Seed × Int)) (r8 : (Span × Int × Int)) (r7 : (Seed × Int)) (on_ : Int) (out : Int) (g : Int) (kn_ : Int → Int → Int → Option Bool) : Option Bool :=
  bif (decide (g ≤ r2.2)) then
    chk (decide (0 ≤ g) && decide (g < (r9.length : Int))) <|
    (OnRoad (⟨r2.2, 100, 0, ([(⟨r3.2.Way, r4.2, r3.2.Pace, r3.2.Holds⟩ : Truck)] : List Truck)⟩ : Convoy) (⟨r3.2.Way, r4.2, r3.2.Pace, r3.2.Holds⟩ : Truck) g).bind fun r10 =>
    (Has r8.1 r10).bind fun r11 =>
    bif (!((r9.getD g.toNat false) == r11)) then
      some false
    else
      chk (decide (0 ≤ g) && decide (g < (r9.length : Int))) <|
      bif (!(r9.getD g.toNat false)) then
        kn_ on_ out (w64 (g + 1))
      else
        (OnLane (⟨r2.2, 100, 0, ([(⟨r3.2.Way, r4.2, r3.2.Pace, r3.2.Holds⟩ : Truck)] : List Truck)⟩ : Convoy) (⟨r3.2.Way, r4.2, r3.2.Pace, r3.2.Holds⟩ : Truck) false g r7.2).bind fun r12 =>
        bif r12 then
          kn_ (w64 (on_ + 1)) out (w64 (g + 1))
        else
          kn_ on_ (w64 (out + 1)) (w64 (g + 1))
  else
    bif ((r8.2.1 == 1) == (out == 0)) then
      bif ((r8.2.1 == 2) == (on_ == 0)) then
        bif (decide (on_ > 0)) then
          bif ((r8.2.1 == 3) == (decide (out > 0))) then
            (awake).bind fun r13 =>
            some r13
          else
            some false
        else
          bif ((r8.2.1 == 3) == false) then
            (awake).bind fun r14 =>
            some r14
          else
            some false
      else
        some false
    else
      some false
def ConvoyExact' (it : It Bool) (nums : List Int) : Option Bool :=
  (NewSeed nums).bind fun r =>
  (From r 20 200).bind fun r2 =>
  (TruckOf r2.1 r2.2 3).bind fun r3 =>
  (Below r3.1 20).bind fun r4 =>
  (Below r4.1 15).bind fun r5 =>
  (Below r5.1 90).bind fun r6 =>
  (Of r6.1 [(w64 (r4.2 + r5.2)), r6.2]).bind fun r7 =>
  (pWhere (⟨r2.2, 100, 0, ([(⟨r3.2.Way, r4.2, r3.2.Pace, r3.2.Holds⟩ : Truck)] : List Truck)⟩ : Convoy) 0 false r7.2).bind fun r8 =>
  bif (r8.2.2 != 0) then
    some false
  else
    (reached (⟨r2.2, 100, 0, ([(⟨r3.2.Way, r4.2, r3.2.Pace, r3.2.Holds⟩ : Truck)] : List Truck)⟩ : Convoy) (⟨r3.2.Way, r4.2, r3.2.Pace, r3.2.Holds⟩ : Truck) r7.2).bind fun r9 =>
    it _ (fun (v_0 : (Unit × Unit × Unit × Int × Int × Int × Unit) × (Unit)) kn => ConvoyExact_L13 r2 r9 r3 r4 r8 r7 v_0.1.2.2.2.1 v_0.1.2.2.2.2.1 v_0.1.2.2.2.2.2.1 (fun y0 y1 y2 => kn (((), (), (), y0, y1, y2, ()), (())))) (((), (), (), 0, 0, 0, ()), (()))
def ConvoyExact : (List Int) → Option Bool := opq (fun nums => ConvoyExact' itN nums)
theorem ConvoyExact_eq (nums : List Int) : ConvoyExact nums = ConvoyExact' itN nums := by unfold ConvoyExact; rw [opq_eq]
def E11 : FEnv iseat := ⟨⟨111, [sp43, sp47, sp30, sp40, sp31, w19], [sp35, sp46, sp32, sp45], [sp24], [], [], [37], [], true⟩, [(13, ⟨⟨[(4, .bx 4 0), (5, .bx 5 0), (7, .bx 7 0), (11, .v (.int .i64)), (12, .v (.int .i64)), (13, .v (.int .i64))], []⟩, [6, 8, 10], [4, 5, 7]⟩)]⟩
theorem e11 (it : It Bool) (nums : List Int) : fnRun (ts := [.bool]) it E11 (bodyOf Tryd.f11) Tryd.f11.results.toList (encA [.sl (.int .i64)] (nums, ())) = ConvoyExact' it nums := by kernel_rfl
end
end Go.Proofs.Plain04


/- Each metre that is said is reached. -/
namespace Go.Proofs.Plain04
open Go Go.Ab
open Go.Proofs.YtafnhieaeejlcaaDoor (posR nextR stopR stopP stop_eq alongI laneP laneB ROk CR chkConvoy cr_of loI hiI loI_hiI loI_bnd hiI_bnd hiI_stop onL lane_one lane_two road_mem roadP stopP_bnd)
set_option linter.all false
/-- What is reached from the metres before g. -/
def Rch (t : OTr) (len m : Int) (g : Int) (y : Int) : Prop := ∃ x, 0 ≤ x ∧ x < g ∧ loI t len m ≤ x ∧ x ≤ hiI t len m ∧ ∃ d, t.lo ≤ d ∧ d ≤ t.hi ∧ y = nextR t len x m d
/-- .. and from the metre g with less than d metres. -/
def RchD (t : OTr) (len m : Int) (g d y : Int) : Prop := Rch t len m g y ∨ ∃ e, t.lo ≤ e ∧ e < d ∧ y = nextR t len g m e
theorem rch_all {t : OTr} {len m y : Int} (h : ROk len t) (hm : t.start ≤ m) : Rch t len m (len + 1) y ↔ loI t len (m + 1) ≤ y ∧ y ≤ hiI t len (m + 1) := by
  constructor
  · rintro ⟨x, x0, x1, x2, x3, d, d1, d2, rfl⟩
    obtain ⟨a, b, _⟩ := crs_step h hm x2 x3 d1 d2
    exact ⟨a, b⟩
  · rintro ⟨h1, h2⟩
    rw [loI_next h hm] at h1
    rw [hiI_next h hm] at h2
    have hs := hiI_stop h hm
    have hl := loI_hiI (m := m) h
    have hb := loI_bnd (m := m) h
    have hb2 := hiI_bnd (m := m) h
    have p2 := h.p2
    have key : ∀ x d, loI t len m ≤ x → x ≤ hiI t len m → t.lo ≤ d → d ≤ t.hi → y = min (x + d) (stopP t.way len m t.holds) → Rch t len m (len + 1) y := fun x d a1 a2 a3 a4 a5 =>
      ⟨x, by omega, by omega, a1, a2, d, a3, a4, by unfold nextR; rw [stop_eq (by omega)]; exact a5⟩
    by_cases e : y = stopP t.way len m t.holds
    · exact key (hiI t len m) t.hi hl (Int.le_refl _) p2 (Int.le_refl _) (by omega)
    · by_cases e2 : y - t.lo ≤ hiI t len m
      · exact key (y - t.lo) t.lo (by omega) e2 (Int.le_refl _) p2 (by omega)
      · exact key (hiI t len m) (y - hiI t len m) hl (Int.le_refl _) (by omega) (by omega) (by omega)
theorem rch_zero {t : OTr} {len m y : Int} : ¬ Rch t len m 0 y := fun ⟨x, x0, x1, _⟩ => by omega
theorem rchD_start {t : OTr} {len m g y : Int} : RchD t len m g t.lo y ↔ Rch t len m g y := by
  unfold RchD
  exact ⟨fun h => h.elim id fun ⟨e, a, b, _⟩ => by omega, .inl⟩
theorem rchD_next {t : OTr} {len m g d y : Int} (hd : t.lo ≤ d) : RchD t len m g (d + 1) y ↔ RchD t len m g d y ∨ y = nextR t len g m d := by
  unfold RchD
  constructor
  · rintro (h | ⟨e, a, b, r⟩)
    · exact .inl (.inl h)
    · by_cases ed : e = d
      · subst ed; exact .inr r
      · exact .inl (.inr ⟨e, a, by omega, r⟩)
  · rintro ((h | ⟨e, a, b, r⟩) | h)
    · exact .inl h
    · exact .inr ⟨e, a, by omega, r⟩
    · exact .inr ⟨d, hd, by omega, h⟩
theorem rchD_end {t : OTr} {len m g y : Int} (g0 : 0 ≤ g) (h1 : loI t len m ≤ g) (h2 : g ≤ hiI t len m) : RchD t len m g (t.hi + 1) y ↔ Rch t len m (g + 1) y := by
  unfold RchD Rch
  constructor
  · rintro (⟨x, a, b, r⟩ | ⟨e, a, b, r⟩)
    · exact ⟨x, a, by omega, r⟩
    · exact ⟨g, g0, by omega, h1, h2, e, a, by omega, r⟩
  · rintro ⟨x, a, b, c1, c2, d, d1, d2, r⟩
    by_cases ex : x = g
    · subst ex; exact .inr ⟨d, d1, by omega, r⟩
    · exact .inl ⟨x, a, by omega, c1, c2, d, d1, d2, r⟩
theorem rch_skip {t : OTr} {len m g y : Int} (h : ¬ (loI t len m ≤ g ∧ g ≤ hiI t len m)) : Rch t len m (g + 1) y ↔ Rch t len m g y := by
  unfold Rch
  constructor
  · rintro ⟨x, a, b, c1, c2, r⟩
    exact ⟨x, a, by
      by_cases ex : x = g
      · subst ex; exact absurd ⟨c1, c2⟩ h
      · omega, c1, c2, r⟩
  · rintro ⟨x, a, b, r⟩
    exact ⟨x, a, by omega, r⟩
/-- A list tells a set of metres. -/
def Tells (l : List Bool) (len : Int) (P : Int → Prop) : Prop := l.length = (len + 1).toNat ∧ ∀ y : Nat, (y : Int) ≤ len → (l.getD y false = true ↔ P y)
theorem tells_none {len : Int} {P : Int → Prop} (h0 : 0 ≤ len) (h : ∀ y, ¬ P y) : Tells (List.replicate (len + 1).toNat false) len P := by
  refine ⟨by simp, fun y hy => ?_⟩
  rw [List.getD_eq_getElem?_getD, List.getElem?_replicate]
  refine ⟨fun hh => ?_, fun hp => absurd hp (h y)⟩
  split at hh <;> cases hh
theorem tells_set {l : List Bool} {len : Int} {P Q : Int → Prop} (h : Tells l len P) {z : Int} (z0 : 0 ≤ z) (z1 : z ≤ len) (hq : ∀ y : Int, Q y ↔ P y ∨ y = z) : Tells (l.set z.toNat true) len Q := by
  refine ⟨by simp [h.1], fun y hy => ?_⟩
  rw [getD_set, hq]
  by_cases e : z.toNat = y
  · have hl : y < l.length := by rw [h.1]; omega
    rw [if_pos ⟨e, hl⟩]
    exact ⟨fun _ => .inr (by omega), fun _ => rfl⟩
  · rw [if_neg (fun hh => e hh.1), h.2 y hy]
    exact ⟨.inl, fun hh => hh.elim id fun hh => absurd (by omega) e⟩
theorem tells_congr {l : List Bool} {len : Int} {P Q : Int → Prop} (h : Tells l len P) (hq : ∀ y : Int, P y ↔ Q y) : Tells l len Q := ⟨h.1, fun y hy => (h.2 y hy).trans (hq y)⟩
def Rng (t : OTr) (len m : Int) (y : Int) : Prop := loI t len m ≤ y ∧ y ≤ hiI t len m
instance (t : OTr) (len m y : Int) : Decidable (Rng t len m y) := inferInstanceAs (Decidable (_ ∧ _))
theorem reached_ok {c : Convoy} {t : Truck} (h : ROk c.Length (oT t)) {minute : Int} (m1 : minute ≤ 100000) : Ok (fun l => Tells l c.Length (Rng (oT t) c.Length minute)) (reached c t minute) := by
  rw [reached_eq]
  have l1 := h.l1
  have l2 := h.l2
  have s1 : 0 ≤ t.Start := h.s1
  have s2 : t.Start ≤ 10000 := h.s2
  have p1 : 1 ≤ t.Pace.Lo := h.p1
  have p2 : t.Pace.Lo ≤ t.Pace.Hi := h.p2
  have p3 : t.Pace.Hi ≤ 1000 := h.p3
  have ew : w64 (c.Length + 1) = c.Length + 1 := w64_id (by omega) (by omega)
  have hfit : fitM (c.Length + 1) 1 = true := by unfold fitM; simp; omega
  have h00 : Tells ((List.replicate (c.Length + 1).toNat false).set 0 true) c.Length (Rng (oT t) c.Length t.Start) :=
    tells_set (z := 0) (tells_none (P := fun _ => False) (by omega) (fun _ => id)) (Int.le_refl _) (by omega) fun y => by
      have hz := lohi_zero (t := oT t) (len := c.Length) (m := t.Start) (Int.le_refl _)
      unfold Rng
      rw [hz.1, hz.2]
      exact ⟨fun hh => .inr (by omega), fun hh => hh.elim False.elim fun hh => by omega⟩
  unfold reached'
  rw [ew]
  refine Ok.chk hfit (Ok.chk (by simp; omega) (Ok.chk (by simp; omega) ?_))
  refine Ok.rounds (fun v => t.Start ≤ v.1.2.2.2.1 ∧ (v.1.2.2.2.1 ≤ minute ∨ v.1.2.2.2.1 = t.Start) ∧ Tells v.1.2.2.1 c.Length (Rng (oT t) c.Length v.1.2.2.2.1)) (fun v => (minute - v.1.2.2.2.1).toNat) ?_ ?_ ?_
  · show (minute - t.Start).toNat < 18446744073709551616
    omega
  · exact ⟨Int.le_refl _, .inr rfl, h00⟩
  rintro ⟨⟨_, _, now, m, _⟩, _⟩ kn1 ⟨i1, i2, i3⟩ hk1
  simp only at i1 i2 i3 ⊢
  refine Ok.ite (fun hlt => ?_) fun hge => Ok.some ?_
  rotate_left 1
  · have hge := of_decide_eq_false hge
    refine tells_congr i3 fun y => ?_
    by_cases e : m = minute
    · rw [e]
    · have hz := lohi_zero (t := oT t) (len := c.Length) (m := m) (by show m ≤ t.Start; omega)
      have hz2 := lohi_zero (t := oT t) (len := c.Length) (m := minute) (by show minute ≤ t.Start; omega)
      unfold Rng
      rw [hz.1, hz.2, hz2.1, hz2.2]
  have hlt := of_decide_eq_true hlt
  have em : w64 (m + 1) = m + 1 := w64_id (by omega) (by omega)
  rw [ew]
  refine Ok.chk hfit ?_
  refine Ok.rounds (fun v => 0 ≤ v.1.2.2.2.1 ∧ v.1.2.2.2.1 ≤ c.Length + 1 ∧ Tells v.1.2.2.1 c.Length (Rch (oT t) c.Length m v.1.2.2.2.1)) (fun v => (c.Length + 1 - v.1.2.2.2.1).toNat) ?_ ?_ ?_
  · show (c.Length + 1 - 0).toNat < 18446744073709551616
    omega
  · exact ⟨Int.le_refl _, by show (0 : Int) ≤ c.Length + 1; omega, tells_none (by omega) fun y => rch_zero⟩
  rintro ⟨⟨_, _, next, g, _⟩, _⟩ kn2 ⟨j1, j2, j3⟩ hk2
  simp only at j1 j2 j3 ⊢
  have eg : w64 (g + 1) = g + 1 := w64_id (by omega) (by omega)
  refine Ok.ite (fun hlt2 => ?_) fun hge2 => hk1 _ ?_ ?_
  rotate_left 1
  · have hge2 := of_decide_eq_false hge2
    simp only [em]
    refine ⟨by omega, .inl (by omega), tells_congr j3 fun y => ?_⟩
    rw [show g = c.Length + 1 by omega, rch_all h i1]; rfl
  · simp only [em]; omega
  have hlt2 := of_decide_eq_true hlt2
  have hnow := i3.2 g.toNat (by omega)
  rw [show ((g.toNat : Nat) : Int) = g by omega] at hnow
  refine Ok.rounds (fun v => t.Pace.Lo ≤ v.1.2.2.2.1 ∧ v.1.2.2.2.1 ≤ t.Pace.Hi + 1 ∧ Tells v.1.2.2.1 c.Length (RchD (oT t) c.Length m g v.1.2.2.2.1) ∧ (v.1.2.2.2.1 ≠ t.Pace.Lo → Rng (oT t) c.Length m g)) (fun v => (t.Pace.Hi + 1 - v.1.2.2.2.1).toNat) ?_ ?_ ?_
  · show (t.Pace.Hi + 1 - t.Pace.Lo).toNat < 18446744073709551616
    omega
  · exact ⟨Int.le_refl _, by show t.Pace.Lo ≤ t.Pace.Hi + 1; omega, tells_congr j3 fun y => rchD_start.symm, fun hh => absurd rfl hh⟩
  rintro ⟨⟨_, _, nx, d, _⟩, _⟩ kn3 ⟨k1, k2, k3, k4⟩ hk3
  simp only at k1 k2 k3 k4 ⊢
  have ed : w64 (d + 1) = d + 1 := w64_id (by omega) (by omega)
  refine Ok.chk (ib j1 (by rw [i3.1]; omega)) (Ok.ite (fun hc => ?_) fun hc => ?_)
  · have hin := hnow.1 hc
    have hb := hiI_bnd (m := m) h
    refine Ok.ite (fun hd => ?_) fun hd => hk2 _ ?_ ?_
    · have hd := of_decide_eq_true hd
      obtain ⟨q1, q2, q3, q4⟩ := crs_step h i1 hin.1 hin.2 k1 hd
      have hbn := hiI_bnd (m := m + 1) h
      refine Ok.beq (stopped_sp h (by omega) (by omega) (by omega) (by omega)) (Ok.chk (ib (by omega) (by rw [k3.1]; omega)) (Ok.chk (decide_eq_true (by rw [k3.1]; omega)) (hk3 _ ?_ ?_)))
      · simp only [ed]
        exact ⟨by omega, by omega, tells_set k3 (by omega) (by omega) fun y => rchD_next k1, fun _ => hin⟩
      · simp only [ed]; omega
    · have hd := of_decide_eq_false hd
      simp only [eg]
      refine ⟨by omega, by omega, tells_congr k3 fun y => ?_⟩
      rw [show d = (oT t).hi + 1 by show d = t.Pace.Hi + 1; omega]
      exact rchD_end j1 hin.1 hin.2
    · simp only [eg]; omega
  · have hout : ¬ Rng (oT t) c.Length m g := fun hh => by rw [hnow.2 hh] at hc; cases hc
    have hdl : d = t.Pace.Lo := Classical.byContradiction fun hn => hout (k4 hn)
    subst hdl
    refine hk2 _ ?_ ?_
    · simp only [eg]
      refine ⟨by omega, by omega, tells_congr k3 fun y => ?_⟩
      rw [rch_skip hout]; exact rchD_start
    · simp only [eg]; omega
theorem lane_vals (t : OTr) (len m : Int) : (laneP t len m).2 = 1 ∨ (laneP t len m).2 = 2 ∨ (laneP t len m).2 = 3 := by
  unfold laneP
  split
  · exact .inr (.inl rfl)
  · split
    · exact .inl rfl
    · split
      · exact .inr (.inl rfl)
      · exact .inr (.inr rfl)
theorem along_inj {way len x y : Int} (h : alongI way len x = alongI way len y) : x = y := by
  unfold alongI at h; split at h <;> omega
theorem ConvoyExact_true {nums : List Int} (hn : nums.length ≤ 9223372036854775807) : ConvoyExact nums = some true := by
  rw [ConvoyExact_eq]; apply ok_eq
  refine Ok.bind (NewSeed_ok hn) fun r _ => ?_
  refine Ok.bind (From_ok _ (by omega) (by omega) (by omega) (by omega)) fun r2 h2 => ?_
  refine Ok.bind (TruckOf_made _ (length := r2.2) (by omega) (by omega) (by omega) (by omega)) fun r3 h3 => ?_
  refine Ok.bind (Below_ok _ (by omega)) fun r4 h4 => ?_
  refine Ok.bind (Below_ok _ (by omega)) fun r5 h5 => ?_
  refine Ok.bind (Below_ok _ (by omega)) fun r6 h6 => ?_
  have e0 : w64 (r4.2 + r5.2) = r4.2 + r5.2 := w64_id (by omega) (by omega)
  rw [e0]
  refine Ok.bind (Of_ok _ (by simp) (by simp)) fun r7 h7 => ?_
  simp only [List.mem_cons, List.not_mem_nil, or_false] at h7
  have m0 : 0 ≤ r7.2 := by omega
  have m1 : r7.2 ≤ 89 := by omega
  -- the truck and the convoy
  obtain ⟨t, ht⟩ : ∃ t, t = (⟨r3.2.Way, r4.2, r3.2.Pace, r3.2.Holds⟩ : Truck) := ⟨_, rfl⟩
  obtain ⟨c, hc⟩ : ∃ c, c = (⟨r2.2, 100, 0, [t]⟩ : Convoy) := ⟨_, rfl⟩
  rw [← ht, ← hc]
  have hL : r2.2 = c.Length := by rw [hc]
  have hm : TMade c.Length 3 t := by
    rw [← hL, ht]
    exact ⟨h3.way, by show 0 ≤ r4.2; omega, by show r4.2 ≤ 199; omega, h3.p1, h3.p2, h3.p3, h3.n, h3.h, h3.so⟩
  have hcm : CMade 1 c := by
    refine ⟨by omega, by omega, by rw [hc]; show (1 : Int) ≤ 100; omega, by rw [hc]; exact Int.le_refl _, by rw [hc]; exact Int.le_refl _, by rw [hc]; show (0 : Int) ≤ 2; omega, by rw [hc]; exact Int.le_refl _, fun x hx => ?_, fun x hx => ?_⟩
    · have : x = t := by rw [hc] at hx; simpa using hx
      rw [this]; exact hm
    · have e : x = t := by rw [hc] at hx; simpa using hx
      have := hm.p3
      have e2 : c.Gap = 100 := by rw [hc]
      rw [e, e2]; omega
  have hv := made_valid hcm (by omega)
  have hlen : c.Trucks.length = 1 := by rw [hc]; rfl
  have hget : c.Trucks.getD 0 dfltTruck = t := by rw [hc]; rfl
  have hr := rok_ hv (k := 0) (by omega)
  rw [hget] at hr
  have l1 := hcm.l1
  have l2 := hcm.l2
  have ew := where_ok hv (i := 0) (Int.le_refl _) (by omega) false m0 (show r7.2 ≤ 30000 by omega)
  have ez : (0 : Int).toNat = 0 := rfl
  rw [ez, hget] at ew
  have ef : frN t false = t := rfl
  rw [ef] at ew
  refine Ok.beq ((pWhere_sp _ _ _ _).trans (congrArg some ew)) (Ok.no rfl ?_)
  refine Ok.bind (reached_ok hr (minute := r7.2) (by omega)) fun r9 h9 => ?_
  unfold ConvoyExact_L13
  rw [← ht, ← hc, hL]
  have hlo := loI_hiI (m := r7.2) hr
  have hbb := hiI_bnd (m := r7.2) hr
  have hbl := loI_bnd (m := r7.2) hr
  refine Ok.rounds (fun v => 0 ≤ v.1.2.2.2.2.2.1 ∧ v.1.2.2.2.2.2.1 ≤ c.Length + 1 ∧ 0 ≤ v.1.2.2.2.1 ∧ v.1.2.2.2.1 ≤ v.1.2.2.2.2.2.1 ∧ 0 ≤ v.1.2.2.2.2.1 ∧ v.1.2.2.2.2.1 ≤ v.1.2.2.2.2.2.1 ∧
      (v.1.2.2.2.1 = 0 ↔ ∀ g, g < v.1.2.2.2.2.2.1 → ¬ onL (oT t) c.Length r7.2 g) ∧ (v.1.2.2.2.2.1 = 0 ↔ ∀ g, g < v.1.2.2.2.2.2.1 → Rng (oT t) c.Length r7.2 g → onL (oT t) c.Length r7.2 g)) (fun v => (c.Length + 1 - v.1.2.2.2.2.2.1).toNat) ?_ ?_ ?_
  · show (c.Length + 1 - 0).toNat < 18446744073709551616
    omega
  · refine ⟨Int.le_refl _, by show (0 : Int) ≤ c.Length + 1; omega, Int.le_refl _, Int.le_refl _, Int.le_refl _, Int.le_refl _, ⟨fun _ g hg hon => ?_, fun _ => rfl⟩, ⟨fun _ g hg hr => ?_, fun _ => rfl⟩⟩
    · have := hon.2.1; simp only at hg; omega
    · have := hr.1; simp only at hg; omega
  rintro ⟨⟨_, _, _, on_, out, g, _⟩, _⟩ kn ⟨i1, i2, i3, i4, i5, i6, i7, i8⟩ hk
  simp only at i1 i2 i3 i4 i5 i6 i7 i8 ⊢
  have eg : w64 (g + 1) = g + 1 := w64_id (by omega) (by omega)
  have eon : w64 (on_ + 1) = on_ + 1 := w64_id (by omega) (by omega)
  have eout : w64 (out + 1) = out + 1 := w64_id (by omega) (by omega)
  have split1 : ∀ {Q : Int → Prop}, (∀ x, x < g + 1 → Q x) ↔ ((∀ x, x < g → Q x) ∧ Q g) := fun {Q} =>
    ⟨fun h => ⟨fun x hx => h x (by omega), h g (by omega)⟩, fun h x hx => by
      by_cases e : x = g
      · rw [e]; exact h.2
      · exact h.1 x (by omega)⟩
  refine Ok.ite (fun hlt => ?_) fun hge => ?_
  · have hlt := of_decide_eq_true hlt
    have hin := h9.2 g.toNat (by omega)
    rw [show ((g.toNat : Nat) : Int) = g by omega] at hin
    have hmem : (nS (roadP t.Way c.Length ⟨loI (oT t) c.Length r7.2, hiI (oT t) c.Length r7.2⟩)).Lo ≤ alongI t.Way c.Length g ∧ alongI t.Way c.Length g ≤ (nS (roadP t.Way c.Length ⟨loI (oT t) c.Length r7.2, hiI (oT t) c.Length r7.2⟩)).Hi ↔ Rng (oT t) c.Length r7.2 g :=
      (road_mem hlo).trans ⟨fun ⟨g', a, b, e⟩ => by rw [along_inj e]; exact ⟨a, b⟩, fun ⟨a, b⟩ => ⟨g, a, b, rfl⟩⟩
    have hb : (decide (0 ≤ g) && decide (g < ((r9.length : Nat) : Int))) = true := ib i1 (by rw [h9.1]; omega)
    refine Ok.chk hb (Ok.beq (OnRoad_sp _ _ (by omega) (by omega) (by omega) (by omega)) (Ok.beq (Has_sp _ _) ?_))
    rw [decide_eq_decide.2 hmem]
    by_cases hR : Rng (oT t) c.Length r7.2 g
    · have hnow : r9.getD g.toNat false = true := hin.2 hR
      rw [hnow, decide_eq_true hR]
      refine Ok.no rfl (Ok.chk hb (Ok.no rfl (Ok.beq (OnLane_sp false hr _ _) ?_)))
      have lis := lane_is hr hR.1 hR.2
      refine Ok.ite (fun ho => hk _ ?_ ?_) fun ho => hk _ ?_ ?_
      · have hon := lis.1 ho
        simp only [eon, eg]
        refine ⟨by omega, by omega, by omega, by omega, by omega, by omega, ?_, ?_⟩
        · exact ⟨fun h => by omega, fun h => absurd hon (h g (by omega))⟩
        · rw [i8, split1]
          exact ⟨fun h => ⟨h, fun _ => hon⟩, fun h => h.1⟩
      · simp only [eg]; omega
      · have hoff : ¬ onL (oT t) c.Length r7.2 g := fun hh => by
          have ho2 : laneB (oT t) c.Length g r7.2 = false := ho
          rw [lis.2 hh] at ho2; cases ho2
        simp only [eout, eg]
        refine ⟨by omega, by omega, by omega, by omega, by omega, by omega, ?_, ?_⟩
        · rw [i7, split1]
          exact ⟨fun h => ⟨h, hoff⟩, fun h => h.1⟩
        · exact ⟨fun h => by omega, fun h => absurd (h g (by omega) hR) hoff⟩
      · simp only [eg]; omega
    · have hnow : r9.getD g.toNat false = false := by
        cases hx : r9.getD g.toNat false with
        | false => rfl
        | true => exact absurd (hin.1 hx) hR
      rw [hnow, decide_eq_false hR]
      refine Ok.no rfl (Ok.chk hb (Ok.yes rfl (hk _ ?_ ?_)))
      · simp only [eg]
        refine ⟨by omega, by omega, by omega, by omega, by omega, by omega, ?_, ?_⟩
        · rw [i7, split1]
          exact ⟨fun h => ⟨h, fun hh => hR ⟨hh.2.1, hh.2.2.1⟩⟩, fun h => h.1⟩
        · rw [i8, split1]
          exact ⟨fun h => ⟨h, fun hh => absurd hh hR⟩, fun h => h.1⟩
      · simp only [eg]; omega
  · have hge := of_decide_eq_false hge
    have hg : g = c.Length + 1 := by omega
    subst hg
    have v2 : (laneP (oT t) c.Length r7.2).2 = 2 ↔ on_ = 0 := by
      rw [lane_two hr, i7]
      exact ⟨fun h x _ => h x, fun h x hx => h x (by have := hx.2.2.1; omega) hx⟩
    have v1 : (laneP (oT t) c.Length r7.2).2 = 1 ↔ out = 0 := by
      rw [lane_one hr, i8]
      constructor
      · rintro ⟨a, b⟩ x _ hx
        exact ⟨a, hx.1, hx.2, Int.lt_of_le_of_lt hx.2 b⟩
      · intro h
        have := h (hiI (oT t) c.Length r7.2) (by omega) ⟨hlo, Int.le_refl _⟩
        exact ⟨this.1, this.2.2.2⟩
    have v3 := lane_vals (oT t) c.Length r7.2
    have hawake : Ok (fun b => b = true) ((awake).bind fun r7 => some r7) := by rw [awake_eq]; exact Ok.bind (Ok.some (P := fun b => b = true) rfl) fun b hb => Ok.some hb
    generalize (laneP (oT t) c.Length r7.2).2 = v at v1 v2 v3 ⊢
    have b1 : ((v == 1) == (out == 0)) = true := by rw [beq_iff_eq, Bool.eq_iff_iff]; simpa using v1
    have b2 : ((v == 2) == (on_ == 0)) = true := by rw [beq_iff_eq, Bool.eq_iff_iff]; simpa using v2
    refine Ok.yes b1 (Ok.yes b2 (Ok.ite (fun h => ?_) fun h => ?_))
    · have h := of_decide_eq_true h
      refine Ok.yes ?_ hawake
      rw [beq_iff_eq, Bool.eq_iff_iff]
      simp only [beq_iff_eq, decide_eq_true_eq]
      omega
    · have h := of_decide_eq_false h
      refine Ok.yes ?_ hawake
      rw [beq_iff_eq]
      simp only [beq_eq_false_iff_ne, ne_eq]
      omega
end Go.Proofs.Plain04


/- How the arguments of a law are read as plain data of Lean, what the table of the four cases holds, and what a law that writes nothing older than itself leaves: its arguments read as they did. -/
namespace Go.Proofs.YtafnhieaeejlcaaDoor
open Go Go.Ab Go.ChangeShapes Go.WideShapes Go.ChangeAt Go.RowKit
set_option maxRecDepth 100000

/-- All that a world's memory holds. -/
def allK (w : World) : Nat → Nat → Option Value := fun b o => w.cell? ⟨b, o, none⟩
theorem allK_fits (w : World) : Fits (allK w) w := fun _ _ _ h => h

theorem cells3 : Tryd.prog.cellsOf 3 = 1 := by kernel_rfl
theorem cells102 : Tryd.prog.cellsOf 102 = 2 := by kernel_rfl
theorem cells103 : Tryd.prog.cellsOf 103 = 8 := by kernel_rfl

section
variable {H : Type} {enc : TypeId × Value → H} {W : World}

/-- Whatever reads as the type, stands for a datum of Lean. -/
def Rd {α : Type} (enc : TypeId × Value → H) (W : World) (t : TypeId) (ec : α → List D) : Prop :=
  ∀ n cs x, DataW.trod enc Tryd.prog W 0 (fun _ => true) true n t cs = some x → ∃ a : α, RepL (allK W) γ0 sv0 (ec a) cs

theorem fld {fs : Array Field} {xs : List (DataW H × List MemPlace)} {cs : List Value} {n : Nat}
    (hf : ∀ (i : Nat) (f : Field), fs[i]? = some f → DataW.trod enc Tryd.prog W 0 (fun _ => true) true n f.type ((cs.drop f.offset).take (Tryd.prog.cellsOf f.type)) = xs[i]?)
    (hl : xs.length = fs.size) (i : Nat) (f : Field) (hi : fs[i]? = some f) : ∃ y, DataW.trod enc Tryd.prog W 0 (fun _ => true) true n f.type ((cs.drop f.offset).take (Tryd.prog.cellsOf f.type)) = some y := by
  have h1 := (Array.getElem?_eq_some_iff.1 hi).1
  rw [← hl] at h1
  exact ⟨xs[i], by rw [hf i f hi]; exact List.getElem?_eq_getElem h1⟩

theorem rd_int : Rd enc W 3 encI := by
  intro n cs x h
  obtain ⟨a, rfl, _⟩ := DataW.trod_int Tryd.underlying3 h
  exact ⟨a, .cons _ _ _ _ (.int _ _) .nil⟩

theorem rd_slice {α : Type} [Inhabited α] {t e z : Nat} {ec : α → List D} (ht : Tryd.prog.underlying t = some (.slice e)) (hz : Tryd.prog.cellsOf e = z) (hz0 : 0 < z) (hl : ∀ a, (ec a).length = z)
    (hc : ∀ a, allCell (ec a) = true) (hr : Rd enc W e ec) : Rd enc W t (fun l : List α => [slOf z ec l]) := by
  intro n cs x h
  rcases Deep.open_slice ht h with ⟨rfl, rfl⟩ | ⟨a, len, cap, m, n', D, Pl, rfl, _, hlc, _, hm, rfl, hx⟩
  · exact ⟨[], .cons _ _ _ _ (.sl0 _ _) .nil⟩
  · simp only [if_true] at hm
    subst hm
    rw [hz] at hx
    rcases Nat.eq_zero_or_pos len with rfl | hpos
    · exact ⟨[], .cons _ _ _ _ (.slE _ _ _ _) .nil⟩
    · have hx' : ∀ i, i < len → ∃ p : α × List Value, W.cells? 0 (a.add (i * z)) z = some p.2 ∧ RepL (allK W) γ0 sv0 (ec p.1) p.2 := fun i hi => by
        obtain ⟨cs', h1, h2⟩ := hx i (by omega)
        obtain ⟨b, hb⟩ := hr _ _ _ h2
        exact ⟨(b, cs'), h1, hb⟩
      obtain ⟨F, hF⟩ := Deep.choose_lt hx'
      have hsp : a.spot = none := by
        obtain ⟨_, h1, h2⟩ := World.cells?_some (hF 0 hpos).1
        have h3 := h2 0 hz0
        rw [List.getElem?_eq_getElem (by omega)] at h3
        simpa [Addr.add] using World.cell?_spot h3
      obtain ⟨b, off, sp⟩ := a
      simp only at hsp
      subst hsp
      refine ⟨(List.range len).map (fun i => (F i).1), .cons _ _ _ _ ?_ .nil⟩
      have hlen : ((List.range len).map (fun i => (F i).1)).length = len := by simp
      have hg : ∀ i, i < len → ((List.range len).map (fun i => (F i).1)).getD i default = (F i).1 := fun i hi => by simp [List.getD, hi]
      unfold slOf
      rw [hlen]
      refine .sl z len _ b off m (fun i => (F i).2) hlc (fun i _ => hl _) (fun i _ => hc _) (fun i hi => by rw [hg i hi]; exact (hF i hi).2) (fun i j v hi hj => ?_)
      obtain ⟨_, h1, h2⟩ := World.cells?_some (hF i hi).1
      have hjl := (List.getElem?_eq_some_iff.1 hj).1
      have h3 := h2 j (by omega)
      rw [add_plain, add_plain, hj] at h3
      exact h3

/-- An argument that is a list of numbers. -/
theorem arg_ints {v : Value} {d : DataW H} {ps : List MemPlace} {base : Nat} (hv : Value.okWide Tryd.prog W .any base 31 v) (h : DataW.Trod enc Tryd.prog W 0 (fun _ => true) true 31 v d ps) :
    ∃ l : List Int, Rep (allK W) γ0 sv0 (slOf 1 encI l) v := by
  obtain ⟨n, hn⟩ := h
  obtain ⟨l, hl⟩ := rd_slice (ec := encI) Tryd.underlying31 cells3 (by decide) (fun _ => rfl) (fun _ => rfl) rd_int _ _ _ hn
  obtain ⟨a0, len, cap, rfl⟩ := okWide_slice Tryd.underlying31 hv
  cases hl with
  | cons _ _ _ _ k _ => exact ⟨l, k⟩
end

/-- What the row's list gives: the cells of the table. -/
theorem glob_of {W : World} (h : laidMetH Tryd.prog [("sastrugi/convoy.cases", Rows.laid_sastrugi_convoy_cases)] W) : GlobOk seat (allK W) := by
  have h' : laidMet Tryd.prog [("sastrugi/convoy.cases", Rows.laid_sastrugi_convoy_cases)] W := h
  obtain ⟨ps, ⟨g, t, cs, fuel, p, q, hg, ht, hvar, hd, _, _⟩, _⟩ := h'
  have hg0 : Tryd.prog.globalNamed "sastrugi/convoy.cases" = some 0 := by kernel_rfl
  have ht0 : (Tryd.prog.globals[0]?).map (·.type) = some 103 := by kernel_rfl
  obtain rfl := Option.some.inj (hg0.symm.trans hg)
  obtain rfl := Option.some.inj (ht0.symm.trans ht)
  obtain ⟨xs, m, rfl, hx, hlen, hxl, he⟩ := DataW.trod_array Tryd.underlying103 hd
  have hx1 := congrArg Prod.fst hx
  simp only [Rows.laid_sastrugi_convoy_cases, DataW.agg.injEq] at hx1
  rw [cells103] at hlen
  rw [cells102] at he
  have row : ∀ i a b, i < 4 → (xs.map (·.1))[i]? = some (.agg [.lit (.int .i64 a), .lit (.int .i64 b)]) → (cs.toList.drop (i * 2)).take 2 = [Value.int .i64 a, Value.int .i64 b] := fun i a b hi hi2 => by
    rw [List.getElem?_map] at hi2
    obtain ⟨y, hy, hy2⟩ := Option.map_eq_some_iff.1 hi2
    have h1 := he i hi
    rw [hy] at h1
    obtain ⟨d, p'⟩ := y
    simp only at hy2
    subst hy2
    exact Lib.cells_of_tab (zs := [a, b]) Tryd.underlying102 Tryd.underlying3 cells3 cells102 h1
  rw [← hx1] at row
  have r0 := row 0 0 0 (by decide) rfl
  have r1 := row 1 1 0 (by decide) rfl
  have r2 := row 2 0 1 (by decide) rfl
  have r3 := row 3 1 1 (by decide) rfl
  have hcell : ∀ j, W.cell? ⟨0, j, none⟩ = cs.toList[j]? := fun j => by rw [World.var?_cell hg hvar j]; simp
  generalize cs.toList = l at hlen r0 r1 r2 r3 hcell
  rcases l with _ | ⟨c0, _ | ⟨c1, _ | ⟨c2, _ | ⟨c3, _ | ⟨c4, _ | ⟨c5, _ | ⟨c6, _ | ⟨c7, _ | ⟨c8, l⟩⟩⟩⟩⟩⟩⟩⟩⟩ <;> simp at hlen
  simp at r0 r1 r2 r3
  obtain ⟨rfl, rfl⟩ := r0
  obtain ⟨rfl, rfl⟩ := r1
  obtain ⟨rfl, rfl⟩ := r2
  obtain ⟨rfl, rfl⟩ := r3
  intro g l hl
  show _
  have hl' : globs g = some l := hl
  unfold globs at hl'
  split at hl'
  · simp only [Option.some.injEq] at hl'
    subst hl'
    refine ⟨rfl, _, ?_, fun j v hj => by rw [show allK W 0 j = _ from hcell j]; exact hj⟩
    exact .cons _ _ _ _ (.int _ _) (.cons _ _ _ _ (.int _ _) (.cons _ _ _ _ (.int _ _) (.cons _ _ _ _ (.int _ _) (.cons _ _ _ _ (.int _ _) (.cons _ _ _ _ (.int _ _) (.cons _ _ _ _ (.int _ _) (.cons _ _ _ _ (.int _ _) .nil)))))))
  · cases hl'

theorem laidOut : laidOutB Tryd.prog = true := by kernel_rfl
theorem own : ownKnob Tryd.prog.godebug = none := by kernel_rfl

theorem trodAll_stays {H : Type} {enc : TypeId × Value → H} {W W' : World} {sp' : Nat → Bool} (hb : Below W.heap.size W W') : ∀ {ts : List TypeId} {vs : List Value} {ds : List (DataW H)} {ps : List MemPlace},
    (∀ t ∈ ts, Tryd.prog.readableRec t = true ∧ t < Tryd.prog.types.size) → DataW.TrodAll enc Tryd.prog W 0 (fun _ => true) true ts vs ds ps → (∀ p ∈ ps, p.block < W.heap.size) → (∀ p ∈ ps, sp' p.block = true) →
    DataW.TrodAll enc Tryd.prog W' 0 sp' true ts vs ds ps
  | [], [], [], _, _, h, _, _ => h
  | _ :: _, _ :: _, _ :: _, _, hT, ⟨p, q, h1, h2, e⟩, hlt, hs => ⟨p, q,
      WideElems.Trod_stays laidOut (hT _ (List.mem_cons_self ..)).1 (hT _ (List.mem_cons_self ..)).2 h1 (fun x hx => hb.same (hlt x (by rw [e]; exact List.mem_append_left _ hx))) (fun x hx => hs x (by rw [e]; exact List.mem_append_left _ hx)),
      trodAll_stays hb (fun t ht => hT t (List.mem_cons_of_mem _ ht)) h2 (fun x hx => hlt x (by rw [e]; exact List.mem_append_right _ hx)) (fun x hx => hs x (by rw [e]; exact List.mem_append_right _ hx)), e⟩

/-- A law that says yes and writes nothing older than itself. -/
theorem post_yes {H : Type} {enc : TypeId × Value → H} {f : Func} {s : ChangeSpec} {W W' : World} {args : Array Value} {ds gs : List (DataW H)} {before : List MemPlace}
    (hW : DataW.Whole enc Tryd.prog f.params.toList s.vars false W args.toList ds gs before) (hv : s.vars = []) (hb : Below W.heap.size W W')
    (hT : ∀ t ∈ f.params.toList, Tryd.prog.readableRec t = true ∧ t < Tryd.prog.types.size) (hrt : f.resultTypes = #[4])
    (hr : (s.fn H (ds ++ gs)).results = [.lit (.bool true)]) (ha : (s.fn H (ds ++ gs)).args = ds) (hvs : (s.fn H (ds ++ gs)).vars = []) :
    s.post enc Tryd.prog f false true false false W args (.bool true) W' := by
  have hlt := hW.lt
  have hW2 := hW
  obtain ⟨p, q, hA, hV, rfl, _, _⟩ := hW
  rw [hv] at hV
  obtain ⟨rfl, rfl⟩ := trodVars_none hV
  refine ⟨ds, [], p ++ [], [], p, [], hW2, ?_, ?_, ?_, hb.frame _, fun h => by cases h⟩
  · rw [hr, hrt]
    exact trodAll_mk1 (shut_bool Tryd.underlying4 _)
  · rw [ha]
    exact trodAll_stays hb hT hA (fun x hx => hlt x (by simpa using hx)) (fun x hx => by simpa using hlt x (by simpa using hx))
  · rw [hvs, hv]; rfl

/-- A world for the witness: the settled one, the table holding what its initialiser lays. -/
noncomputable def laidWorld (os : Os) : World :=
  { World.holding Tryd.prog os ⟨#[], #[], []⟩ with heap := (World.holding Tryd.prog os ⟨#[], #[], []⟩).heap.modify 0 fun
      | .cells _ t frozen => .cells #[.int .i64 0, .int .i64 0, .int .i64 1, .int .i64 0, .int .i64 0, .int .i64 1, .int .i64 1, .int .i64 1] t frozen
      | o => o }
end Go.Proofs.YtafnhieaeejlcaaDoor


/- Further readers of arguments; convoys of the two kinds of typed data. -/
namespace Go.Proofs.YtafnhieaeejlcaaDoor
open Go Go.Ab Go.ChangeShapes Go.WideShapes Go.ChangeAt Go.RowKit
set_option linter.all false
set_option maxRecDepth 100000
theorem ints_len {κ : Nat → Nat → Option Value} {γ : Nat → Nat} {sv : Nat → Value} {W : World} {base : Nat} {v : Value} {l : List Int} (hv : Value.okWide Tryd.prog W .any base 31 v) (h : Rep κ γ sv (slOf 1 encI l) v) : l.length ≤ 9223372036854775807 := by
  unfold slOf at h
  generalize hn : l.length = n at h
  cases h with
  | sl0 => omega
  | slE => omega
  | sl _ _ _ b off cap u hc =>
    simp only [Value.okWide, Cell.okWide, Cell.ok, Tryd.underlying31] at hv
    have h1 := hv.2.1
    have h2 : IntKind.i64.max = 9223372036854775807 := by decide
    rw [h2] at h1
    omega
section
variable {H : Type} {enc : TypeId × Value → H} {W : World}
end
end Go.Proofs.YtafnhieaeejlcaaDoor

