/- Walks by computing: what each function of the program that the laws reach gives for what it gets, as plain Lean, and that it is so; without a condition but those that stand in each theorem. -/
import Derived.Test.YtafnhieaeejlcaaDoorCards
import Derived.Test.YtafnhieaeejlcaaDoorTie
import Derived.WalkKit
import Derived.ProofKit
import Derived.OpenShut
import Derived.Deep.Slices
import Derived.Deep.DeepHandedRow
import Derived.Lib.LaidTab
import Derived.Test.YtafnhieaeejlcaaDoorW1
import Derived.Test.YtafnhieaeejlcaaDoorW2
import Derived.Test.YtafnhieaeejlcaaDoorW3
import Derived.Test.YtafnhieaeejlcaaDoorW4
import Derived.Test.YtafnhieaeejlcaaDoorW5
import Derived.Test.YtafnhieaeejlcaaDoorW6
import Derived.Test.YtafnhieaeejlcaaDoorW7
set_option linter.all false
/- Made convoys are valid; those that are accepted have no meeting. -/
namespace Go.Proofs.Plain04
open Go Go.Ab
open Go.Proofs.YtafnhieaeejlcaaDoor (alongI HSort chkConvoy chkTruck chkTrucks chkHolds chkHolds_cons meetingP along_le)
set_option linter.all false
/-- A made truck. -/
structure TMade (len : Int) (n : Int) (t : Truck) : Prop where
  way : t.Way = 1 ∨ t.Way = 2
  s1 : 0 ≤ t.Start
  s2 : t.Start ≤ 199
  p1 : 5 ≤ t.Pace.Lo
  p2 : t.Pace.Lo ≤ t.Pace.Hi
  p3 : t.Pace.Hi ≤ 32
  n : (t.Holds.length : Int) ≤ n
  h : ∀ h ∈ t.Holds.map oH, 1 ≤ h.a ∧ h.a ≤ len - 1 ∧ 0 ≤ h.u ∧ h.u ≤ 149
  so : HSort t.Way len (t.Holds.map oH)
/-- A made convoy. -/
structure CMade (most : Int) (c : Convoy) : Prop where
  l1 : 20 ≤ c.Length
  l2 : c.Length ≤ 400
  g1 : 1 ≤ c.Gap
  g2 : c.Gap ≤ 100
  f1 : 0 ≤ c.Fails
  f2 : c.Fails ≤ 2
  n : (c.Trucks.length : Int) ≤ most
  t : ∀ t ∈ c.Trucks, TMade c.Length 3 t
  g : ∀ t ∈ c.Trucks, 2 * t.Pace.Hi ≤ c.Gap
abbrev OCv := Go.Proofs.YtafnhieaeejlcaaDoor.Convoy
theorem chkTrucks_zero {c : Go.Proofs.YtafnhieaeejlcaaDoor.Convoy} : ∀ {ts : List OTr}, (∀ t ∈ ts, chkTruck c t = 0) → chkTrucks c ts = 0
  | [], _ => rfl
  | t :: ts, h => by
    have a := h t (List.mem_cons_self ..)
    unfold chkTrucks
    rw [if_neg (fun hh => hh a)]
    exact chkTrucks_zero fun x hx => h x (List.mem_cons_of_mem _ hx)
theorem chkConvoy_zero {c : OCv} (l1 : 1 ≤ c.len) (l2 : c.len ≤ 100000) (g1 : 1 ≤ c.gap) (g2 : c.gap ≤ 100000) (f1 : 0 ≤ c.fails) (f2 : c.fails ≤ 20) (n : c.trucks.length ≤ 20) (h : ∀ t ∈ c.trucks, chkTruck c t = 0) : chkConvoy c = 0 := by
  unfold chkConvoy
  rw [if_neg (by omega), if_neg (by omega)]
  exact chkTrucks_zero h
theorem chkHolds_ne7 {way len : Int} : ∀ {hs : List Go.Proofs.YtafnhieaeejlcaaDoor.Hold} {p : Option Int}, chkHolds way len p hs ≠ 7
  | [], _ => by unfold chkHolds; omega
  | h :: hs, p => by
    have ih := chkHolds_ne7 (way := way) (len := len) (hs := hs) (p := some (alongI way len h.a))
    rw [chkHolds_cons]
    split
    · omega
    · split
      · split
        · omega
        · exact ih
      · exact ih
theorem chkTruck_ne7 (c : Go.Proofs.YtafnhieaeejlcaaDoor.Convoy) (t : OTr) : chkTruck c t ≠ 7 := by
  unfold chkTruck
  split; · omega
  split; · omega
  split; · omega
  split; · omega
  split; · omega
  split; · omega
  exact chkHolds_ne7
theorem chkTrucks_ne7 (c : Go.Proofs.YtafnhieaeejlcaaDoor.Convoy) : ∀ ts : List OTr, chkTrucks c ts ≠ 7
  | [] => by unfold chkTrucks; omega
  | t :: ts => by
    unfold chkTrucks
    split
    · exact chkTruck_ne7 c t
    · exact chkTrucks_ne7 c ts
theorem chk_ne7 (c : Go.Proofs.YtafnhieaeejlcaaDoor.Convoy) : chkConvoy c ≠ 7 := by
  unfold chkConvoy
  split; · omega
  split; · omega
  exact chkTrucks_ne7 c _
/-- A convoy that is accepted. -/
def Acc (c : Convoy) : Prop := chkConvoy (oC c) = 0 ∧ meetingP (oC c) = none
theorem meetS_seven {c : Convoy} (h : (meetS c).2 = 7) : Acc c := by
  unfold meetS at h
  simp only at h
  by_cases h0 : chkConvoy (oC c) = 0
  · refine ⟨h0, ?_⟩
    rw [if_pos h0] at h
    cases hm : meetingP (oC c) with
    | none => rfl
    | some x => rw [hm] at h; simp at h
  · rw [if_neg h0] at h
    exact absurd h (chk_ne7 _)
end Go.Proofs.Plain04


/- Courses lie in what is said; meetings that are told can happen. -/
namespace Go.Proofs.Plain04
open Go Go.Ab
open Go.Proofs.YtafnhieaeejlcaaDoor (posR nextR stopR stopP hitR alongI freeT laneP laneB heldB roadP atP gone ROk CR chkConvoy cr_of loI hiI lane_lt loI_hiI loI_bnd hiI_bnd hiI_stop onL bI lane_two lane_mem road_mem atP_lohi meetingP)
set_option linter.all false
theorem OnRoad_sp (c : Convoy) (t : Truck) {g : Int} (h1 : 0 ≤ c.Length) (h2 : c.Length ≤ 1000000) (h3 : -1000000 ≤ g) (h4 : g ≤ 1000000) : OnRoad c t g = some (alongI t.Way c.Length g) := by
  rw [OnRoad_eq]; unfold OnRoad' alongI
  by_cases e : t.Way = 2
  · simp only [e, beq_self_eq_true, cond_true, if_true]; rw [w64_id (by omega) (by omega)]
  · rw [bif_f (by simpa using e), if_neg e]
theorem OnLane_sp {c : Convoy} {t : Truck} (b : Bool) (h : ROk c.Length (oT (frN t b))) (g m : Int) : OnLane c t b g m = some (laneB (oT (frN t b)) c.Length g m) := by
  rw [OnLane_eq]; apply ok_eq
  cases b with
  | true => exact Ok.beq (Lane_sp (t := frN t true) h g m) (Ok.some rfl)
  | false => exact Ok.beq (Lane_sp (t := t) h g m) (Ok.some rfl)
theorem lane_is {t : OTr} {len m g : Int} (h : ROk len t) (h1 : loI t len m ≤ g) (h2 : g ≤ hiI t len m) : laneB t len g m = true ↔ onL t len m g := by
  by_cases hm : t.start ≤ m
  · have hs := hiI_stop h hm
    rw [lane_lt h hm (by omega)]
    simp only [decide_eq_true_eq]
    exact ⟨fun h3 => ⟨hm, h1, h2, h3⟩, fun h3 => h3.2.2.2⟩
  · have : laneB t len g m = false := by unfold laneB; rw [if_pos (.inl (by omega))]
    rw [this]
    constructor
    · intro h; cases h
    · intro h; exact absurd h.1 hm
theorem frN_way (t : Truck) (b : Bool) : (frN t b).Way = t.Way := by cases b <;> rfl
theorem frN_pace (t : Truck) (b : Bool) : (frN t b).Pace = t.Pace := by cases b <;> rfl
end Go.Proofs.Plain04


/- What is accepted does not meet: no two trucks come too near, and none pass each other on the lane. -/
namespace Go.Proofs.Plain04
open Go Go.Ab
open Go.Proofs.YtafnhieaeejlcaaDoor (alongI laneB ROk CR chkConvoy cr_of loI hiI loI_bnd hiI_bnd onL bI meetingP meeting_none NearB Near chkTruck maxUp lastP)
set_option linter.all false
theorem meetS_acc {c : Convoy} (h : Acc c) : (meetS c).2 = 7 := by
  unfold meetS
  simp only [if_pos h.1, h.2]; rfl
theorem acc_empty {len gap fails : Int} (l1 : 1 ≤ len) (l2 : len ≤ 100000) (g1 : 1 ≤ gap) (g2 : gap ≤ 100000) (f1 : 0 ≤ fails) (f2 : fails ≤ 20) : Acc ⟨len, gap, fails, []⟩ := by
  have h := chkConvoy_zero (c := oC ⟨len, gap, fails, []⟩) l1 l2 g1 g2 f1 f2 (Nat.zero_le _) (fun t ht => by simp [oC] at ht)
  exact ⟨h, (meeting_none (cr_of h)).2 fun i k _ hk => by simp [oC] at hk⟩
theorem AcceptedOf_acc (s : Seed) {most : Int} (h0 : 0 ≤ most) (h1 : most ≤ 20) : Ok (fun r => Acc r.2 ∧ 60 ≤ r.2.Length ∧ r.2.Length ≤ 300 ∧ (r.2.Trucks.length : Int) ≤ most ∧ r.2.Gap = 70 ∧ r.2.Fails ≤ 2 ∧ ∀ t ∈ r.2.Trucks, t.Start ≤ 479) (AcceptedOf s most) := by
  rw [AcceptedOf_eq]
  refine Ok.bind (From_ok s (by omega) (by omega) (by omega) (by omega)) fun r hr => ?_
  refine Ok.bind (Below_ok _ (by omega)) fun r2 hr2 => ?_
  refine Ok.bind (Below_ok _ (by rw [w64_id (by omega) (by omega)]; omega)) fun r3 hr3 => ?_
  rw [w64_id (n := most + 1) (by omega) (by omega)] at hr3
  refine Ok.rounds (fun v => 0 ≤ v.1.2.2.2.1 ∧ v.1.2.2.2.1 ≤ most ∧ (v.2.2.1.2.2.2.1.length : Int) + v.1.2.2.2.1 ≤ most ∧ Acc ⟨v.2.2.1.1, v.2.2.1.2.1, v.2.2.1.2.2.1, v.2.2.1.2.2.2.1⟩ ∧ 60 ≤ v.2.2.1.1 ∧ v.2.2.1.1 ≤ 300 ∧ v.2.2.1.2.1 = 70 ∧ v.2.2.1.2.2.1 ≤ 2 ∧ ∀ t ∈ v.2.2.1.2.2.2.1, t.Start ≤ 479) (fun v => v.1.2.2.2.1.toNat) ?_ ?_ ?_
  · show r3.2.toNat < 18446744073709551616
    omega
  · simp only
    exact ⟨by omega, by omega, by simp; omega, acc_empty (by omega) (by omega) (by omega) (by omega) (by omega) (by omega), by omega, by omega, trivial, by omega, fun t ht => by cases ht⟩
  · rintro ⟨⟨_, _, _, i, _⟩, ⟨w, _⟩, ⟨len, gap, fails, ts, _⟩, _⟩ kn hi' hk
    simp only at hi' ⊢
    obtain ⟨a1, a2, a3, a4, a5, a6, rfl, a7, a8⟩ := hi'
    have e : w64 (i - 1) = i - 1 := w64_id (by omega) (by omega)
    refine Ok.ite (fun hlt => ?_) fun _ => Ok.some ⟨a4, a5, a6, by simp only; omega, rfl, a7, a8⟩
    simp only [decide_eq_true_eq] at hlt
    refine Ok.bind (TruckOf_ok _ (by omega) (by omega) (by omega) (by omega)) fun r4 hr4 => ?_
    refine Ok.bind (Yes_ok _ (by omega)) fun r5 _ => ?_
    refine Ok.ite (fun _ => ?_) fun _ => ?_
    all_goals
      refine Ok.rounds (fun v => 0 ≤ v.1.2.2.2.2.1 ∧ v.1.2.2.2.2.1 ≤ 12 ∧ v.2.2.1.1 = len ∧ v.2.2.1.2.1 = 70 ∧ v.2.2.1.2.2.1 = fails ∧ v.2.2.1.2.2.2.1 = ts) (fun v => (12 - v.1.2.2.2.2.1).toNat) ?_ ?_ ?_
      · show (12 - (0 : Int)).toNat < 18446744073709551616
        omega
      · simp
      · rintro ⟨⟨_, _, _, _, n, _⟩, ⟨w2, _⟩, ⟨len2, gap2, fails2, ts2, _⟩, ⟨way, st, lo, hi, hs, _⟩, _⟩ kn2 hi2 hk2
        simp only at hi2 ⊢
        obtain ⟨b1, b2, rfl, rfl, rfl, rfl⟩ := hi2
        have e2 : w64 (n + 1) = n + 1 := w64_id (by omega) (by omega)
        refine Ok.ite (fun hc => ?_) fun hc => hk _ ?_ ?_
        · simp only [decide_eq_true_eq] at hc
          have e3 : w64 (40 * (n + 1)) = 40 * (n + 1) := w64_id (by omega) (by omega)
          rw [e2, e3]
          refine Ok.bind (Below_ok _ (by omega)) fun r6 hr6 => ?_
          refine Ok.chk (fitA_ok (by simp; omega) (by omega)) (Ok.chk (fitA_ok (by simp; omega) (by omega)) ?_)
          refine Ok.bind (P := fun m => m = meetS _) (by rw [rMeets_eq]; exact Ok.some rfl) fun r7 h7 => ?_
          refine Ok.ite (fun h8 => hk _ ?_ ?_) fun _ => hk2 _ ?_ ?_
          · have hacc := meetS_seven (by rw [← h7]; exact beq_iff_eq.1 h8)
            simp only [e]
            refine ⟨by omega, by omega, by simp; omega, hacc, a5, a6, trivial, a7, fun t ht => ?_⟩
            simp only [List.nil_append] at ht
            rcases List.mem_append.1 ht with ht | ht
            · exact a8 t ht
            · simp only [List.mem_singleton] at ht; subst ht; simp only; omega
          · simp only [e]; omega
          · simp only; exact ⟨by omega, by omega, trivial, trivial, trivial, trivial⟩
          · simp only; omega
        · simp only [e]
          exact ⟨by omega, by omega, by omega, a4, a5, a6, trivial, a7, a8⟩
        · simp only [e]; omega
/-- In what is accepted, two trucks that are on the lane are not too near. -/
theorem acc_apart {c : Convoy} (h : Acc c) {i k : Nat} (hik : i < k) (hk : k < c.Trucks.length) {b1 b2 : Bool} (hb : bI b1 + bI b2 ≤ c.Fails) {m g h' : Int}
    (h1 : onL (oT (frN (c.Trucks.getD i dfltTruck) b1)) c.Length m g) (h2 : onL (oT (frN (c.Trucks.getD k dfltTruck) b2)) c.Length m h') :
    c.Gap ≤ alongI (c.Trucks.getD i dfltTruck).Way c.Length g - alongI (c.Trucks.getD k dfltTruck).Way c.Length h' ∨ c.Gap ≤ alongI (c.Trucks.getD k dfltTruck).Way c.Length h' - alongI (c.Trucks.getD i dfltTruck).Way c.Length g := by
  have hno := (meeting_none (cr_of h.1)).1 h.2 i k hik (by simpa [oC] using hk) (b1, b2) hb m
  unfold NearB at hno
  simp only at hno
  rw [oC_getD, oC_getD, ← oT_frN, ← oT_frN] at hno
  refine Classical.byContradiction fun hn => hno ⟨g, h', h1, h2, ?_, ?_⟩
  · show alongI (frN (c.Trucks.getD i dfltTruck) b1).Way c.Length g - alongI (frN (c.Trucks.getD k dfltTruck) b2).Way c.Length h' < c.Gap
    rw [frN_way, frN_way]; omega
  · show alongI (frN (c.Trucks.getD k dfltTruck) b2).Way c.Length h' - alongI (frN (c.Trucks.getD i dfltTruck) b1).Way c.Length g < c.Gap
    rw [frN_way, frN_way]; omega
theorem gap_pace {c : Convoy} (h : chkConvoy (oC c) = 0) {i : Nat} (hi : i < c.Trucks.length) : 2 * (c.Trucks.getD i dfltTruck).Pace.Hi ≤ c.Gap := by
  unfold Go.Proofs.YtafnhieaeejlcaaDoor.chkConvoy at h
  split at h; · cases h
  split at h; · cases h
  have ht := Go.Proofs.YtafnhieaeejlcaaDoor.chkTrucks_ok h (oT (c.Trucks.getD i dfltTruck)) (List.mem_map.2 ⟨_, getD_mem hi, rfl⟩)
  unfold Go.Proofs.YtafnhieaeejlcaaDoor.chkTruck at ht
  split at ht; · cases ht
  split at ht; · cases ht
  split at ht; · cases ht
  split at ht; · cases ht
  split at ht; · cases ht
  rename_i hg
  have : ¬ c.Gap < 2 * (c.Trucks.getD i dfltTruck).Pace.Hi := hg
  omega
theorem along_step {way len x y p : Int} (h1 : x ≤ y) (h2 : y ≤ x + p) : alongI way len y - alongI way len x ≤ p ∧ alongI way len x - alongI way len y ≤ p := by
  unfold alongI; split <;> omega
theorem ConvoyApart_true {nums : List Int} (hn : nums.length ≤ 9223372036854775807) : ConvoyApart nums = some true := by
  rw [ConvoyApart_eq]; apply ok_eq
  refine Ok.bind (NewSeed_ok hn) fun r _ => ?_
  refine Ok.bind (AcceptedOf_acc _ (by omega) (by omega)) fun r2 h2 => ?_
  obtain ⟨hacc, _, _, _, hgap, _, _⟩ := h2
  have hv := hacc.1
  refine Ok.bind (P := fun m => m = meetS r2.2) (by rw [pMeets_eq]; exact Ok.some rfl) fun r3 h3 => ?_
  refine Ok.no (bne_eq_false_iff_eq.2 (by rw [h3]; exact meetS_acc hacc)) ?_
  refine Ok.bind (drive_ok _ hv (last := 600) (by omega) (by omega)) fun r4 h4 => ?_
  obtain ⟨d1, d2, d3, d4⟩ := h4
  have hl := lens hv
  have hf := few hv
  refine Ok.rounds (fun v => 0 ≤ v.1.2.1 ∧ v.1.2.1 ≤ r2.2.Trucks.length) (fun v => ((r2.2.Trucks.length : Int) - v.1.2.1).toNat) ?_ ?_ ?_
  · show ((r2.2.Trucks.length : Int) - 0).toNat < 18446744073709551616
    omega
  · simp
  rintro ⟨⟨_, i, _⟩, _⟩ kn1 hi' hk1
  simp only at hi' ⊢
  have ei : w64 (i + 1) = i + 1 := w64_id (by omega) (by omega)
  refine Ok.ite (fun hlt => ?_) fun _ => by rw [awake_eq]; exact Ok.bind (Ok.some (P := fun b => b = true) rfl) fun b hb => Ok.some hb
  simp only [decide_eq_true_eq] at hlt
  obtain ⟨i, rfl⟩ : ∃ n : Nat, i = n := ⟨i.toNat, by omega⟩
  refine Ok.rounds (fun v => (i : Int) < v.1.2.1 ∧ v.1.2.1 ≤ r2.2.Trucks.length) (fun v => ((r2.2.Trucks.length : Int) - v.1.2.1).toNat) ?_ ?_ ?_
  · show ((r2.2.Trucks.length : Int) - w64 ((i : Int) + 1)).toNat < 18446744073709551616
    omega
  · simp only [ei]; omega
  rintro ⟨⟨_, k, _⟩, _⟩ kn2 hk' hk2
  simp only at hk' ⊢
  have ek : w64 (k + 1) = k + 1 := w64_id (by omega) (by omega)
  refine Ok.ite (fun hlt2 => ?_) fun _ => hk1 _ (by simp only [ei]; omega) (by simp only [ei]; omega)
  simp only [decide_eq_true_eq] at hlt2
  obtain ⟨k, rfl⟩ : ∃ n : Nat, k = n := ⟨k.toNat, by omega⟩
  have hi0 : i < r2.2.Trucks.length := by omega
  have hk0 : k < r2.2.Trucks.length := by omega
  have hik : i < k := by omega
  obtain ⟨c1, c2, c3⟩ := d4 i hi0
  obtain ⟨c4, c5, c6⟩ := d4 k hk0
  have hri := rokF hv hi0 (r4.2.2.getD i false)
  have hrk := rokF hv hk0 (r4.2.2.getD k false)
  have hb : bI (r4.2.2.getD i false) + bI (r4.2.2.getD k false) ≤ r2.2.Fails := by
    have := cntF_two (f := fun j => r4.2.2.getD j false) hik hk0
    exact Int.le_trans this d3
  have gp1 := gap_pace hv hi0
  have gp2 := gap_pace hv hk0
  have hp1 : (oT (frN (r2.2.Trucks.getD i dfltTruck) (r4.2.2.getD i false))).hi = (r2.2.Trucks.getD i dfltTruck).Pace.Hi := by show (frN _ _).Pace.Hi = _; rw [frN_pace]
  have hp2 : (oT (frN (r2.2.Trucks.getD k dfltTruck) (r4.2.2.getD k false))).hi = (r2.2.Trucks.getD k dfltTruck).Pace.Hi := by show (frN _ _).Pace.Hi = _; rw [frN_pace]
  rw [hp1] at c3
  rw [hp2] at c6
  have hq1 := hri.p1
  have hq2 := hri.p2
  have hq3 := hrk.p1
  have hq4 := hrk.p2
  rw [hp1] at hq2
  rw [hp2] at hq4
  -- the metres of the road
  refine Ok.rounds (fun v => 0 ≤ v.1.2.2.1 ∧ v.1.2.2.1 ≤ 601 ∧ (v.1.2.1 ≠ 0 → 1 ≤ v.1.2.2.1 ∧ v.1.2.1 = alongI (r2.2.Trucks.getD i dfltTruck).Way r2.2.Length ((r4.2.1.getD i []).getD (v.1.2.2.1.toNat - 1) 0) - alongI (r2.2.Trucks.getD k dfltTruck).Way r2.2.Length ((r4.2.1.getD k []).getD (v.1.2.2.1.toNat - 1) 0) ∧
      (r2.2.Gap ≤ v.1.2.1 ∨ r2.2.Gap ≤ - v.1.2.1))) (fun v => (601 - v.1.2.2.1).toNat) ?_ ?_ ?_
  · show (601 - (0 : Int)).toNat < 18446744073709551616
    omega
  · exact ⟨Int.le_refl _, by show (0 : Int) ≤ 601; omega, fun h => absurd rfl h⟩
  rintro ⟨⟨_, before, m, _⟩, _⟩ kn3 ⟨m0, m1, m2⟩ hk3
  simp only at m0 m1 m2 ⊢
  have em : w64 (m + 1) = m + 1 := w64_id (by omega) (by omega)
  refine Ok.ite (fun hlt3 => ?_) fun _ => hk2 _ (by simp only [ek]; omega) (by simp only [ek]; omega)
  simp only [decide_eq_true_eq] at hlt3
  obtain ⟨m, rfl⟩ : ∃ n : Nat, m = n := ⟨m.toNat, by omega⟩
  simp only [Int.toNat_natCast] at *
  have hm600 : m ≤ 600 := by omega
  have bi := c2 m (by omega)
  have bk := c5 m (by omega)
  have hbi := hiI_bnd (m := (m : Int)) hri
  have hli := loI_bnd (m := (m : Int)) hri
  have hbk := hiI_bnd (m := (m : Int)) hrk
  have hlk := loI_bnd (m := (m : Int)) hrk
  have lisi := lane_is hri bi.1 bi.2
  have lisk := lane_is hrk bk.1 bk.2
  have q1 : (decide (0 ≤ (i : Int)) && decide ((i : Int) < (r2.2.Trucks.length : Int))) = true := ib (by omega) (by omega)
  have q2 : (decide (0 ≤ (k : Int)) && decide ((k : Int) < (r2.2.Trucks.length : Int))) = true := ib (by omega) (by omega)
  have q3 : (decide (0 ≤ (i : Int)) && decide ((i : Int) < (r4.2.1.length : Int))) = true := ib (by omega) (by omega)
  have q4 : (decide (0 ≤ (k : Int)) && decide ((k : Int) < (r4.2.1.length : Int))) = true := ib (by omega) (by omega)
  have q5 : (decide (0 ≤ (m : Int)) && decide ((m : Int) < ((r4.2.1.getD i []).length : Int))) = true := ib (by omega) (by omega)
  have q6 : (decide (0 ≤ (m : Int)) && decide ((m : Int) < ((r4.2.1.getD k []).length : Int))) = true := ib (by omega) (by omega)
  have q7 : (decide (0 ≤ (i : Int)) && decide ((i : Int) < (r4.2.2.length : Int))) = true := ib (by omega) (by omega)
  have q8 : (decide (0 ≤ (k : Int)) && decide ((k : Int) < (r4.2.2.length : Int))) = true := ib (by omega) (by omega)
  -- from the minute before
  have stepi : before ≠ 0 → alongI (r2.2.Trucks.getD i dfltTruck).Way r2.2.Length ((r4.2.1.getD i []).getD m 0) - alongI (r2.2.Trucks.getD i dfltTruck).Way r2.2.Length ((r4.2.1.getD i []).getD (m - 1) 0) ≤ (r2.2.Trucks.getD i dfltTruck).Pace.Hi ∧ alongI (r2.2.Trucks.getD i dfltTruck).Way r2.2.Length ((r4.2.1.getD i []).getD (m - 1) 0) - alongI (r2.2.Trucks.getD i dfltTruck).Way r2.2.Length ((r4.2.1.getD i []).getD m 0) ≤ (r2.2.Trucks.getD i dfltTruck).Pace.Hi := fun hb0 => by
    have := (m2 hb0).1
    have s := c3 (m - 1) (by omega)
    rw [show m - 1 + 1 = m by omega] at s
    exact along_step s.1 s.2
  have stepk : before ≠ 0 → alongI (r2.2.Trucks.getD k dfltTruck).Way r2.2.Length ((r4.2.1.getD k []).getD m 0) - alongI (r2.2.Trucks.getD k dfltTruck).Way r2.2.Length ((r4.2.1.getD k []).getD (m - 1) 0) ≤ (r2.2.Trucks.getD k dfltTruck).Pace.Hi ∧ alongI (r2.2.Trucks.getD k dfltTruck).Way r2.2.Length ((r4.2.1.getD k []).getD (m - 1) 0) - alongI (r2.2.Trucks.getD k dfltTruck).Way r2.2.Length ((r4.2.1.getD k []).getD m 0) ≤ (r2.2.Trucks.getD k dfltTruck).Pace.Hi := fun hb0 => by
    have := (m2 hb0).1
    have s := c6 (m - 1) (by omega)
    rw [show m - 1 + 1 = m by omega] at s
    exact along_step s.1 s.2
  have abi := Go.Proofs.YtafnhieaeejlcaaDoor.along_bnd (way := (r2.2.Trucks.getD i dfltTruck).Way) (len := r2.2.Length) (x := (r4.2.1.getD i []).getD m 0) (by omega)
  have abk := Go.Proofs.YtafnhieaeejlcaaDoor.along_bnd (way := (r2.2.Trucks.getD k dfltTruck).Way) (len := r2.2.Length) (x := (r4.2.1.getD k []).getD m 0) (by omega)
  refine Ok.chk q1 (Ok.chk q3 (Ok.chk q5 (Ok.beq (OnRoad_sp _ _ (by omega) (by omega) (by omega) (by omega)) (Ok.chk q2 (Ok.chk q4 (Ok.chk q6 (Ok.beq (OnRoad_sp _ _ (by omega) (by omega) (by omega) (by omega)) (Ok.chk q1 (Ok.chk q7 (Ok.chk q3 (Ok.chk q5 (Ok.beq (OnLane_sp _ hri _ _) ?_))))))))))))
  have reset : Ok (fun b => b = true) (kn3 (((), 0, w64 ((m : Int) + 1), ()), ())) := hk3 _ (by simp only [em]; exact ⟨by omega, by omega, fun h => absurd rfl h⟩) (by simp only [em]; omega)
  refine Ok.ite (fun _ => reset) fun hoi => Ok.chk q2 (Ok.chk q8 (Ok.chk q4 (Ok.chk q6 (Ok.beq (OnLane_sp _ hrk _ _) (Ok.ite (fun _ => reset) fun hok => ?_)))))
  have oni := lisi.1 (by simpa using hoi)
  have onk := lisk.1 (by simpa using hok)
  have far := acc_apart hacc hik hk0 hb oni onk
  obtain ⟨p, hp⟩ : ∃ p, p = alongI (r2.2.Trucks.getD i dfltTruck).Way r2.2.Length ((r4.2.1.getD i []).getD m 0) := ⟨_, rfl⟩
  obtain ⟨q, hq⟩ : ∃ q, q = alongI (r2.2.Trucks.getD k dfltTruck).Way r2.2.Length ((r4.2.1.getD k []).getD m 0) := ⟨_, rfl⟩
  rw [← hp] at far stepi abi ⊢
  rw [← hq] at far stepk abk ⊢
  have ep : w64 (p - q) = p - q := w64_id (by omega) (by omega)
  have eq : w64 (q - p) = q - p := w64_id (by omega) (by omega)
  have e9 : ((m : Int) + 1).toNat - 1 = m := by omega
  have nxt : Ok (fun b => b = true) (kn3 (((), w64 (p - q), w64 ((m : Int) + 1), ()), ())) := by
    refine hk3 _ ?_ (by simp only [em]; omega)
    simp only [em, ep]
    refine ⟨by omega, by omega, fun _ => ⟨by omega, ?_, by omega⟩⟩
    rw [e9, ← hp, ← hq]
  have m3 : before ≠ 0 → _ := fun h => (m2 h).2
  have c1 : before < 0 → ¬ p > q := fun h0 hgt => by
    have a := stepi (by omega)
    have b := stepk (by omega)
    have d := m3 (by omega)
    omega
  have c2 : before > 0 → ¬ p < q := fun h0 hgt => by
    have a := stepi (by omega)
    have b := stepk (by omega)
    have d := m3 (by omega)
    omega
  rw [ep, eq]
  rw [ep] at nxt
  refine Ok.no (decide_eq_false (by omega)) (Ok.chk q1 (Ok.chk q2 (Ok.ite (fun _ => Ok.ite (fun hb1 => Ok.no (decide_eq_false (c1 (of_decide_eq_true hb1))) (Ok.ite (fun hb2 => Ok.no (decide_eq_false (c2 (of_decide_eq_true hb2))) nxt) fun _ => nxt)) fun hb1 => Ok.ite (fun hb2 => Ok.no (decide_eq_false (c2 (of_decide_eq_true hb2))) nxt) fun _ => nxt) fun _ => nxt)))
end Go.Proofs.Plain04


/- How the arguments of a law are read as plain data of Lean, what the table of the four cases holds, and what a law that writes nothing older than itself leaves: its arguments read as they did. -/
namespace Go.Proofs.YtafnhieaeejlcaaDoor
open Go Go.Ab Go.ChangeShapes Go.WideShapes Go.ChangeAt Go.RowKit
set_option maxRecDepth 100000

/-- All that a world's memory holds. -/
def allK (w : World) : Nat → Nat → Option Value := fun b o => w.cell? ⟨b, o, none⟩
theorem allK_fits (w : World) : Fits (allK w) w := fun _ _ _ h => h

theorem cells3 : Tryd.prog.cellsOf 3 = 1 := by kernel_rfl
theorem cells102 : Tryd.prog.cellsOf 102 = 2 := by kernel_rfl
theorem cells103 : Tryd.prog.cellsOf 103 = 8 := by kernel_rfl

section
variable {H : Type} {enc : TypeId × Value → H} {W : World}

/-- Whatever reads as the type, stands for a datum of Lean. -/
def Rd {α : Type} (enc : TypeId × Value → H) (W : World) (t : TypeId) (ec : α → List D) : Prop :=
  ∀ n cs x, DataW.trod enc Tryd.prog W 0 (fun _ => true) true n t cs = some x → ∃ a : α, RepL (allK W) γ0 sv0 (ec a) cs

theorem fld {fs : Array Field} {xs : List (DataW H × List MemPlace)} {cs : List Value} {n : Nat}
    (hf : ∀ (i : Nat) (f : Field), fs[i]? = some f → DataW.trod enc Tryd.prog W 0 (fun _ => true) true n f.type ((cs.drop f.offset).take (Tryd.prog.cellsOf f.type)) = xs[i]?)
    (hl : xs.length = fs.size) (i : Nat) (f : Field) (hi : fs[i]? = some f) : ∃ y, DataW.trod enc Tryd.prog W 0 (fun _ => true) true n f.type ((cs.drop f.offset).take (Tryd.prog.cellsOf f.type)) = some y := by
  have h1 := (Array.getElem?_eq_some_iff.1 hi).1
  rw [← hl] at h1
  exact ⟨xs[i], by rw [hf i f hi]; exact List.getElem?_eq_getElem h1⟩

theorem rd_int : Rd enc W 3 encI := by
  intro n cs x h
  obtain ⟨a, rfl, _⟩ := DataW.trod_int Tryd.underlying3 h
  exact ⟨a, .cons _ _ _ _ (.int _ _) .nil⟩

theorem rd_slice {α : Type} [Inhabited α] {t e z : Nat} {ec : α → List D} (ht : Tryd.prog.underlying t = some (.slice e)) (hz : Tryd.prog.cellsOf e = z) (hz0 : 0 < z) (hl : ∀ a, (ec a).length = z)
    (hc : ∀ a, allCell (ec a) = true) (hr : Rd enc W e ec) : Rd enc W t (fun l : List α => [slOf z ec l]) := by
  intro n cs x h
  rcases Deep.open_slice ht h with ⟨rfl, rfl⟩ | ⟨a, len, cap, m, n', D, Pl, rfl, _, hlc, _, hm, rfl, hx⟩
  · exact ⟨[], .cons _ _ _ _ (.sl0 _ _) .nil⟩
  · simp only [if_true] at hm
    subst hm
    rw [hz] at hx
    rcases Nat.eq_zero_or_pos len with rfl | hpos
    · exact ⟨[], .cons _ _ _ _ (.slE _ _ _ _) .nil⟩
    · have hx' : ∀ i, i < len → ∃ p : α × List Value, W.cells? 0 (a.add (i * z)) z = some p.2 ∧ RepL (allK W) γ0 sv0 (ec p.1) p.2 := fun i hi => by
        obtain ⟨cs', h1, h2⟩ := hx i (by omega)
        obtain ⟨b, hb⟩ := hr _ _ _ h2
        exact ⟨(b, cs'), h1, hb⟩
      obtain ⟨F, hF⟩ := Deep.choose_lt hx'
      have hsp : a.spot = none := by
        obtain ⟨_, h1, h2⟩ := World.cells?_some (hF 0 hpos).1
        have h3 := h2 0 hz0
        rw [List.getElem?_eq_getElem (by omega)] at h3
        simpa [Addr.add] using World.cell?_spot h3
      obtain ⟨b, off, sp⟩ := a
      simp only at hsp
      subst hsp
      refine ⟨(List.range len).map (fun i => (F i).1), .cons _ _ _ _ ?_ .nil⟩
      have hlen : ((List.range len).map (fun i => (F i).1)).length = len := by simp
      have hg : ∀ i, i < len → ((List.range len).map (fun i => (F i).1)).getD i default = (F i).1 := fun i hi => by simp [List.getD, hi]
      unfold slOf
      rw [hlen]
      refine .sl z len _ b off m (fun i => (F i).2) hlc (fun i _ => hl _) (fun i _ => hc _) (fun i hi => by rw [hg i hi]; exact (hF i hi).2) (fun i j v hi hj => ?_)
      obtain ⟨_, h1, h2⟩ := World.cells?_some (hF i hi).1
      have hjl := (List.getElem?_eq_some_iff.1 hj).1
      have h3 := h2 j (by omega)
      rw [add_plain, add_plain, hj] at h3
      exact h3

/-- An argument that is a list of numbers. -/
theorem arg_ints {v : Value} {d : DataW H} {ps : List MemPlace} {base : Nat} (hv : Value.okWide Tryd.prog W .any base 31 v) (h : DataW.Trod enc Tryd.prog W 0 (fun _ => true) true 31 v d ps) :
    ∃ l : List Int, Rep (allK W) γ0 sv0 (slOf 1 encI l) v := by
  obtain ⟨n, hn⟩ := h
  obtain ⟨l, hl⟩ := rd_slice (ec := encI) Tryd.underlying31 cells3 (by decide) (fun _ => rfl) (fun _ => rfl) rd_int _ _ _ hn
  obtain ⟨a0, len, cap, rfl⟩ := okWide_slice Tryd.underlying31 hv
  cases hl with
  | cons _ _ _ _ k _ => exact ⟨l, k⟩
end

/-- What the row's list gives: the cells of the table. -/
theorem glob_of {W : World} (h : laidMetH Tryd.prog [("sastrugi/convoy.cases", Rows.laid_sastrugi_convoy_cases)] W) : GlobOk seat (allK W) := by
  have h' : laidMet Tryd.prog [("sastrugi/convoy.cases", Rows.laid_sastrugi_convoy_cases)] W := h
  obtain ⟨ps, ⟨g, t, cs, fuel, p, q, hg, ht, hvar, hd, _, _⟩, _⟩ := h'
  have hg0 : Tryd.prog.globalNamed "sastrugi/convoy.cases" = some 0 := by kernel_rfl
  have ht0 : (Tryd.prog.globals[0]?).map (·.type) = some 103 := by kernel_rfl
  obtain rfl := Option.some.inj (hg0.symm.trans hg)
  obtain rfl := Option.some.inj (ht0.symm.trans ht)
  obtain ⟨xs, m, rfl, hx, hlen, hxl, he⟩ := DataW.trod_array Tryd.underlying103 hd
  have hx1 := congrArg Prod.fst hx
  simp only [Rows.laid_sastrugi_convoy_cases, DataW.agg.injEq] at hx1
  rw [cells103] at hlen
  rw [cells102] at he
  have row : ∀ i a b, i < 4 → (xs.map (·.1))[i]? = some (.agg [.lit (.int .i64 a), .lit (.int .i64 b)]) → (cs.toList.drop (i * 2)).take 2 = [Value.int .i64 a, Value.int .i64 b] := fun i a b hi hi2 => by
    rw [List.getElem?_map] at hi2
    obtain ⟨y, hy, hy2⟩ := Option.map_eq_some_iff.1 hi2
    have h1 := he i hi
    rw [hy] at h1
    obtain ⟨d, p'⟩ := y
    simp only at hy2
    subst hy2
    exact Lib.cells_of_tab (zs := [a, b]) Tryd.underlying102 Tryd.underlying3 cells3 cells102 h1
  rw [← hx1] at row
  have r0 := row 0 0 0 (by decide) rfl
  have r1 := row 1 1 0 (by decide) rfl
  have r2 := row 2 0 1 (by decide) rfl
  have r3 := row 3 1 1 (by decide) rfl
  have hcell : ∀ j, W.cell? ⟨0, j, none⟩ = cs.toList[j]? := fun j => by rw [World.var?_cell hg hvar j]; simp
  generalize cs.toList = l at hlen r0 r1 r2 r3 hcell
  rcases l with _ | ⟨c0, _ | ⟨c1, _ | ⟨c2, _ | ⟨c3, _ | ⟨c4, _ | ⟨c5, _ | ⟨c6, _ | ⟨c7, _ | ⟨c8, l⟩⟩⟩⟩⟩⟩⟩⟩⟩ <;> simp at hlen
  simp at r0 r1 r2 r3
  obtain ⟨rfl, rfl⟩ := r0
  obtain ⟨rfl, rfl⟩ := r1
  obtain ⟨rfl, rfl⟩ := r2
  obtain ⟨rfl, rfl⟩ := r3
  intro g l hl
  show _
  have hl' : globs g = some l := hl
  unfold globs at hl'
  split at hl'
  · simp only [Option.some.injEq] at hl'
    subst hl'
    refine ⟨rfl, _, ?_, fun j v hj => by rw [show allK W 0 j = _ from hcell j]; exact hj⟩
    exact .cons _ _ _ _ (.int _ _) (.cons _ _ _ _ (.int _ _) (.cons _ _ _ _ (.int _ _) (.cons _ _ _ _ (.int _ _) (.cons _ _ _ _ (.int _ _) (.cons _ _ _ _ (.int _ _) (.cons _ _ _ _ (.int _ _) (.cons _ _ _ _ (.int _ _) .nil)))))))
  · cases hl'

theorem laidOut : laidOutB Tryd.prog = true := by kernel_rfl
theorem own : ownKnob Tryd.prog.godebug = none := by kernel_rfl

theorem trodAll_stays {H : Type} {enc : TypeId × Value → H} {W W' : World} {sp' : Nat → Bool} (hb : Below W.heap.size W W') : ∀ {ts : List TypeId} {vs : List Value} {ds : List (DataW H)} {ps : List MemPlace},
    (∀ t ∈ ts, Tryd.prog.readableRec t = true ∧ t < Tryd.prog.types.size) → DataW.TrodAll enc Tryd.prog W 0 (fun _ => true) true ts vs ds ps → (∀ p ∈ ps, p.block < W.heap.size) → (∀ p ∈ ps, sp' p.block = true) →
    DataW.TrodAll enc Tryd.prog W' 0 sp' true ts vs ds ps
  | [], [], [], _, _, h, _, _ => h
  | _ :: _, _ :: _, _ :: _, _, hT, ⟨p, q, h1, h2, e⟩, hlt, hs => ⟨p, q,
      WideElems.Trod_stays laidOut (hT _ (List.mem_cons_self ..)).1 (hT _ (List.mem_cons_self ..)).2 h1 (fun x hx => hb.same (hlt x (by rw [e]; exact List.mem_append_left _ hx))) (fun x hx => hs x (by rw [e]; exact List.mem_append_left _ hx)),
      trodAll_stays hb (fun t ht => hT t (List.mem_cons_of_mem _ ht)) h2 (fun x hx => hlt x (by rw [e]; exact List.mem_append_right _ hx)) (fun x hx => hs x (by rw [e]; exact List.mem_append_right _ hx)), e⟩

/-- A law that says yes and writes nothing older than itself. -/
theorem post_yes {H : Type} {enc : TypeId × Value → H} {f : Func} {s : ChangeSpec} {W W' : World} {args : Array Value} {ds gs : List (DataW H)} {before : List MemPlace}
    (hW : DataW.Whole enc Tryd.prog f.params.toList s.vars false W args.toList ds gs before) (hv : s.vars = []) (hb : Below W.heap.size W W')
    (hT : ∀ t ∈ f.params.toList, Tryd.prog.readableRec t = true ∧ t < Tryd.prog.types.size) (hrt : f.resultTypes = #[4])
    (hr : (s.fn H (ds ++ gs)).results = [.lit (.bool true)]) (ha : (s.fn H (ds ++ gs)).args = ds) (hvs : (s.fn H (ds ++ gs)).vars = []) :
    s.post enc Tryd.prog f false true false false W args (.bool true) W' := by
  have hlt := hW.lt
  have hW2 := hW
  obtain ⟨p, q, hA, hV, rfl, _, _⟩ := hW
  rw [hv] at hV
  obtain ⟨rfl, rfl⟩ := trodVars_none hV
  refine ⟨ds, [], p ++ [], [], p, [], hW2, ?_, ?_, ?_, hb.frame _, fun h => by cases h⟩
  · rw [hr, hrt]
    exact trodAll_mk1 (shut_bool Tryd.underlying4 _)
  · rw [ha]
    exact trodAll_stays hb hT hA (fun x hx => hlt x (by simpa using hx)) (fun x hx => by simpa using hlt x (by simpa using hx))
  · rw [hvs, hv]; rfl

/-- A world for the witness: the settled one, the table holding what its initialiser lays. -/
noncomputable def laidWorld (os : Os) : World :=
  { World.holding Tryd.prog os ⟨#[], #[], []⟩ with heap := (World.holding Tryd.prog os ⟨#[], #[], []⟩).heap.modify 0 fun
      | .cells _ t frozen => .cells #[.int .i64 0, .int .i64 0, .int .i64 1, .int .i64 0, .int .i64 0, .int .i64 1, .int .i64 1, .int .i64 1] t frozen
      | o => o }
end Go.Proofs.YtafnhieaeejlcaaDoor


/- Further readers of arguments; convoys of the two kinds of typed data. -/
namespace Go.Proofs.YtafnhieaeejlcaaDoor
open Go Go.Ab Go.ChangeShapes Go.WideShapes Go.ChangeAt Go.RowKit
set_option linter.all false
set_option maxRecDepth 100000
theorem ints_len {κ : Nat → Nat → Option Value} {γ : Nat → Nat} {sv : Nat → Value} {W : World} {base : Nat} {v : Value} {l : List Int} (hv : Value.okWide Tryd.prog W .any base 31 v) (h : Rep κ γ sv (slOf 1 encI l) v) : l.length ≤ 9223372036854775807 := by
  unfold slOf at h
  generalize hn : l.length = n at h
  cases h with
  | sl0 => omega
  | slE => omega
  | sl _ _ _ b off cap u hc =>
    simp only [Value.okWide, Cell.okWide, Cell.ok, Tryd.underlying31] at hv
    have h1 := hv.2.1
    have h2 : IntKind.i64.max = 9223372036854775807 := by decide
    rw [h2] at h1
    omega
section
variable {H : Type} {enc : TypeId × Value → H} {W : World}
end
end Go.Proofs.YtafnhieaeejlcaaDoor

