/- Walks by computing: what each function of the program that the laws reach gives for what it gets, as plain Lean, and that it is so; without a condition but those that stand in each theorem. -/
import Derived.Test.YtafnhieaeejlcaaDoorCards
import Derived.Test.YtafnhieaeejlcaaDoorTie
import Derived.WalkKit
import Derived.ProofKit
import Derived.OpenShut
import Derived.Deep.Slices
import Derived.Deep.DeepHandedRow
import Derived.Lib.LaidTab
import Derived.Test.YtafnhieaeejlcaaDoorW1
import Derived.Test.YtafnhieaeejlcaaDoorW2
import Derived.Test.YtafnhieaeejlcaaDoorW3
import Derived.Test.YtafnhieaeejlcaaDoorW4
import Derived.Test.YtafnhieaeejlcaaDoorW5
import Derived.Test.YtafnhieaeejlcaaDoorW6
import Derived.Test.YtafnhieaeejlcaaDoorW7
set_option linter.all false
/- Made convoys are valid; those that are accepted have no meeting. -/
namespace Go.Proofs.Plain04
open Go Go.Ab
open Go.Proofs.YtafnhieaeejlcaaDoor (alongI HSort chkConvoy chkTruck chkTrucks chkHolds chkHolds_cons meetingP along_le)
set_option linter.all false
theorem chkHolds_zero {way len : Int} : ∀ {hs : List Go.Proofs.YtafnhieaeejlcaaDoor.Hold} {p : Option Int}, (∀ h ∈ hs, 1 ≤ h.a ∧ h.a ≤ len - 1 ∧ 0 ≤ h.u ∧ h.u ≤ 10000) → HSort way len hs → (∀ q, p = some q → ∀ h ∈ hs, q < alongI way len h.a) → chkHolds way len p hs = 0
  | [], _, _, _, _ => rfl
  | h :: hs, p, h1, h2, h3 => by
    obtain ⟨h4, h5⟩ := List.pairwise_cons.1 h2
    have b := h1 h (List.mem_cons_self ..)
    have rest := chkHolds_zero (p := some (alongI way len h.a)) (fun x hx => h1 x (List.mem_cons_of_mem _ hx)) h5 (fun q hq x hx => by cases hq; exact h4 x hx)
    rw [chkHolds_cons, if_neg (by omega)]
    cases p with
    | none => exact rest
    | some q =>
      have := h3 q rfl h (List.mem_cons_self ..)
      simp only
      rw [if_neg (by omega)]; exact rest
/-- A made truck. -/
structure TMade (len : Int) (n : Int) (t : Truck) : Prop where
  way : t.Way = 1 ∨ t.Way = 2
  s1 : 0 ≤ t.Start
  s2 : t.Start ≤ 199
  p1 : 5 ≤ t.Pace.Lo
  p2 : t.Pace.Lo ≤ t.Pace.Hi
  p3 : t.Pace.Hi ≤ 32
  n : (t.Holds.length : Int) ≤ n
  h : ∀ h ∈ t.Holds.map oH, 1 ≤ h.a ∧ h.a ≤ len - 1 ∧ 0 ≤ h.u ∧ h.u ≤ 149
  so : HSort t.Way len (t.Holds.map oH)
theorem hsort_snoc {way len : Int} {hs : List Go.Proofs.YtafnhieaeejlcaaDoor.Hold} {h : Go.Proofs.YtafnhieaeejlcaaDoor.Hold} (h1 : HSort way len hs) (h2 : ∀ x ∈ hs, alongI way len x.a < alongI way len h.a) : HSort way len (hs ++ [h]) := by
  refine List.pairwise_append.2 ⟨h1, List.pairwise_singleton _ _, fun a ha b hb => ?_⟩
  obtain rfl := List.mem_singleton.1 hb
  exact h2 a ha
theorem TruckOf_made (s : Seed) {length holds : Int} (h1 : 1 ≤ length) (h2 : length ≤ 1000000) (h3 : 0 ≤ holds) (h4 : holds ≤ 100) : Ok (fun r => TMade length holds r.2) (TruckOf s length holds) := by
  rw [TruckOf_eq]
  refine Ok.bind (From_ok s (by omega) (by omega) (by omega) (by omega)) fun r hr => ?_
  refine Ok.bind (Below_ok _ (by omega)) fun r2 hr2 => ?_
  refine Ok.bind (Below_ok _ (by omega)) fun r3 hr3 => ?_
  refine Ok.bind (Of_ok _ (by simp) (by simp)) fun r4 hr4 => ?_
  refine Ok.bind (From_ok _ (by omega) (by omega) (by omega) (by omega)) fun r5 hr5 => ?_
  refine Ok.bind (Below_ok _ (by omega)) fun r6 hr6 => ?_
  refine Ok.bind (Of_ok _ (by simp) (by simp)) fun r7 hr7 => ?_
  refine Ok.bind (Below_ok _ (by rw [w64_id (by omega) (by omega)]; omega)) fun r8 hr8 => ?_
  rw [w64_id (n := holds + 1) (by omega) (by omega)] at hr8
  have hst : 0 ≤ r4.2 ∧ r4.2 ≤ 199 := by
    simp only [List.mem_cons, List.not_mem_nil, or_false] at hr4
    omega
  have hph : 0 ≤ r7.2 ∧ r7.2 ≤ 7 := by
    simp only [List.mem_cons, List.not_mem_nil, or_false] at hr7
    omega
  have eh : w64 (r5.2 + r7.2) = r5.2 + r7.2 := w64_id (by omega) (by omega)
  refine Ok.rounds (fun v => 0 ≤ v.1.2.2.2.2.1 ∧ v.1.2.2.2.2.1 ≤ holds ∧ (v.2.2.1.2.2.2.2.1.length : Int) + v.1.2.2.2.2.1 ≤ holds ∧ 0 ≤ v.1.2.2.2.1 ∧ v.1.2.2.2.1 ≤ 1000000 ∧
      TMade length (v.2.2.1.2.2.2.2.1.length : Int) ⟨v.2.2.1.1, v.2.2.1.2.1, ⟨v.2.2.1.2.2.1, v.2.2.1.2.2.2.1⟩, v.2.2.1.2.2.2.2.1⟩ ∧ ∀ x ∈ v.2.2.1.2.2.2.2.1.map oH, alongI v.2.2.1.1 length x.a ≤ v.1.2.2.2.1) (fun v => v.1.2.2.2.2.1.toNat) ?_ ?_ ?_
  · show r8.2.toNat < 18446744073709551616
    omega
  · simp only [eh]
    refine ⟨by omega, by omega, by simp; omega, by omega, by omega, ⟨by simp only; omega, hst.1, hst.2, by simp only; omega, by simp only; omega, by simp only; omega, by simp, fun h hh => by simp at hh, List.Pairwise.nil⟩, fun x hx => by simp at hx⟩
  · rintro ⟨⟨_, _, _, at_, i, _⟩, ⟨w, _⟩, ⟨way, st, lo, hi, hs, _⟩, _⟩ kn ⟨i1, i2, i3, i4, i5, i6, i7⟩ hk
    simp only at i1 i2 i3 i4 i5 i6 i7 ⊢
    have i6' : TMade length holds ⟨way, st, ⟨lo, hi⟩, hs⟩ := ⟨i6.way, i6.s1, i6.s2, i6.p1, i6.p2, i6.p3, by show (hs.length : Int) ≤ holds; omega, i6.h, i6.so⟩
    refine Ok.ite (fun hc => Ok.ite (fun hc2 => ?_) fun _ => Ok.some i6') fun _ => Ok.some i6'
    simp only [decide_eq_true_eq] at hc hc2
    have e1 : w64 (at_ + 1) = at_ + 1 := w64_id (by omega) (by omega)
    have e2 : w64 (length - 1) = length - 1 := w64_id (by omega) (by omega)
    rw [e2] at hc2
    refine Ok.bind (From_ok _ (low := w64 (at_ + 1)) (high := w64 (length - 1)) (by omega) (by omega) (by omega) (by omega)) fun r9 hr9 => ?_
    rw [e1, e2] at hr9
    refine Ok.bind (Below_ok _ (by omega)) fun r10 hr10 => ?_
    have hi1 : w64 (i - 1) = i - 1 := w64_id (by omega) (by omega)
    have hi2 : w64 (length - r9.2) = length - r9.2 := w64_id (by omega) (by omega)
    have fin : ∀ A : Int, 1 ≤ A → A ≤ length - 1 → alongI way length A = r9.2 → Ok (fun r => TMade length holds r.2) (kn (((), (), (), r9.2, w64 (i - 1), ()), ((r10.1.word, ()), (way, st, lo, hi, hs ++ [⟨A, r10.2⟩], ()), ()))) := fun A a1 a2 a3 => by
      refine hk _ ?_ ?_
      · simp only [hi1]
        refine ⟨by omega, by omega, by simp; omega, by omega, by omega, ⟨i6.way, i6.s1, i6.s2, i6.p1, i6.p2, i6.p3, Int.le_refl _, ?_, ?_⟩, ?_⟩
        · simp only [List.map_append, List.map_cons, List.map_nil]
          intro h hh
          rcases List.mem_append.1 hh with hh | hh
          · exact i6.h h hh
          · obtain rfl := List.mem_singleton.1 hh
            simp only [oH]; omega
        · simp only [List.map_append, List.map_cons, List.map_nil]
          exact hsort_snoc i6.so fun x hx => by
            have := i7 x hx
            show alongI way length x.a < alongI way length (oH ⟨A, r10.2⟩).a
            simp only [oH]; omega
        · simp only [List.map_append, List.map_cons, List.map_nil]
          intro x hx
          rcases List.mem_append.1 hx with hx | hx
          · have := i7 x hx; omega
          · obtain rfl := List.mem_singleton.1 hx
            simp only [oH]; omega
      · simp only [hi1]; omega
    refine Ok.ite (fun hw => ?_) fun hw => ?_
    · refine Ok.chk (fitA_ok (by simp; omega) (by omega)) ?_
      rw [hi2]
      refine fin _ (by omega) (by omega) ?_
      have : way = 2 := by simpa using hw
      unfold alongI; rw [if_pos this]; omega
    · refine Ok.chk (fitA_ok (by simp; omega) (by omega)) (fin _ (by omega) (by omega) ?_)
      have : ¬ way = 2 := by simpa using hw
      unfold alongI; rw [if_neg this]
/-- A made convoy. -/
structure CMade (most : Int) (c : Convoy) : Prop where
  l1 : 20 ≤ c.Length
  l2 : c.Length ≤ 400
  g1 : 1 ≤ c.Gap
  g2 : c.Gap ≤ 100
  f1 : 0 ≤ c.Fails
  f2 : c.Fails ≤ 2
  n : (c.Trucks.length : Int) ≤ most
  t : ∀ t ∈ c.Trucks, TMade c.Length 3 t
  g : ∀ t ∈ c.Trucks, 2 * t.Pace.Hi ≤ c.Gap
abbrev OCv := Go.Proofs.YtafnhieaeejlcaaDoor.Convoy
theorem chkTruck_zero {c : OCv} {t : OTr} (w1 : 1 ≤ t.way) (w2 : t.way ≤ 2) (s1 : 0 ≤ t.start) (s2 : t.start ≤ 10000) (p1 : 1 ≤ t.lo) (p2 : t.lo ≤ t.hi) (p3 : t.hi ≤ 1000) (d : c.len ≤ 1000 * t.lo) (g : 2 * t.hi ≤ c.gap) (n : t.holds.length ≤ 8)
    (h : chkHolds t.way c.len none t.holds = 0) : chkTruck c t = 0 := by
  unfold chkTruck
  rw [if_neg (by omega), if_neg (by omega), if_neg (by omega), if_neg (by omega), if_neg (by omega), if_neg (by omega)]; exact h
theorem chk_truck {c : Convoy} {t : Truck} {n : Int} (h : TMade c.Length n t) (hn : n ≤ 8) (l2 : c.Length ≤ 1000) (g : 2 * t.Pace.Hi ≤ c.Gap) : chkTruck (oC c) (oT t) = 0 := by
  obtain ⟨w, s1, s2, p1, p2, p3, n1, h1, so⟩ := h
  refine chkTruck_zero ?_ ?_ s1 ?_ ?_ p2 ?_ ?_ g ?_ (chkHolds_zero (fun x hx => ?_) so (fun q hq => by cases hq))
  · show 1 ≤ t.Way; omega
  · show t.Way ≤ 2; omega
  · show t.Start ≤ 10000; omega
  · show 1 ≤ t.Pace.Lo; omega
  · show t.Pace.Hi ≤ 1000; omega
  · show c.Length ≤ 1000 * t.Pace.Lo; omega
  · show (t.Holds.map oH).length ≤ 8; rw [List.length_map]; omega
  · have := h1 x hx
    show 1 ≤ x.a ∧ x.a ≤ c.Length - 1 ∧ 0 ≤ x.u ∧ x.u ≤ 10000
    omega
theorem chkTrucks_zero {c : Go.Proofs.YtafnhieaeejlcaaDoor.Convoy} : ∀ {ts : List OTr}, (∀ t ∈ ts, chkTruck c t = 0) → chkTrucks c ts = 0
  | [], _ => rfl
  | t :: ts, h => by
    have a := h t (List.mem_cons_self ..)
    unfold chkTrucks
    rw [if_neg (fun hh => hh a)]
    exact chkTrucks_zero fun x hx => h x (List.mem_cons_of_mem _ hx)
theorem chkConvoy_zero {c : OCv} (l1 : 1 ≤ c.len) (l2 : c.len ≤ 100000) (g1 : 1 ≤ c.gap) (g2 : c.gap ≤ 100000) (f1 : 0 ≤ c.fails) (f2 : c.fails ≤ 20) (n : c.trucks.length ≤ 20) (h : ∀ t ∈ c.trucks, chkTruck c t = 0) : chkConvoy c = 0 := by
  unfold chkConvoy
  rw [if_neg (by omega), if_neg (by omega)]
  exact chkTrucks_zero h
theorem made_valid {most : Int} {c : Convoy} (h : CMade most c) (hm : most ≤ 20) : chkConvoy (oC c) = 0 := by
  obtain ⟨l1, l2, g1, g2, f1, f2, n, t, g⟩ := h
  refine chkConvoy_zero (by show 1 ≤ c.Length; omega) (by show c.Length ≤ 100000; omega) g1 (by show c.Gap ≤ 100000; omega) f1 (by show c.Fails ≤ 20; omega) (by show (c.Trucks.map oT).length ≤ 20; rw [List.length_map]; omega) fun x hx => ?_
  obtain ⟨y, hy, rfl⟩ := List.mem_map.1 hx
  exact chk_truck (c := c) (t y hy) (by omega) (by omega) (g y hy)
theorem wide_made (s : Seed) {c : Convoy} {most : Int} (hm : most ≤ 1000) (l1 : 20 ≤ c.Length) (l2 : c.Length ≤ 400) (f1 : 0 ≤ c.Fails) (f2 : c.Fails ≤ 2) (n : (c.Trucks.length : Int) ≤ most) (ht : ∀ t ∈ c.Trucks, TMade c.Length 3 t) : Ok (fun r => CMade most r.2) (wide s c) := by
  rw [wide_eq]
  refine Ok.rounds (fun v => v.2.1.1 = c.Length ∧ v.2.1.2.2.1 = c.Fails ∧ v.2.1.2.2.2.1 = c.Trucks ∧ 0 ≤ v.1.2.2.2.1 ∧ v.1.2.2.2.1 ≤ c.Trucks.length ∧ 1 ≤ v.2.1.2.1 ∧ v.2.1.2.1 ≤ 64 ∧ ∀ j, j < v.1.2.2.2.1.toNat → 2 * (c.Trucks.getD j dfltTruck).Pace.Hi ≤ v.2.1.2.1) (fun v => ((c.Trucks.length : Int) - v.1.2.2.2.1).toNat) ?_ ?_ ?_
  · show ((c.Trucks.length : Int) - 0).toNat < 18446744073709551616
    omega
  · simp
  · rintro ⟨⟨_, _, _, i, _⟩, ⟨len, gap, fails, ts, _⟩, _⟩ kn hi' hk
    simp only at hi' ⊢
    obtain ⟨rfl, rfl, rfl, h1, h2, h3, h4, h5⟩ := hi'
    refine Ok.ite (fun hlt => ?_) fun hge => ?_
    · simp only [decide_eq_true_eq] at hlt
      have e : w64 (i + 1) = i + 1 := w64_id (by omega) (by omega)
      have hm := ht _ (getD_mem (d := dfltTruck) (show i.toNat < c.Trucks.length by omega))
      have e2 : w64 (2 * (c.Trucks.getD i.toNat dfltTruck).Pace.Hi) = 2 * (c.Trucks.getD i.toNat dfltTruck).Pace.Hi := by
        have := hm.p1; have := hm.p2; have := hm.p3
        exact w64_id (by omega) (by omega)
      refine Ok.chk (ib h1 hlt) (hk _ ?_ ?_)
      · simp only [e, e2]
        have := hm.p3
        refine ⟨trivial, trivial, trivial, by omega, by omega, by omega, by omega, fun j hj => ?_⟩
        by_cases hl : j < i.toNat
        · have := h5 j hl; omega
        · obtain rfl : j = i.toNat := by omega
          omega
      · simp only [e]; omega
    · simp only [decide_eq_false_iff_not] at hge
      refine Ok.bind (Below_ok _ (by omega)) fun r hr => Ok.bind (Of_ok _ (by simp) (by simp)) fun r2 hr2 => Ok.some ?_
      simp only [List.mem_cons, List.not_mem_nil, or_false] at hr2
      have e3 : w64 (gap + r2.2) = gap + r2.2 := w64_id (by omega) (by omega)
      rw [e3]
      refine ⟨l1, l2, by show 1 ≤ gap + r2.2; omega, by show gap + r2.2 ≤ 100; omega, f1, f2, n, ht, fun t htm => ?_⟩
      obtain ⟨k, hk2, rfl⟩ := List.mem_iff_getElem.1 htm
      have hk3 : k < c.Trucks.length := hk2
      have := h5 k (by omega)
      rw [List.getD_eq_getElem?_getD, List.getElem?_eq_getElem hk3] at this
      simp only [Option.getD_some] at this
      show 2 * (c.Trucks[k]).Pace.Hi ≤ gap + r2.2
      omega
theorem ConvoyOf_made (s : Seed) {most : Int} (h0 : 0 ≤ most) (h1 : most ≤ 20) : Ok (fun r => CMade most r.2) (ConvoyOf s most) := by
  rw [ConvoyOf_eq]
  refine Ok.bind (From_ok s (by omega) (by omega) (by omega) (by omega)) fun r hr => ?_
  refine Ok.bind (Below_ok _ (by omega)) fun r2 hr2 => ?_
  refine Ok.bind (Below_ok _ (by rw [w64_id (by omega) (by omega)]; omega)) fun r3 hr3 => ?_
  rw [w64_id (n := most + 1) (by omega) (by omega)] at hr3
  refine Ok.rounds (fun v => 0 ≤ v.1.2.2.2.1 ∧ v.1.2.2.2.1 ≤ most ∧ (v.2.2.1.2.2.2.1.length : Int) + v.1.2.2.2.1 ≤ most ∧ (∀ t ∈ v.2.2.1.2.2.2.1, TMade r.2 3 t) ∧ v.2.2.1.1 = r.2 ∧ v.2.2.1.2.2.1 = r2.2) (fun v => v.1.2.2.2.1.toNat) ?_ ?_ ?_
  · show r3.2.toNat < 18446744073709551616
    omega
  · simp; omega
  · rintro ⟨⟨_, _, _, i, _⟩, ⟨w, _⟩, ⟨len, gap, fails, ts, _⟩, _⟩ kn hi' hk
    simp only at hi' ⊢
    obtain ⟨a1, a2, a3, a4, rfl, rfl⟩ := hi'
    have e : w64 (i - 1) = i - 1 := w64_id (by omega) (by omega)
    refine Ok.ite (fun hlt => ?_) fun _ => ?_
    · simp only [decide_eq_true_eq] at hlt
      refine Ok.bind (TruckOf_made _ (length := r.2) (by omega) (by omega) (by omega) (by omega)) fun r4 hr4 => ?_
      refine Ok.chk (fitA_ok (by simp; omega) (by omega)) (hk _ ?_ ?_)
      · simp only [e, List.length_append, List.length_singleton]
        refine ⟨by omega, by omega, by push_cast; omega, fun t ht => ?_, trivial, trivial⟩
        rcases List.mem_append.1 ht with ht | ht
        · exact a4 t ht
        · simp only [List.mem_singleton] at ht; subst ht; exact hr4
      · simp [e]; omega
    · exact Ok.bind (wide_made _ (c := ⟨r.2, gap, r2.2, ts⟩) (most := most) (by omega) (by simp only; omega) (by simp only; omega) (by simp only; omega) (by simp only; omega) (by simp only; omega) a4) fun r5 hr5 => Ok.some hr5
end Go.Proofs.Plain04


/- Courses lie in what is said; meetings that are told can happen. -/
namespace Go.Proofs.Plain04
open Go Go.Ab
open Go.Proofs.YtafnhieaeejlcaaDoor (posR nextR stopR stopP hitR alongI freeT laneP laneB heldB roadP atP gone ROk CR chkConvoy cr_of loI hiI lane_lt loI_hiI loI_bnd hiI_bnd hiI_stop onL bI lane_mem road_mem atP_lohi meetingP)
set_option linter.all false
theorem Has_sp (x : Span) (n : Int) : Has x n = some (decide (x.Lo ≤ n ∧ n ≤ x.Hi)) := by
  rw [Has_eq]; unfold Has'
  by_cases h : x.Lo ≤ n
  · rw [bif_t (decide_eq_true h)]; simp [h]
  · rw [bif_f (decide_eq_false h)]; simp [h]
theorem OnLane_sp {c : Convoy} {t : Truck} (b : Bool) (h : ROk c.Length (oT (frN t b))) (g m : Int) : OnLane c t b g m = some (laneB (oT (frN t b)) c.Length g m) := by
  rw [OnLane_eq]; apply ok_eq
  cases b with
  | true => exact Ok.beq (Lane_sp (t := frN t true) h g m) (Ok.some rfl)
  | false => exact Ok.beq (Lane_sp (t := t) h g m) (Ok.some rfl)
theorem lane_is {t : OTr} {len m g : Int} (h : ROk len t) (h1 : loI t len m ≤ g) (h2 : g ≤ hiI t len m) : laneB t len g m = true ↔ onL t len m g := by
  by_cases hm : t.start ≤ m
  · have hs := hiI_stop h hm
    rw [lane_lt h hm (by omega)]
    simp only [decide_eq_true_eq]
    exact ⟨fun h3 => ⟨hm, h1, h2, h3⟩, fun h3 => h3.2.2.2⟩
  · have : laneB t len g m = false := by unfold laneB; rw [if_pos (.inl (by omega))]
    rw [this]
    constructor
    · intro h; cases h
    · intro h; exact absurd h.1 hm
theorem frN_way (t : Truck) (b : Bool) : (frN t b).Way = t.Way := by cases b <;> rfl
theorem where_ok {c : Convoy} (h : chkConvoy (oC c) = 0) {i : Int} (i0 : 0 ≤ i) (hi : i < c.Trucks.length) (b : Bool) {m : Int} (m0 : 0 ≤ m) (m1 : m ≤ 30000) :
    whereS c i b m = (nS (roadP (c.Trucks.getD i.toNat dfltTruck).Way c.Length ⟨loI (oT (frN (c.Trucks.getD i.toNat dfltTruck) b)) c.Length m, hiI (oT (frN (c.Trucks.getD i.toNat dfltTruck) b)) c.Length m⟩), (laneP (oT (frN (c.Trucks.getD i.toNat dfltTruck) b)) c.Length m).2, 0) := by
  unfold whereS
  rw [if_neg (fun hh => hh h), if_neg (fun hh => hh ⟨i0, by omega⟩), if_neg (fun hh => hh ⟨m0, m1⟩), atP_lohi (rokF h (by omega) b), frN_way]
theorem where_in {c : Convoy} (h : chkConvoy (oC c) = 0) {i : Nat} (hi : i < c.Trucks.length) (b : Bool) {m g : Int} (h1 : loI (oT (frN (c.Trucks.getD i dfltTruck) b)) c.Length m ≤ g) (h2 : g ≤ hiI (oT (frN (c.Trucks.getD i dfltTruck) b)) c.Length m) :
    (nS (roadP (c.Trucks.getD i dfltTruck).Way c.Length ⟨loI (oT (frN (c.Trucks.getD i dfltTruck) b)) c.Length m, hiI (oT (frN (c.Trucks.getD i dfltTruck) b)) c.Length m⟩)).Lo ≤ alongI (c.Trucks.getD i dfltTruck).Way c.Length g ∧
    alongI (c.Trucks.getD i dfltTruck).Way c.Length g ≤ (nS (roadP (c.Trucks.getD i dfltTruck).Way c.Length ⟨loI (oT (frN (c.Trucks.getD i dfltTruck) b)) c.Length m, hiI (oT (frN (c.Trucks.getD i dfltTruck) b)) c.Length m⟩)).Hi :=
  (road_mem (Int.le_trans h1 h2)).2 ⟨g, h1, h2, rfl⟩
end Go.Proofs.Plain04


/- A meeting that is told can happen. -/
namespace Go.Proofs.Plain04
open Go Go.Ab
open Go.Proofs.YtafnhieaeejlcaaDoor (posR nextR stopR stopP hitR alongI freeT laneP laneB heldB roadP atP gone ROk CR chkConvoy cr_of loI hiI lane_lt loI_hiI loI_bnd hiI_bnd hiI_stop onL bI lane_mem road_mem atP_lohi meetingP meeting_some near_vals nearC nearP lastP maxUp_bnd optM laneP_bnd)
set_option linter.all false
theorem shown_sp {c : Convoy} (h : chkConvoy (oC c) = 0) {i : Nat} (hi : i < c.Trucks.length) (b : Bool) {m : Int} {at_ : Int} (m0 : 0 ≤ m) (m1 : m ≤ 30000) (h2 : (laneP (oT (frN (c.Trucks.getD i dfltTruck) b)) c.Length m).2 ≠ 2)
    (h3 : (laneP (oT (frN (c.Trucks.getD i dfltTruck) b)) c.Length m).1.lo ≤ at_) (h4 : at_ ≤ (laneP (oT (frN (c.Trucks.getD i dfltTruck) b)) c.Length m).1.hi) : Ok (fun b => b = true) (shown c i b m at_) := by
  rw [shown_eq]
  have hr := rokF h hi b
  have hl := lens h
  obtain ⟨g, hg, ha⟩ := (lane_mem hr h2).1 ⟨h3, h4⟩
  have hg1 := hg.2.1
  have hg2 := hg.2.2.1
  have hbb := hiI_bnd (m := m) hr
  have hbl := loI_bnd (m := m) hr
  have hon : laneB (oT (frN (c.Trucks.getD i dfltTruck) b)) c.Length g m = true := (lane_is hr hg.2.1 hg.2.2.1).2 hg
  have ha' : at_ = alongI (c.Trucks.getD i dfltTruck).Way c.Length g := by rw [ha]; show alongI (frN _ b).Way _ _ = _; rw [frN_way]
  have ew := where_ok h (i := (i : Int)) (by omega) (by omega) b m0 m1
  simp only [Int.toNat_natCast] at ew
  have win := where_in h hi b hg.2.1 hg.2.2.1
  rw [← ha'] at win
  refine Ok.beq ((pWhere_sp _ _ _ _).trans (congrArg some ew)) (Ok.chk (ib (by omega) (by omega)) ?_)
  simp only [Int.toNat_natCast]
  by_cases hw : (c.Trucks.getD i dfltTruck).Way = 2
  · have ha2 : at_ = c.Length - g := by rw [ha']; unfold alongI; rw [if_pos hw]
    have e : w64 (c.Length - at_) = g := by
      rw [ha2, w64_id (n := c.Length - (c.Length - g)) (by omega) (by omega)]; omega
    refine Ok.yes (beq_iff_eq.2 hw) (Ok.yes rfl (Ok.yes (bne_iff_ne.2 h2) (Ok.beq (Has_sp _ _) (Ok.yes (decide_eq_true win) ?_))))
    rw [e]
    exact Ok.beq (OnLane_sp _ hr _ _) (Ok.some hon)
  · have e : at_ = g := by rw [ha']; unfold alongI; rw [if_neg hw]
    refine Ok.no (beq_eq_false_iff_ne.2 hw) (Ok.yes rfl (Ok.yes (bne_iff_ne.2 h2) (Ok.beq (Has_sp _ _) (Ok.yes (decide_eq_true win) ?_))))
    rw [e]
    exact Ok.beq (OnLane_sp _ hr _ _) (Ok.some hon)
theorem lastP_bnd {c : Convoy} (h : chkConvoy (oC c) = 0) : lastP (oC c) ≤ 21000 := by
  have := maxUp_bnd (cr_of h) (oC c).trucks.length (Nat.le_refl _)
  unfold lastP; omega
theorem shown_meet {c : Convoy} (h : chkConvoy (oC c) = 0) (r3 : Meeting × Int) {x : Go.Proofs.YtafnhieaeejlcaaDoor.Meeting} (hx : meetingP (oC c) = some x) (h3 : r3 = (nM x, 0)) :
    ∃ b1 b2 : Bool, r3.1.FirstFails = b1 ∧ r3.1.SecondFails = b2 ∧ r3.2 = 0 ∧ 0 ≤ r3.1.First ∧ r3.1.First < r3.1.Second ∧ r3.1.Second < c.Trucks.length ∧ bI b1 + bI b2 ≤ c.Fails ∧ -1000000 ≤ r3.1.At ∧ r3.1.At ≤ 1000000 ∧ -1000000 ≤ r3.1.Other ∧ r3.1.Other ≤ 1000000 ∧ r3.1.At - r3.1.Other < c.Gap ∧ r3.1.Other - r3.1.At < c.Gap ∧
    Ok (fun b => b = true) (shown c r3.1.First r3.1.FirstFails r3.1.Minute r3.1.At) ∧ Ok (fun b => b = true) (shown c r3.1.Second r3.1.SecondFails r3.1.Minute r3.1.Other) := by
  obtain ⟨m, i, k, b, hik, hk, hb, hn, rfl, hm⟩ := meeting_some hx
  subst h3
  have hk' : k < c.Trucks.length := by simpa [oC] using hk
  have hR := cr_of h
  have hlast := lastP_bnd h
  unfold nearC at hn ⊢
  rw [oC_getD, oC_getD, ← oT_frN, ← oT_frN] at hn ⊢
  have v := near_vals (len := c.Length) (gap := c.Gap) (rokF h (show i < c.Trucks.length by omega) b.1) (rokF h hk' b.2) hR.ok.g1 hn
  have lb1 := laneP_bnd (m := (m : Int)) (rokF h (show i < c.Trucks.length by omega) b.1)
  have lb2 := laneP_bnd (m := (m : Int)) (rokF h hk' b.2)
  have hl := lens h
  obtain ⟨v1, v2, v3, v4, v5, v6, v7, v8⟩ := v
  refine ⟨b.1, b.2, rfl, rfl, rfl, ?_, ?_, ?_, hb, ?_⟩
  · show (0 : Int) ≤ (i : Int); omega
  · show (i : Int) < (k : Int); omega
  · show (k : Int) < (c.Trucks.length : Int); omega
  have q : ∀ {a b y : Int}, a ≤ y → y ≤ b → 0 ≤ a → b ≤ 100000 → (-1000000 ≤ y ∧ y ≤ 1000000) := fun {a b y} h1 h2 h3 h4 => by omega
  have Q1 := q v3 v4 lb1.1 (by omega)
  have Q2 := q v5 v6 lb2.1 (by omega)
  exact ⟨Q1.1, Q1.2, Q2.1, Q2.2, v7, v8, shown_sp (m := (m : Int)) h (show i < c.Trucks.length by omega) b.1 (by omega) (by omega) v1 v3 v4, shown_sp (m := (m : Int)) h hk' b.2 (by omega) (by omega) v2 v5 v6⟩
theorem ConvoyShown_true {nums : List Int} (hn : nums.length ≤ 9223372036854775807) : ConvoyShown nums = some true := by
  rw [ConvoyShown_eq]; apply ok_eq
  refine Ok.bind (NewSeed_ok hn) fun r _ => ?_
  refine Ok.bind (ConvoyOf_made _ (by omega) (by omega)) fun r2 h2 => ?_
  have hv := made_valid h2 (by omega)
  refine Ok.bind (P := fun m => m = meetS r2.2) (by rw [pMeets_eq]; exact Ok.some rfl) fun r3 h3 => ?_
  have hawake : Ok (fun b => b = true) ((awake).bind fun r7 => some r7) := by rw [awake_eq]; exact Ok.bind (Ok.some (P := fun b => b = true) rfl) fun b hb => Ok.some hb
  cases hm : meetingP (oC r2.2) with
  | none =>
    refine Ok.yes ?_ hawake
    rw [h3]; unfold meetS; rw [hm, if_pos hv, if_pos hv]; rfl
  | some x =>
    have h3' : r3 = (nM x, 0) := by rw [h3]; unfold meetS; rw [hm, if_pos hv, if_pos hv]; rfl
    obtain ⟨b1, b2, f1, f2, e1, e2, e3, e4, e5, a1, a2, a3, a4, a5, a6, s1, s2⟩ := shown_meet hv r3 hm h3'
    have g1 : w64 (r3.1.At - r3.1.Other) = r3.1.At - r3.1.Other := w64_id (by omega) (by omega)
    have g2 : w64 (r3.1.Other - r3.1.At) = r3.1.Other - r3.1.At := w64_id (by omega) (by omega)
    have tail : ∀ N : Int, N ≤ r2.2.Fails → Ok (fun b => b = true) (bif (r3.2 != 0) then some false else bif (decide (r3.1.First < 0)) then some false else bif (decide (r3.1.Second ≤ r3.1.First)) then some false else bif (decide (r3.1.Second ≥ (r2.2.Trucks.length : Int))) then some false else
        bif (decide (N > r2.2.Fails)) then some false else bif (decide ((max (w64 (r3.1.At - r3.1.Other)) (w64 (r3.1.Other - r3.1.At))) ≥ r2.2.Gap)) then some false else
        (shown r2.2 r3.1.First r3.1.FirstFails r3.1.Minute r3.1.At).bind fun r5 => bif r5 then (shown r2.2 r3.1.Second r3.1.SecondFails r3.1.Minute r3.1.Other).bind fun r6 => bif r6 then (awake).bind fun r7 => some r7 else some false else some false) := fun N hN => by
      rw [g1, g2]
      refine Ok.no (by rw [e1]; rfl) (Ok.no (decide_eq_false (by omega)) (Ok.no (decide_eq_false (by omega)) (Ok.no (decide_eq_false (by omega)) (Ok.no (decide_eq_false (by omega)) (Ok.no (decide_eq_false (by omega)) ?_)))))
      exact Ok.bind s1 fun b hb => Ok.yes hb (Ok.bind s2 fun b hb => Ok.yes hb hawake)
    refine Ok.no (beq_eq_false_iff_ne.2 (by rw [e1]; decide)) ?_
    cases b1 <;> cases b2
    · refine Ok.no f1 (Ok.no f2 (tail 0 ?_)); simpa [bI] using e5
    · refine Ok.no f1 (Ok.yes f2 (tail (w64 (0 + 1)) ?_)); rw [w64_id (by omega) (by omega)]; simpa [bI] using e5
    · refine Ok.yes f1 (Ok.no f2 (tail (w64 (0 + 1)) ?_)); rw [w64_id (by omega) (by omega)]; simpa [bI] using e5
    · refine Ok.yes f1 (Ok.yes f2 (tail (w64 (w64 (0 + 1) + 1)) ?_)); rw [w64_id (n := 0 + 1) (by omega) (by omega), w64_id (by omega) (by omega)]; simpa [bI] using e5
end Go.Proofs.Plain04


/- How the arguments of a law are read as plain data of Lean, what the table of the four cases holds, and what a law that writes nothing older than itself leaves: its arguments read as they did. -/
namespace Go.Proofs.YtafnhieaeejlcaaDoor
open Go Go.Ab Go.ChangeShapes Go.WideShapes Go.ChangeAt Go.RowKit
set_option maxRecDepth 100000

/-- All that a world's memory holds. -/
def allK (w : World) : Nat → Nat → Option Value := fun b o => w.cell? ⟨b, o, none⟩
theorem allK_fits (w : World) : Fits (allK w) w := fun _ _ _ h => h

theorem cells3 : Tryd.prog.cellsOf 3 = 1 := by kernel_rfl
theorem cells102 : Tryd.prog.cellsOf 102 = 2 := by kernel_rfl
theorem cells103 : Tryd.prog.cellsOf 103 = 8 := by kernel_rfl

section
variable {H : Type} {enc : TypeId × Value → H} {W : World}

/-- Whatever reads as the type, stands for a datum of Lean. -/
def Rd {α : Type} (enc : TypeId × Value → H) (W : World) (t : TypeId) (ec : α → List D) : Prop :=
  ∀ n cs x, DataW.trod enc Tryd.prog W 0 (fun _ => true) true n t cs = some x → ∃ a : α, RepL (allK W) γ0 sv0 (ec a) cs

theorem fld {fs : Array Field} {xs : List (DataW H × List MemPlace)} {cs : List Value} {n : Nat}
    (hf : ∀ (i : Nat) (f : Field), fs[i]? = some f → DataW.trod enc Tryd.prog W 0 (fun _ => true) true n f.type ((cs.drop f.offset).take (Tryd.prog.cellsOf f.type)) = xs[i]?)
    (hl : xs.length = fs.size) (i : Nat) (f : Field) (hi : fs[i]? = some f) : ∃ y, DataW.trod enc Tryd.prog W 0 (fun _ => true) true n f.type ((cs.drop f.offset).take (Tryd.prog.cellsOf f.type)) = some y := by
  have h1 := (Array.getElem?_eq_some_iff.1 hi).1
  rw [← hl] at h1
  exact ⟨xs[i], by rw [hf i f hi]; exact List.getElem?_eq_getElem h1⟩

theorem rd_int : Rd enc W 3 encI := by
  intro n cs x h
  obtain ⟨a, rfl, _⟩ := DataW.trod_int Tryd.underlying3 h
  exact ⟨a, .cons _ _ _ _ (.int _ _) .nil⟩

theorem rd_slice {α : Type} [Inhabited α] {t e z : Nat} {ec : α → List D} (ht : Tryd.prog.underlying t = some (.slice e)) (hz : Tryd.prog.cellsOf e = z) (hz0 : 0 < z) (hl : ∀ a, (ec a).length = z)
    (hc : ∀ a, allCell (ec a) = true) (hr : Rd enc W e ec) : Rd enc W t (fun l : List α => [slOf z ec l]) := by
  intro n cs x h
  rcases Deep.open_slice ht h with ⟨rfl, rfl⟩ | ⟨a, len, cap, m, n', D, Pl, rfl, _, hlc, _, hm, rfl, hx⟩
  · exact ⟨[], .cons _ _ _ _ (.sl0 _ _) .nil⟩
  · simp only [if_true] at hm
    subst hm
    rw [hz] at hx
    rcases Nat.eq_zero_or_pos len with rfl | hpos
    · exact ⟨[], .cons _ _ _ _ (.slE _ _ _ _) .nil⟩
    · have hx' : ∀ i, i < len → ∃ p : α × List Value, W.cells? 0 (a.add (i * z)) z = some p.2 ∧ RepL (allK W) γ0 sv0 (ec p.1) p.2 := fun i hi => by
        obtain ⟨cs', h1, h2⟩ := hx i (by omega)
        obtain ⟨b, hb⟩ := hr _ _ _ h2
        exact ⟨(b, cs'), h1, hb⟩
      obtain ⟨F, hF⟩ := Deep.choose_lt hx'
      have hsp : a.spot = none := by
        obtain ⟨_, h1, h2⟩ := World.cells?_some (hF 0 hpos).1
        have h3 := h2 0 hz0
        rw [List.getElem?_eq_getElem (by omega)] at h3
        simpa [Addr.add] using World.cell?_spot h3
      obtain ⟨b, off, sp⟩ := a
      simp only at hsp
      subst hsp
      refine ⟨(List.range len).map (fun i => (F i).1), .cons _ _ _ _ ?_ .nil⟩
      have hlen : ((List.range len).map (fun i => (F i).1)).length = len := by simp
      have hg : ∀ i, i < len → ((List.range len).map (fun i => (F i).1)).getD i default = (F i).1 := fun i hi => by simp [List.getD, hi]
      unfold slOf
      rw [hlen]
      refine .sl z len _ b off m (fun i => (F i).2) hlc (fun i _ => hl _) (fun i _ => hc _) (fun i hi => by rw [hg i hi]; exact (hF i hi).2) (fun i j v hi hj => ?_)
      obtain ⟨_, h1, h2⟩ := World.cells?_some (hF i hi).1
      have hjl := (List.getElem?_eq_some_iff.1 hj).1
      have h3 := h2 j (by omega)
      rw [add_plain, add_plain, hj] at h3
      exact h3

/-- An argument that is a list of numbers. -/
theorem arg_ints {v : Value} {d : DataW H} {ps : List MemPlace} {base : Nat} (hv : Value.okWide Tryd.prog W .any base 31 v) (h : DataW.Trod enc Tryd.prog W 0 (fun _ => true) true 31 v d ps) :
    ∃ l : List Int, Rep (allK W) γ0 sv0 (slOf 1 encI l) v := by
  obtain ⟨n, hn⟩ := h
  obtain ⟨l, hl⟩ := rd_slice (ec := encI) Tryd.underlying31 cells3 (by decide) (fun _ => rfl) (fun _ => rfl) rd_int _ _ _ hn
  obtain ⟨a0, len, cap, rfl⟩ := okWide_slice Tryd.underlying31 hv
  cases hl with
  | cons _ _ _ _ k _ => exact ⟨l, k⟩
end

/-- What the row's list gives: the cells of the table. -/
theorem glob_of {W : World} (h : laidMetH Tryd.prog [("sastrugi/convoy.cases", Rows.laid_sastrugi_convoy_cases)] W) : GlobOk seat (allK W) := by
  have h' : laidMet Tryd.prog [("sastrugi/convoy.cases", Rows.laid_sastrugi_convoy_cases)] W := h
  obtain ⟨ps, ⟨g, t, cs, fuel, p, q, hg, ht, hvar, hd, _, _⟩, _⟩ := h'
  have hg0 : Tryd.prog.globalNamed "sastrugi/convoy.cases" = some 0 := by kernel_rfl
  have ht0 : (Tryd.prog.globals[0]?).map (·.type) = some 103 := by kernel_rfl
  obtain rfl := Option.some.inj (hg0.symm.trans hg)
  obtain rfl := Option.some.inj (ht0.symm.trans ht)
  obtain ⟨xs, m, rfl, hx, hlen, hxl, he⟩ := DataW.trod_array Tryd.underlying103 hd
  have hx1 := congrArg Prod.fst hx
  simp only [Rows.laid_sastrugi_convoy_cases, DataW.agg.injEq] at hx1
  rw [cells103] at hlen
  rw [cells102] at he
  have row : ∀ i a b, i < 4 → (xs.map (·.1))[i]? = some (.agg [.lit (.int .i64 a), .lit (.int .i64 b)]) → (cs.toList.drop (i * 2)).take 2 = [Value.int .i64 a, Value.int .i64 b] := fun i a b hi hi2 => by
    rw [List.getElem?_map] at hi2
    obtain ⟨y, hy, hy2⟩ := Option.map_eq_some_iff.1 hi2
    have h1 := he i hi
    rw [hy] at h1
    obtain ⟨d, p'⟩ := y
    simp only at hy2
    subst hy2
    exact Lib.cells_of_tab (zs := [a, b]) Tryd.underlying102 Tryd.underlying3 cells3 cells102 h1
  rw [← hx1] at row
  have r0 := row 0 0 0 (by decide) rfl
  have r1 := row 1 1 0 (by decide) rfl
  have r2 := row 2 0 1 (by decide) rfl
  have r3 := row 3 1 1 (by decide) rfl
  have hcell : ∀ j, W.cell? ⟨0, j, none⟩ = cs.toList[j]? := fun j => by rw [World.var?_cell hg hvar j]; simp
  generalize cs.toList = l at hlen r0 r1 r2 r3 hcell
  rcases l with _ | ⟨c0, _ | ⟨c1, _ | ⟨c2, _ | ⟨c3, _ | ⟨c4, _ | ⟨c5, _ | ⟨c6, _ | ⟨c7, _ | ⟨c8, l⟩⟩⟩⟩⟩⟩⟩⟩⟩ <;> simp at hlen
  simp at r0 r1 r2 r3
  obtain ⟨rfl, rfl⟩ := r0
  obtain ⟨rfl, rfl⟩ := r1
  obtain ⟨rfl, rfl⟩ := r2
  obtain ⟨rfl, rfl⟩ := r3
  intro g l hl
  show _
  have hl' : globs g = some l := hl
  unfold globs at hl'
  split at hl'
  · simp only [Option.some.injEq] at hl'
    subst hl'
    refine ⟨rfl, _, ?_, fun j v hj => by rw [show allK W 0 j = _ from hcell j]; exact hj⟩
    exact .cons _ _ _ _ (.int _ _) (.cons _ _ _ _ (.int _ _) (.cons _ _ _ _ (.int _ _) (.cons _ _ _ _ (.int _ _) (.cons _ _ _ _ (.int _ _) (.cons _ _ _ _ (.int _ _) (.cons _ _ _ _ (.int _ _) (.cons _ _ _ _ (.int _ _) .nil)))))))
  · cases hl'

theorem laidOut : laidOutB Tryd.prog = true := by kernel_rfl
theorem own : ownKnob Tryd.prog.godebug = none := by kernel_rfl

theorem trodAll_stays {H : Type} {enc : TypeId × Value → H} {W W' : World} {sp' : Nat → Bool} (hb : Below W.heap.size W W') : ∀ {ts : List TypeId} {vs : List Value} {ds : List (DataW H)} {ps : List MemPlace},
    (∀ t ∈ ts, Tryd.prog.readableRec t = true ∧ t < Tryd.prog.types.size) → DataW.TrodAll enc Tryd.prog W 0 (fun _ => true) true ts vs ds ps → (∀ p ∈ ps, p.block < W.heap.size) → (∀ p ∈ ps, sp' p.block = true) →
    DataW.TrodAll enc Tryd.prog W' 0 sp' true ts vs ds ps
  | [], [], [], _, _, h, _, _ => h
  | _ :: _, _ :: _, _ :: _, _, hT, ⟨p, q, h1, h2, e⟩, hlt, hs => ⟨p, q,
      WideElems.Trod_stays laidOut (hT _ (List.mem_cons_self ..)).1 (hT _ (List.mem_cons_self ..)).2 h1 (fun x hx => hb.same (hlt x (by rw [e]; exact List.mem_append_left _ hx))) (fun x hx => hs x (by rw [e]; exact List.mem_append_left _ hx)),
      trodAll_stays hb (fun t ht => hT t (List.mem_cons_of_mem _ ht)) h2 (fun x hx => hlt x (by rw [e]; exact List.mem_append_right _ hx)) (fun x hx => hs x (by rw [e]; exact List.mem_append_right _ hx)), e⟩

/-- A law that says yes and writes nothing older than itself. -/
theorem post_yes {H : Type} {enc : TypeId × Value → H} {f : Func} {s : ChangeSpec} {W W' : World} {args : Array Value} {ds gs : List (DataW H)} {before : List MemPlace}
    (hW : DataW.Whole enc Tryd.prog f.params.toList s.vars false W args.toList ds gs before) (hv : s.vars = []) (hb : Below W.heap.size W W')
    (hT : ∀ t ∈ f.params.toList, Tryd.prog.readableRec t = true ∧ t < Tryd.prog.types.size) (hrt : f.resultTypes = #[4])
    (hr : (s.fn H (ds ++ gs)).results = [.lit (.bool true)]) (ha : (s.fn H (ds ++ gs)).args = ds) (hvs : (s.fn H (ds ++ gs)).vars = []) :
    s.post enc Tryd.prog f false true false false W args (.bool true) W' := by
  have hlt := hW.lt
  have hW2 := hW
  obtain ⟨p, q, hA, hV, rfl, _, _⟩ := hW
  rw [hv] at hV
  obtain ⟨rfl, rfl⟩ := trodVars_none hV
  refine ⟨ds, [], p ++ [], [], p, [], hW2, ?_, ?_, ?_, hb.frame _, fun h => by cases h⟩
  · rw [hr, hrt]
    exact trodAll_mk1 (shut_bool Tryd.underlying4 _)
  · rw [ha]
    exact trodAll_stays hb hT hA (fun x hx => hlt x (by simpa using hx)) (fun x hx => by simpa using hlt x (by simpa using hx))
  · rw [hvs, hv]; rfl

/-- A world for the witness: the settled one, the table holding what its initialiser lays. -/
noncomputable def laidWorld (os : Os) : World :=
  { World.holding Tryd.prog os ⟨#[], #[], []⟩ with heap := (World.holding Tryd.prog os ⟨#[], #[], []⟩).heap.modify 0 fun
      | .cells _ t frozen => .cells #[.int .i64 0, .int .i64 0, .int .i64 1, .int .i64 0, .int .i64 0, .int .i64 1, .int .i64 1, .int .i64 1] t frozen
      | o => o }
end Go.Proofs.YtafnhieaeejlcaaDoor


/- Further readers of arguments; convoys of the two kinds of typed data. -/
namespace Go.Proofs.YtafnhieaeejlcaaDoor
open Go Go.Ab Go.ChangeShapes Go.WideShapes Go.ChangeAt Go.RowKit
set_option linter.all false
set_option maxRecDepth 100000
theorem ints_len {κ : Nat → Nat → Option Value} {γ : Nat → Nat} {sv : Nat → Value} {W : World} {base : Nat} {v : Value} {l : List Int} (hv : Value.okWide Tryd.prog W .any base 31 v) (h : Rep κ γ sv (slOf 1 encI l) v) : l.length ≤ 9223372036854775807 := by
  unfold slOf at h
  generalize hn : l.length = n at h
  cases h with
  | sl0 => omega
  | slE => omega
  | sl _ _ _ b off cap u hc =>
    simp only [Value.okWide, Cell.okWide, Cell.ok, Tryd.underlying31] at hv
    have h1 := hv.2.1
    have h2 : IntKind.i64.max = 9223372036854775807 := by decide
    rw [h2] at h1
    omega
section
variable {H : Type} {enc : TypeId × Value → H} {W : World}
end
end Go.Proofs.YtafnhieaeejlcaaDoor

