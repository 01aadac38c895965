/- Walks by computing: what each function of the program that the laws reach gives for what it gets, as plain Lean, and that it is so; without a condition but those that stand in each theorem. -/
import Derived.Test.YtafnhieaeejlcaaDoorCards
import Derived.Test.YtafnhieaeejlcaaDoorTie
import Derived.WalkKit
import Derived.ProofKit
import Derived.OpenShut
import Derived.Deep.Slices
import Derived.Deep.DeepHandedRow
import Derived.Lib.LaidTab
import Derived.Test.YtafnhieaeejlcaaDoorW1
import Derived.Test.YtafnhieaeejlcaaDoorW2
import Derived.Test.YtafnhieaeejlcaaDoorW3
import Derived.Test.YtafnhieaeejlcaaDoorW4
import Derived.Test.YtafnhieaeejlcaaDoorW5
import Derived.Test.YtafnhieaeejlcaaDoorW6
import Derived.Test.YtafnhieaeejlcaaDoorW7
set_option linter.all false
/- Where trucks may be: the program and the reference say the same. -/
namespace Go.Proofs.Plain04
open Go Go.Ab
open Go.Proofs.YtafnhieaeejlcaaDoor (posR nextR stopR stopP hitR alongI freeT laneP laneB heldB wayR posW onlaneR roadR roadP atP gone ROk HOk HSort CR chkConvoy chkTruck chkHolds cr_of bigS atP_bnd way_bnds atP_lohi loI hiI wayR_eq lane_lt lane_off road_eq loI_hiI loI_bnd hiI_stop)
set_option linter.all false
theorem inp_sp (n a b : Int) : inp n a b = some (decide (a ≤ n ∧ n ≤ b)) := by
  rw [inp_eq]; unfold inp'
  by_cases h : a ≤ n
  · rw [bif_t (decide_eq_true h)]; simp [h]
  · rw [bif_f (decide_eq_false h)]; simp [h]
theorem within_sp (n a b : Int) : within n a b = some (decide (a ≤ n ∧ n ≤ b)) := by
  rw [within_eq]; unfold within'
  by_cases h : a ≤ n
  · rw [bif_t (decide_eq_true h)]; simp [h]
  · rw [bif_f (decide_eq_false h)]; simp [h]
theorem free_sp (t : Truck) (b : Bool) : free t b = some (frN t b) := by
  rw [free_eq]; unfold free'; cases b <;> rfl
theorem oC_getD (c : Convoy) (k : Nat) : (oC c).trucks.getD k default = oT (c.Trucks.getD k dfltTruck) := by
  show (c.Trucks.map oT).getD k (oT dfltTruck) = _
  rw [getD_map]
theorem rok_ {c : Convoy} (h : chkConvoy (oC c) = 0) {k : Nat} (hk : k < c.Trucks.length) : ROk c.Length (oT (c.Trucks.getD k dfltTruck)) := by
  have := (cr_of h).r k (by simpa [oC] using hk)
  rw [oC_getD] at this; exact this
theorem rokF {c : Convoy} (h : chkConvoy (oC c) = 0) {k : Nat} (hk : k < c.Trucks.length) (b : Bool) : ROk c.Length (oT (frN (c.Trucks.getD k dfltTruck) b)) := by
  rw [oT_frN]; exact (rok_ h hk).free b
theorem few {c : Convoy} (h : chkConvoy (oC c) = 0) : c.Trucks.length ≤ 20 := by
  have := (cr_of h).ok.n; simpa [oC] using this
theorem way_at {t : OTr} {len : Int} (h : ROk len t) (m : Nat) : wayR t len m = atP t len m := by
  rw [atP_lohi h, wayR_eq]; rfl
theorem lane_verdict {t : OTr} {len : Int} (h : ROk len t) (m : Nat) : (laneP t len m).2 = if (onlaneR t len (wayR t len m) m).2 = false then 2 else if wayR t len m = (onlaneR t len (wayR t len m) m).1 then 1 else 3 := by
  by_cases hm : (m : Int) < t.start
  · have : (onlaneR t len (wayR t len m) m).2 = false := by unfold onlaneR; simp; intro h; omega
    rw [if_pos this]; exact lane_off h this
  · obtain ⟨b1, b2, b3, b4⟩ := way_bnds h (m := m)
    have b4 := b4 (by omega)
    unfold onlaneR
    rw [lane_lt h (show t.start ≤ (m : Int) by omega) b4]
    unfold laneP
    rw [if_neg hm, ← way_at h]
    rw [decide_eq_true (show (m : Int) ≥ t.start by omega)]
    generalize wayR t len m = x at *
    by_cases e : x.hi < stopP t.way len m t.holds
    · rw [if_pos e]
      simp [e, b2]
    · rw [if_neg e]
      have e2 : x.hi = stopP t.way len m t.holds := by omega
      by_cases e3 : x.lo ≥ stopP t.way len m t.holds
      · rw [if_pos e3]; simp [e]; omega
      · rw [if_neg e3]
        have : ¬ (x = ⟨x.lo, x.hi - 1⟩) := fun hx => by have := congrArg (·.hi) hx; simp only at this; omega
        simp [e, this]; omega
theorem spanE (a b : Span) : (decide (a.Lo = b.Lo) && (decide (a.Hi = b.Hi) && true)) = decide (a = b) := by
  obtain ⟨x, y⟩ := a
  obtain ⟨z, w⟩ := b
  rw [Bool.eq_iff_iff]
  simp
theorem spanB (a b : OSp) : (decide ((nS a).Lo = (nS b).Lo) && (decide ((nS a).Hi = (nS b).Hi) && true)) = decide (a = b) := by
  obtain ⟨x, y⟩ := a
  obtain ⟨z, w⟩ := b
  rw [Bool.eq_iff_iff]
  simp [nS]
  exact ⟨fun h => ⟨of_decide_eq_true h.1, of_decide_eq_true h.2⟩, fun h => ⟨decide_eq_true h.1, decide_eq_true h.2⟩⟩
theorem rlane_sp {c : Convoy} {t : Truck} (h : ROk c.Length (oT t)) (m : Nat) : rlane c t (nS (wayR (oT t) c.Length m)) m = some (laneP (oT t) c.Length m).2 := by
  rw [rlane_eq]; apply ok_eq
  obtain ⟨b1, b2, b3, _⟩ := way_bnds h (m := m)
  have l2 := h.l2
  refine Ok.beq (onLane_sp h m (by simp only [nS]; omega) (by simp only [nS]; omega)) ?_
  rw [lane_verdict h]
  simp only [oS_nS]
  cases e : (onlaneR (oT t) c.Length (wayR (oT t) c.Length m) m).2 with
  | false => exact Ok.yes (by simp) (Ok.some (by simp))
  | true =>
    refine Ok.no (by simp) ?_
    by_cases e2 : wayR (oT t) c.Length m = (onlaneR (oT t) c.Length (wayR (oT t) c.Length m) m).1
    · exact Ok.yes ((spanB _ _).trans (decide_eq_true e2)) (Ok.some (by simp [← e2]))
    · exact Ok.no ((spanB _ _).trans (decide_eq_false e2)) (Ok.some (by simp [e2]))
end Go.Proofs.Plain04


/- Courses: how far a truck has gone in a course made of numbers lies between what the slowest and the fastest have gone; who fails. -/
namespace Go.Proofs.Plain04
open Go Go.Ab
open Go.Proofs.YtafnhieaeejlcaaDoor (posR nextR stopR stopP hitR alongI freeT laneP laneB heldB wayR posW onlaneR roadR roadP atP gone ROk HOk HSort CR chkConvoy chkTruck chkHolds cr_of bigS loI hiI lane_lt loI_hiI loI_bnd hiI_stop onL posR_next stop_eq posR_le stopP_bnd bI)
set_option linter.all false
theorem getD_set {α : Type} (l : List α) (i j : Nat) (x d : α) : (l.set i x).getD j d = if i = j ∧ j < l.length then x else l.getD j d := by
  simp only [List.getD_eq_getElem?_getD, List.getElem?_set]
  split
  · rename_i h; subst h
    split
    · rename_i h2; simp [h2]
    · rename_i h2; rw [if_neg (fun h => h2 h.2), List.getElem?_eq_none (by omega)]
  · rename_i h; rw [if_neg (fun hh => h hh.1)]
end Go.Proofs.Plain04


/- The law of the first meeting answers true. -/
namespace Go.Proofs.Plain04
open Go Go.Ab
open Go.Proofs.YtafnhieaeejlcaaDoor (bigS big_no)
set_option linter.all false
theorem AcceptedOf_ok (s : Seed) {most : Int} (h0 : 0 ≤ most) (h1 : most ≤ 100) : Ok (fun r => (r.2.Trucks.length : Int) ≤ most ∧ ∀ t ∈ r.2.Trucks, t.Holds.length ≤ 2) (AcceptedOf s most) := by
  rw [AcceptedOf_eq]
  refine Ok.bind (From_ok s (by omega) (by omega) (by omega) (by omega)) fun r hr => ?_
  refine Ok.bind (Below_ok _ (by omega)) fun r2 hr2 => ?_
  refine Ok.bind (Below_ok _ (by rw [w64_id (by omega) (by omega)]; omega)) fun r3 hr3 => ?_
  rw [w64_id (n := most + 1) (by omega) (by omega)] at hr3
  refine Ok.rounds (fun v => 0 ≤ v.1.2.2.2.1 ∧ v.1.2.2.2.1 ≤ most ∧ (v.2.2.1.2.2.2.1.length : Int) + v.1.2.2.2.1 ≤ most ∧ (∀ t ∈ v.2.2.1.2.2.2.1, t.Holds.length ≤ 2) ∧ 0 ≤ v.2.2.1.1 ∧ v.2.2.1.1 ≤ 1000000) (fun v => v.1.2.2.2.1.toNat) ?_ ?_ ?_
  · show r3.2.toNat < 18446744073709551616
    omega
  · simp; omega
  · rintro ⟨⟨_, _, _, i, _⟩, ⟨w, _⟩, ⟨len, gap, fails, ts, _⟩, _⟩ kn hi' hk
    simp only at hi'
    obtain ⟨a1, a2, a3, a4, a5, a6⟩ := hi'
    have e : w64 (i - 1) = i - 1 := w64_id (by omega) (by omega)
    refine Ok.ite (fun hlt => ?_) fun _ => Ok.some ⟨by simp only; omega, a4⟩
    simp only [decide_eq_true_eq] at hlt
    refine Ok.bind (TruckOf_ok _ a5 a6 (by omega) (by omega)) fun r4 hr4 => ?_
    refine Ok.bind (Yes_ok _ (by omega)) fun r5 _ => ?_
    refine Ok.ite (fun _ => ?_) fun _ => ?_
    all_goals
      refine Ok.rounds (fun v => 0 ≤ v.1.2.2.2.2.1 ∧ v.1.2.2.2.2.1 ≤ 12 ∧ v.2.2.1.1 = len ∧ v.2.2.1.2.2.2.1 = ts ∧ v.2.2.2.1.2.2.2.2.1.length ≤ 2) (fun v => (12 - v.1.2.2.2.2.1).toNat) ?_ ?_ ?_
      · show (12 - (0 : Int)).toNat < 18446744073709551616
        omega
      · simp; try omega
      · rintro ⟨⟨_, _, _, _, n, _⟩, ⟨w2, _⟩, ⟨len2, gap2, fails2, ts2, _⟩, ⟨way, st, lo, hi, hs, _⟩, _⟩ kn2 hi2 hk2
        simp only at hi2
        obtain ⟨b1, b2, rfl, rfl, b5⟩ := hi2
        have e2 : w64 (n + 1) = n + 1 := w64_id (by omega) (by omega)
        refine Ok.ite (fun hc => ?_) fun hc => hk _ ?_ ?_
        · simp only [decide_eq_true_eq] at hc
          refine Ok.bind (Below_ok _ (by rw [e2, w64_id (by omega) (by omega)]; omega)) fun r6 hr6 => ?_
          refine Ok.chk (fitA_ok (by simp; omega) (by omega)) (Ok.chk (fitA_ok (by simp; omega) (by omega)) ?_)
          rw [rMeets_eq]
          refine Ok.bind (Ok.some (P := fun _ => True) trivial) fun r7 _ => ?_
          refine Ok.ite (fun _ => hk _ ?_ ?_) fun _ => hk2 _ ?_ ?_
          · simp only [e, List.nil_append, List.length_append, List.length_singleton]
            refine ⟨by omega, by omega, by push_cast; omega, fun t ht => ?_, a5, a6⟩
            rcases List.mem_append.1 ht with ht | ht
            · exact a4 t ht
            · simp only [List.mem_singleton] at ht; subst ht; exact b5
          · simp [e]; omega
          · simp [e2]; omega
          · simp [e2]; omega
        · simp only [e]
          exact ⟨by omega, by omega, by omega, a4, a5, a6⟩
        · simp [e]; omega
theorem fit25_of {c : Convoy} (h1 : c.Trucks.length ≤ 25) (h2 : ∀ t ∈ c.Trucks, t.Holds.length ≤ 12) : fit25 c = true := by
  simp only [fit25, Bool.and_eq_true, decide_eq_true_eq, List.all_eq_true]
  exact ⟨h1, h2⟩
theorem fit1000_of {c : Convoy} (h : fit25 c = true) : fit1000 c = true := by
  simp only [fit25, fit1000, Bool.and_eq_true, decide_eq_true_eq, List.all_eq_true] at h ⊢
  exact ⟨by omega, fun t ht => by have := h.2 t ht; omega⟩
theorem big_fit {c : Convoy} (h : bigS (oC c) = false) : fit25 c = true := by
  obtain ⟨h1, h2⟩ := big_no h
  refine fit25_of (by simpa [oC] using h1) fun t ht => ?_
  obtain ⟨k, hk, rfl⟩ := List.mem_iff_getElem.1 ht
  have h3 := h2 k (by simpa [oC] using hk)
  simp only [oC] at h3
  rw [show (default : Go.Proofs.YtafnhieaeejlcaaDoor.Truck) = oT dfltTruck from rfl, getD_map, List.getD_eq_getElem?_getD, List.getElem?_eq_getElem hk] at h3
  simpa [oT] using h3
theorem ConvoyMeets_true (c : Convoy) {nums : List Int} (hn : nums.length ≤ 9223372036854775807) : ConvoyMeets c nums = some true := by
  suffices h : Ok (fun b => b = true) (ConvoyMeets c nums) by
    obtain ⟨b, h1, h2⟩ := h
    rw [h1, h2]
  rw [ConvoyMeets_eq]
  refine Ok.bind (P := fun b => b = bigS (oC c)) (by rw [big_eq]; exact Ok.some rfl) fun b hb => ?_
  refine Ok.ite (fun _ => ?_) fun hf => ?_
  · rw [awake_eq]; exact Ok.bind (Ok.some (P := fun b => b = true) rfl) fun b hb => Ok.some hb
  subst hb
  have hc := big_fit hf
  refine Ok.bind (NewSeed_ok hn) fun r3 _ => ?_
  refine Ok.bind (ConvoyOf_ok _ (by omega) (by omega)) fun r4 h4 => ?_
  refine Ok.bind (AcceptedOf_ok _ (by omega) (by omega)) fun r5 h5 => ?_
  have hc4 : fit25 r4.2 = true := fit25_of (by omega) fun t ht => by have := h4.2 t ht; omega
  have hc5 : fit25 r5.2 = true := fit25_of (by omega) fun t ht => by have := h5.2 t ht; omega
  have hall : ∀ x ∈ ([c, r4.2, r5.2] : List Convoy), fit25 x = true := fun x hx => by
    simp only [List.mem_cons, List.not_mem_nil, or_false] at hx
    rcases hx with rfl | rfl | rfl <;> assumption
  refine Ok.rounds (fun v => 0 ≤ v.1.2.1 ∧ v.1.2.1 ≤ 3) (fun v => (3 - v.1.2.1).toNat) ?_ ?_ ?_
  · show (3 - (0 : Int)).toNat < 18446744073709551616
    omega
  · simp
  · rintro ⟨⟨_, i, _⟩, _⟩ kn hi hk
    simp only at hi
    refine Ok.ite (fun hlt => ?_) fun _ => ?_
    · simp only [decide_eq_true_eq] at hlt
      have hlt' : i.toNat < ([c, r4.2, r5.2] : List Convoy).length := by simp at hlt ⊢; omega
      have hx := hall (([c, r4.2, r5.2] : List Convoy).getD i.toNat dfltConvoy) (by rw [List.getD_eq_getElem?_getD, List.getElem?_eq_getElem hlt']; exact List.getElem_mem _)
      generalize hx0 : ([c, r4.2, r5.2] : List Convoy).getD i.toNat dfltConvoy = x at hx
      have e : w64 (i + 1) = i + 1 := w64_id (by omega) (by omega)
      have hb : (decide (0 ≤ i) && decide (i < ((([c, r4.2, r5.2] : List Convoy).length : Nat) : Int))) = true := by simp only [Bool.and_eq_true, decide_eq_true_eq]; exact ⟨hi.1, hlt⟩
      refine Ok.chk hb (Ok.chk (by simpa using hlt') ?_)
      refine Ok.bind (P := fun y => y = x) (by rw [OwnConvoy_eq]; exact Ok.chk hx (Ok.some rfl)) fun y hy => ?_
      subst hy
      refine Ok.bind (P := fun m => m = meetS y) (by rw [pMeets_eq]; exact Ok.some rfl) fun m hm => ?_
      refine Ok.chk hb (Ok.chk (by simpa using hlt') ?_)
      refine Ok.bind (P := fun m => m = meetS y) (by rw [rMeets_eq]; exact Ok.some rfl) fun m2 hm2 => ?_
      subst hm hm2
      refine Ok.ite (fun h => by simp at h) fun _ => Ok.ite (fun h => by simp at h) fun _ => ?_
      refine Ok.chk hb (Ok.chk (by simpa using hlt') ?_)
      refine Ok.bind (P := fun b => b = true) (by rw [SameConvoys_eq]; exact Ok.chk (fit1000_of hx) (Ok.some (by simp))) fun b hb2 => ?_
      subst hb2
      refine Ok.ite (fun h => by simp at h) fun _ => hk _ ?_ ?_
      · simp only [e]; simp at hlt; omega
      · simp only [e]; simp at hlt; omega
    · rw [awake_eq]; exact Ok.bind (Ok.some (P := fun b => b = true) rfl) fun b hb => Ok.some hb
def nH (h : Go.Proofs.YtafnhieaeejlcaaDoor.Hold) : Hold := ⟨h.a, h.u⟩
def nT (t : Go.Proofs.YtafnhieaeejlcaaDoor.Truck) : Truck := ⟨t.way, t.start, ⟨t.lo, t.hi⟩, t.holds.map nH⟩
def nC (c : Go.Proofs.YtafnhieaeejlcaaDoor.Convoy) : Convoy := ⟨c.len, c.gap, c.fails, c.trucks.map nT⟩
theorem oT_nT (t : Go.Proofs.YtafnhieaeejlcaaDoor.Truck) : oT (nT t) = t := by
  obtain ⟨a, b, c, d, hs⟩ := t
  simp only [oT, nT, List.map_map]
  have : hs.map (oH ∘ nH) = hs := (List.map_congr_left fun x _ => rfl).trans (List.map_id hs)
  rw [this]
theorem oC_nC (c : Go.Proofs.YtafnhieaeejlcaaDoor.Convoy) : oC (nC c) = c := by
  obtain ⟨a, b, d, ts⟩ := c
  simp only [oC, nC, List.map_map]
  have : ts.map (oT ∘ nT) = ts := (List.map_congr_left fun x _ => oT_nT x).trans (List.map_id ts)
  rw [this]
theorem k4 (c : Go.Proofs.YtafnhieaeejlcaaDoor.Convoy) {nums : List Int} (hn : nums.length ≤ 9223372036854775807) : Contract Go.Proofs.YtafnhieaeejlcaaDoor.seat 4 [.agg (Go.Proofs.YtafnhieaeejlcaaDoor.encConvoy c), slOf 1 encI nums] (.bool true) := by
  have h := fn_contract (Z := Go.Proofs.YtafnhieaeejlcaaDoor.iseat) (ats := [.Convoy, .sl (.int .i64)]) (ts := [.bool]) (E := E4) (fn := Tryd.f4) (c := bodyOf Tryd.f4) Tryd.func4 (by kernel_rfl) (by kernel_rfl) (by kernel_rfl) (by kernel_rfl) rfl ((e4 itN (nC c) nums).trans ((ConvoyMeets_eq (nC c) nums).symm.trans (ConvoyMeets_true (nC c) hn))) zh zh
  have e : I.toDL zh (encA [.Convoy, .sl (.int .i64)] (nC c, nums, ())) = [.agg (Go.Proofs.YtafnhieaeejlcaaDoor.encConvoy c), slOf 1 encI nums] := by
    show [(encV .Convoy (nC c)).toD zh, slOf 1 encI nums] = _
    rw [argC, oC_nC]
  rw [e] at h
  exact h
end Go.Proofs.Plain04


/- Made convoys are valid; those that are accepted have no meeting. -/
namespace Go.Proofs.Plain04
open Go Go.Ab
open Go.Proofs.YtafnhieaeejlcaaDoor (alongI HSort chkConvoy chkTruck chkTrucks chkHolds chkHolds_cons meetingP along_le)
set_option linter.all false
/-- A made truck. -/
structure TMade (len : Int) (n : Int) (t : Truck) : Prop where
  way : t.Way = 1 ∨ t.Way = 2
  s1 : 0 ≤ t.Start
  s2 : t.Start ≤ 199
  p1 : 5 ≤ t.Pace.Lo
  p2 : t.Pace.Lo ≤ t.Pace.Hi
  p3 : t.Pace.Hi ≤ 32
  n : (t.Holds.length : Int) ≤ n
  h : ∀ h ∈ t.Holds.map oH, 1 ≤ h.a ∧ h.a ≤ len - 1 ∧ 0 ≤ h.u ∧ h.u ≤ 149
  so : HSort t.Way len (t.Holds.map oH)
/-- A made convoy. -/
structure CMade (most : Int) (c : Convoy) : Prop where
  l1 : 20 ≤ c.Length
  l2 : c.Length ≤ 400
  g1 : 1 ≤ c.Gap
  g2 : c.Gap ≤ 100
  f1 : 0 ≤ c.Fails
  f2 : c.Fails ≤ 2
  n : (c.Trucks.length : Int) ≤ most
  t : ∀ t ∈ c.Trucks, TMade c.Length 3 t
  g : ∀ t ∈ c.Trucks, 2 * t.Pace.Hi ≤ c.Gap
end Go.Proofs.Plain04


/- Courses lie in what is said; meetings that are told can happen. -/
namespace Go.Proofs.Plain04
open Go Go.Ab
open Go.Proofs.YtafnhieaeejlcaaDoor (posR nextR stopR stopP hitR alongI freeT laneP laneB heldB roadP atP gone ROk CR chkConvoy cr_of loI hiI lane_lt loI_hiI loI_bnd hiI_stop onL bI lane_two atP_lohi meetingP)
set_option linter.all false
end Go.Proofs.Plain04


/- When the last truck is off: plain law. Those fail that would be the last ones, and the least number for which as many have to fail as may: the same. -/
namespace Go.Proofs.YtafnhieaeejlcaaDoor
open Go Go.Ab
set_option linter.all false
def cnt (p : Nat → Bool) : Nat → Int
  | 0 => 0
  | n + 1 => cnt p n + (if p n then 1 else 0)
theorem cnt_t {p : Nat → Bool} {n : Nat} (h : p n = true) : cnt p (n + 1) = cnt p n + 1 := by simp only [cnt, if_pos h]
theorem cnt_f {p : Nat → Bool} {n : Nat} (h : p n = false) : cnt p (n + 1) = cnt p n := by simp only [cnt, h]; simp
theorem cnt_le {p q : Nat → Bool} : ∀ {n}, (∀ i, i < n → p i = true → q i = true) → cnt p n ≤ cnt q n
  | 0, _ => Int.le_refl _
  | n + 1, h => by
    have ih := cnt_le (p := p) (q := q) (n := n) fun i hi => h i (by omega)
    have := h n (by omega)
    simp only [cnt]
    cases hp : p n <;> cases hq : q n <;> simp_all <;> omega
theorem cnt_lt {p q : Nat → Bool} : ∀ {n}, (∀ i, i < n → p i = true → q i = true) → (∃ a, a < n ∧ q a = true ∧ p a = false) → cnt p n + 1 ≤ cnt q n
  | 0, _, ⟨a, h, _⟩ => by omega
  | n + 1, h, ⟨a, h1, h2, h3⟩ => by
    have hn := h n (by omega)
    simp only [cnt]
    by_cases e : a = n
    · subst e
      have ih := cnt_le (p := p) (q := q) (n := a) fun i hi => h i (by omega)
      rw [h2, h3]; simp; omega
    · have ih := cnt_lt (p := p) (q := q) (n := n) (fun i hi => h i (by omega)) ⟨a, by omega, h2, h3⟩
      cases hp : p n <;> cases hq : q n <;> simp_all <;> omega
theorem cnt_upd {p q : Nat → Bool} {j : Nat} (h : ∀ i, i ≠ j → q i = p i) (hp : p j = false) (hq : q j = true) : ∀ n, cnt q n = cnt p n + (if j < n then 1 else 0)
  | 0 => rfl
  | n + 1 => by
    have ih := cnt_upd h hp hq n
    simp only [cnt]
    rw [ih]
    by_cases e : n = j
    · subst e; rw [hp, hq]; simp
    · rw [h n e]
      by_cases e2 : j < n
      · rw [if_pos e2, if_pos (show j < n + 1 by omega)]; omega
      · rw [if_neg e2, if_neg (show ¬ j < n + 1 by omega)]; omega
theorem cnt_none {p : Nat → Bool} (h : ∀ i, p i = false) : ∀ n, cnt p n = 0
  | 0 => rfl
  | n + 1 => by simp only [cnt, cnt_none h n, h n]; rfl
theorem cnt_max (p : Nat → Bool) : ∀ n, cnt p n ≤ n
  | 0 => Int.le_refl _
  | n + 1 => by have := cnt_max p n; simp only [cnt]; split <;> omega
theorem mayC_iff {keep fail : Nat → Int} {m : Int} : ∀ {n : Nat} {c : Int}, mayC keep fail m n = some c ↔ (∀ i, i < n → keep i ≤ m ∨ fail i ≤ m) ∧ c = cnt (fun i => decide (keep i > m)) n
  | 0, c => by simp [mayC, cnt, eq_comm]
  | n + 1, c => by
    simp only [mayC]
    cases e : mayC keep fail m n with
    | none =>
      refine ⟨fun h => by simp at h, fun ⟨h1, h2⟩ => ?_⟩
      have := (mayC_iff (c := cnt (fun i => decide (keep i > m)) n)).2 ⟨fun i hi => h1 i (by omega), rfl⟩
      rw [e] at this; cases this
    | some d =>
      obtain ⟨h1, h2⟩ := mayC_iff.1 e
      simp only
      by_cases a : keep n ≤ m
      · rw [if_pos a, cnt_f (decide_eq_false (show ¬ keep n > m by omega))]
        constructor
        · intro h
          cases h
          exact ⟨fun i hi => by
            by_cases ei : i = n
            · subst ei; exact .inl a
            · exact h1 i (by omega), by omega⟩
        · rintro ⟨_, h⟩; rw [h, h2]
      · rw [if_neg a, cnt_t (decide_eq_true (show keep n > m by omega))]
        by_cases b : fail n > m
        · rw [if_pos b]
          exact ⟨fun h => by simp at h, fun ⟨h, _⟩ => by have := h n (by omega); omega⟩
        · rw [if_neg b]
          constructor
          · intro h
            cases h
            exact ⟨fun i hi => by
              by_cases ei : i = n
              · subst ei; right; omega
              · exact h1 i (by omega), by omega⟩
          · rintro ⟨_, h⟩; rw [h, h2]
theorem mayF_iff {keep fail : Nat → Int} {n : Nat} {fails m : Int} : mayF keep fail n fails m = true ↔ (∀ i, i < n → keep i ≤ m ∨ fail i ≤ m) ∧ cnt (fun i => decide (keep i > m)) n ≤ fails := by
  unfold mayF
  cases e : mayC keep fail m n with
  | none =>
    refine ⟨fun h => by simp at h, fun ⟨h1, h2⟩ => ?_⟩
    have := mayC_iff.2 ⟨h1, rfl⟩
    rw [e] at this; cases this
  | some d =>
    obtain ⟨h1, h2⟩ := mayC_iff.1 e
    simp only [decide_eq_true_eq]
    rw [h2]; exact ⟨fun h => ⟨h1, h⟩, fun h => h.2⟩
section
variable {s fast : Nat → Int} {n : Nat}
/-- Who fails behind m rounds. -/
def inR (s : Nat → Int) (n m : Nat) : Nat → Bool := fun i => decide (soonP s n m i = -1)
theorem greedy (hs : ∀ i, 0 ≤ s i) : ∀ m, m ≤ n → cnt (inR s n m) n = m ∧ (∀ i, soonP s n m i = -1 ∨ soonP s n m i = s i) ∧ (∀ r a, r < n → a < n → inR s n m r = true → inR s n m a = false → s a ≤ s r) ∧
    ∀ M, (loP s fast n m ≤ M ↔ 0 ≤ M ∧ ∀ i, i < n → inR s n m i = true → fast i ≤ M)
  | 0, _ => by
    have hz : ∀ i, inR s n 0 i = false := fun i => by
      have := hs i
      unfold inR; rw [soonP_zero]; simp; omega
    refine ⟨cnt_none hz n, fun i => .inr rfl, fun r a _ _ h => ?_, fun M => ⟨fun h => ⟨h, fun i _ hi => ?_⟩, fun h => h.1⟩⟩
    · rw [hz r] at h; cases h
    · rw [hz i] at hi; cases hi
  | m + 1, hm => by
    obtain ⟨h1, h2, h3, h4⟩ := greedy hs m (by omega)
    obtain ⟨w1, w2, _⟩ := worst_spec (soonP s n m) (n := n) (by omega)
    generalize hw : worst (soonP s n m) n = w at *
    have hmax : ∀ i, i < n → soonP s n m i ≤ soonP s n m w := fun i hi => by rw [w2]; exact maxN_ge _ _ _ (by omega)
    -- somebody is left
    have hleft : inR s n m w = false := by
      cases hb : inR s n m w with
      | false => rfl
      | true =>
        have hall : ∀ i, i < n → inR s n m i = true := fun i hi => by
          have a := hmax i hi
          have b : soonP s n m w = -1 := by simpa [inR] using hb
          have d := h2 i
          have e := hs i
          simp only [inR, decide_eq_true_eq]; omega
        have : cnt (fun _ => true) n ≤ cnt (inR s n m) n := cnt_le fun i hi _ => hall i hi
        have hfull : ∀ k, cnt (fun _ => true) k = k := fun k => by
          induction k with
          | zero => rfl
          | succ k ih => simp only [cnt, ih]; simp
        rw [hfull, h1] at this; omega
    have hsw : soonP s n m w = s w := (h2 w).resolve_left (by simpa [inR] using hleft)
    have hR : ∀ i, inR s n (m + 1) i = if i = w then true else inR s n m i := fun i => by
      unfold inR
      rw [soonP_succ, hw]
      by_cases e : i = w
      · rw [if_pos e, if_pos e]; rfl
      · rw [if_neg e, if_neg e]
    refine ⟨?_, fun i => ?_, fun r a hr ha hr' ha' => ?_, fun M => ?_⟩
    · rw [cnt_upd (p := inR s n m) (q := inR s n (m + 1)) (j := w) (fun i hi => by rw [hR, if_neg hi]) hleft (by rw [hR, if_pos rfl]) n, h1, if_pos w1]; push_cast; rfl
    · rw [soonP_succ, hw]
      by_cases e : i = w
      · rw [if_pos e]; exact .inl rfl
      · rw [if_neg e]; exact h2 i
    · rw [hR] at hr' ha'
      by_cases ea : a = w
      · rw [if_pos ea] at ha'; cases ha'
      · rw [if_neg ea] at ha'
        by_cases er : r = w
        · subst er
          have := hmax a ha
          have e2 : soonP s n m a = s a := (h2 a).resolve_left (by simpa [inR] using ha')
          omega
        · rw [if_neg er] at hr'; exact h3 r a hr ha hr' ha'
    · rw [loP_succ, hw]
      have := h4 M
      constructor
      · intro h
        obtain ⟨a, b⟩ := this.1 (by omega)
        refine ⟨a, fun i hi hi' => ?_⟩
        rw [hR] at hi'
        by_cases e : i = w
        · subst e; omega
        · rw [if_neg e] at hi'; exact b i hi hi'
      · rintro ⟨a, b⟩
        have h5 := this.2 ⟨a, fun i hi hi' => b i hi (by rw [hR]; split <;> first | rfl | exact hi')⟩
        have h6 := b w w1 (by rw [hR, if_pos rfl])
        omega
theorem maxL_le (lo : Int) (f : Nat → Int) (M : Int) : ∀ k, maxL lo f k ≤ M ↔ lo ≤ M ∧ ∀ i, i < k → f i ≤ M
  | 0 => by rw [maxL_zero]; exact ⟨fun h => ⟨h, fun i hi => by omega⟩, fun h => h.1⟩
  | k + 1 => by
    have ih := maxL_le lo f M k
    rw [maxL_succ]
    constructor
    · intro h
      obtain ⟨a, b⟩ := ih.1 (by omega)
      refine ⟨a, fun i hi => ?_⟩
      by_cases e : i = k
      · subst e; omega
      · exact b i (by omega)
    · rintro ⟨a, b⟩
      have := ih.2 ⟨a, fun i hi => b i (by omega)⟩
      have := b k (by omega)
      omega
theorem greedy_may {fails : Int} (hs : ∀ i, 0 ≤ s i) (hf : 0 ≤ fails) (hle : ∀ i, i < n → fast i ≤ s i) (M : Int) :
    maxL (loP s fast n (min fails.toNat n)) (soonP s n (min fails.toNat n)) n ≤ M ↔ 0 ≤ M ∧ mayF s fast n fails M = true := by
  generalize hm : min fails.toNat n = m
  obtain ⟨h1, h2, h3, h4⟩ := greedy (fast := fast) (n := n) hs m (by omega)
  rw [maxL_le, h4, mayF_iff]
  have hsoon : ∀ i, inR s n m i = false → soonP s n m i = s i := fun i hi => (h2 i).resolve_left (by simpa [inR] using hi)
  constructor
  · rintro ⟨⟨a, b⟩, d⟩
    have key : ∀ i, i < n → s i > M → inR s n m i = true := fun i hi hgt => by
      cases hb : inR s n m i with
      | true => rfl
      | false =>
        have := d i hi
        rw [hsoon i hb] at this; omega
    refine ⟨a, fun i hi => ?_, ?_⟩
    · by_cases hgt : s i > M
      · exact .inr (b i hi (key i hi hgt))
      · left; omega
    · have : cnt (fun i => decide (s i > M)) n ≤ cnt (inR s n m) n := cnt_le fun i hi hp => key i hi (by simpa using hp)
      omega
  · rintro ⟨a, b, d⟩
    have key : ∀ i, i < n → s i > M → inR s n m i = true := fun i hi hgt => by
      cases hb : inR s n m i with
      | true => rfl
      | false =>
        exfalso
        have : cnt (inR s n m) n + 1 ≤ cnt (fun i => decide (s i > M)) n := cnt_lt (fun r hr hr' => by
          have := h3 r i hr hi hr' hb
          simp only [decide_eq_true_eq]; omega) ⟨i, hi, by simpa using hgt, hb⟩
        have h5 := cnt_max (fun i => decide (s i > M)) n
        omega
    refine ⟨⟨a, fun i hi hi' => ?_⟩, fun i hi => ?_⟩
    · by_cases hgt : s i > M
      · exact (b i hi).resolve_left (by omega)
      · have := hle i hi; omega
    · rcases h2 i with e | e
      · omega
      · rw [e]
        by_cases hgt : s i > M
        · have := key i hi hgt
          simp only [inR, decide_eq_true_eq] at this
          have := hs i
          omega
        · omega
end
theorem hit_free {t : Truck} {len p : Int} (h : ROk len t) (hp : t.lo ≤ p) : hitR (freeT t true) len p ≤ hitR t len p := by
  obtain ⟨e1, e2, _⟩ := hitR_ok h hp
  obtain ⟨f1, f2, _⟩ := hitR_ok (h.free true) (pace := p) hp
  refine Classical.byContradiction fun hn => ?_
  have h1 := free_ahead h (by have := h.p1; omega) (hitR t len p) (p := p)
  have hb := (posR_le (h.free true).l1 (h.free true).ho (pace := p) (by have := h.p1; omega) (hitR t len p)).2
  exact f2 (hitR t len p) (by omega) (by omega)
def kF (c : Convoy) (i : Nat) : Int := if i < c.trucks.length then keepF c i else 0
theorem idxF_congr {p q : Nat → Bool} : ∀ f k, (∀ i, k ≤ i → i < k + f → p i = q i) → idxF p f k = idxF q f k
  | 0, _, _ => rfl
  | f + 1, k, h => by
    simp only [idxF]
    rw [h k (Nat.le_refl _) (by omega), idxF_congr f (k + 1) fun i a b => h i (by omega) (by omega)]
theorem soon_congr {s s' : Nat → Int} {n : Nat} (h : ∀ i, i < n → s i = s' i) : ∀ m, m ≤ n → (∀ i, i < n → soonP s n m i = soonP s' n m i) ∧ (0 < n → ∀ k, k < m → worst (soonP s n k) n = worst (soonP s' n k) n)
  | 0, _ => ⟨h, fun _ k hk => by omega⟩
  | m + 1, hm => by
    obtain ⟨h1, h2⟩ := soon_congr h m (by omega)
    have hw : worst (soonP s n m) n = worst (soonP s' n m) n := by
      have hN : ∀ k, k < n → maxN (soonP s n m) k = maxN (soonP s' n m) k := fun k hk => by
        induction k with
        | zero => exact h1 0 hk
        | succ k ih => simp only [maxN]; rw [ih (by omega), h1 (k + 1) hk]
      unfold worst
      rw [idxF_congr (q := fun i => decide (maxN (soonP s' n m) (n - 1) = soonP s' n m i)) n 0 fun i _ hi => by
        have e1 := hN (n - 1) (by omega)
        have e2 := h1 i (by omega)
        simp only [e1, e2]]
    refine ⟨fun i hi => ?_, fun hn k hk => ?_⟩
    · rw [soonP_succ, soonP_succ, hw, h1 i hi]
    · by_cases e : k = m
      · subst e; exact hw
      · exact h2 hn k (by omega)
theorem lo_congr {s s' f f' : Nat → Int} {n : Nat} (h : ∀ i, i < n → s i = s' i) (hf : ∀ i, i < n → f i = f' i) : ∀ m, m ≤ n → loP s f n m = loP s' f' n m
  | 0, _ => rfl
  | m + 1, hm => by
    rw [loP_succ, loP_succ, lo_congr h hf m (by omega), (soon_congr h (m + 1) hm).2 (by omega) m (by omega)]
    rw [hf _ (worst_spec (soonP s' n m) (n := n) (by omega)).1]
theorem maxL_congr {a b : Int} {f g : Nat → Int} (hab : a = b) : ∀ k, (∀ i, i < k → f i = g i) → maxL a f k = maxL b g k
  | 0, _ => hab
  | k + 1, h => by rw [maxL_succ, maxL_succ, maxL_congr hab k fun i hi => h i (by omega), h k (by omega)]
theorem mayF_congr {s s' f f' : Nat → Int} {n : Nat} {fails m : Int} (h : ∀ i, i < n → s i = s' i) (hf : ∀ i, i < n → f i = f' i) : mayF s f n fails m = mayF s' f' n fails m := by
  have : ∀ k, k ≤ n → mayC s f m k = mayC s' f' m k := fun k => by
    induction k with
    | zero => intro _; rfl
    | succ k ih => intro hk; simp only [mayC]; rw [ih (by omega), h k (by omega), hf k (by omega)]
  unfold mayF
  rw [this n (Nat.le_refl _)]
theorem keep_nonneg {c : Convoy} (hc : CR c) {i : Nat} (hi : i < c.trucks.length) : 0 ≤ keepF c i := by
  rw [keepF_eq hc hi]; have := (hc.r i hi).s1; omega
theorem fail_keep {c : Convoy} (hc : CR c) {i : Nat} (hi : i < c.trucks.length) : failF c i ≤ keepF c i := by
  rw [keepF_eq hc hi, failF_eq hc hi]
  have := hit_free (hc.r i hi) (hc.r i hi).p2
  omega
/-- The program's least number is the least for which as many have to fail as may. -/
theorem offP_iff {c : Convoy} (hc : CR c) (M : Int) : offPLo c ≤ M ↔ 0 ≤ M ∧ mayF (keepF c) (failF c) c.trucks.length c.fails M = true := by
  have hk : ∀ i, i < c.trucks.length → keepF c i = kF c i := fun i hi => by unfold kF; rw [if_pos hi]
  have hk0 : ∀ i, 0 ≤ kF c i := fun i => by
    unfold kF; split
    · exact keep_nonneg hc (by assumption)
    · exact Int.le_refl _
  have := greedy_may (s := kF c) (fast := failF c) (n := c.trucks.length) (fails := c.fails) hk0 hc.ok.f1 (fun i hi => by rw [← hk i hi]; exact fail_keep hc hi) M
  rw [← mayF_congr hk (fun i _ => rfl)] at this
  rw [← this]
  unfold offPLo failsP
  rw [lo_congr hk (fun i _ => rfl) _ (by omega), maxL_congr rfl _ fun i hi => (soon_congr hk _ (by omega)).1 i hi]
theorem offPS {c : Convoy} (hc : CR c) : offP c = offS c := by
  unfold offP offS
  have h1 := offLo_spec c (K := 21000) (mayF_top hc.ok) 21000 0 (Nat.zero_le _) (Nat.le_refl _)
  obtain ⟨a, b, d⟩ := h1
  have h2 := (offP_iff hc (offLo c 21000 0)).2 ⟨by omega, b⟩
  have h3 := (offP_iff hc (offPLo c)).1 (Int.le_refl _)
  have h4 : ¬ offPLo c < offLo c 21000 0 := fun hlt => by
    have := a (offPLo c).toNat (Nat.zero_le _) (by omega)
    rw [show (((offPLo c).toNat : Nat) : Int) = offPLo c by omega, h3.2] at this
    cases this
  have : offPLo c = offLo c 21000 0 := by omega
  rw [this]
end Go.Proofs.YtafnhieaeejlcaaDoor


/- Storms, what is reached. Written out by gen2.py (ours). -/
namespace Go.Proofs.Plain04
open Go Go.Ab
open Go.Proofs.YtafnhieaeejlcaaDoor (iseat)
set_option linter.all false
set_option maxRecDepth 100000
noncomputable section
def reached_L11 (g : Int) (now : List Bool) (t : Truck) (c : Convoy) (m : Int) (kn_2 : (List Bool) → Int → Option (List Bool)) (next2 : List Bool) (d : Int) (kn_3 : (List Bool) → Int → Option (List Bool)) : Option (List Bool) :=
  chk (decide (0 ≤ g) && decide (g < (now.length : Int))) <|
  bif (now.getD g.toNat false) then
    bif (decide (d ≤ t.Pace.Hi)) then
      (stopped c t g m d).bind fun r =>
      chk (decide (0 ≤ r) && decide (r < (next2.length : Int))) <|
      chk (decide (r.toNat < next2.length)) <|
      kn_3 (next2.set r.toNat true) (w64 (d + 1))
    else
      kn_2 next2 (w64 (g + 1))
  else
    kn_2 next2 (w64 (g + 1))
def reached_L8 (it : It (List Bool)) (c : Convoy) (now : List Bool) (t : Truck) (m : Int) (kn_ : (List Bool) → Int → Option (List Bool)) (next : List Bool) (g : Int) (kn_2 : (List Bool) → Int → Option (List Bool)) : Option (List Bool) :=
  bif (decide (g ≤ c.Length)) then
    it _ (fun (v_0 : (Unit × Unit × (List Bool) × Int × Unit) × (Unit)) kn => reached_L11 g now t c m kn_2 v_0.1.2.2.1 v_0.1.2.2.2.1 (fun y0 y1 => kn (((), (), y0, y1, ()), (())))) (((), (), next, t.Pace.Lo, ()), (()))
  else
    kn_ next (w64 (m + 1))
def reached_L4 (it : It (List Bool)) (minute : Int) (c : Convoy) (t : Truck) (now : List Bool) (m : Int) (kn_ : (List Bool) → Int → Option (List Bool)) : Option (List Bool) :=
  bif (decide (m < minute)) then
    chk (fitM (w64 (c.Length + 1)) 1) <|
    it _ (fun (v_0 : (Unit × Unit × (List Bool) × Int × Unit) × (Unit)) kn => reached_L8 it c now t m kn_ v_0.1.2.2.1 v_0.1.2.2.2.1 (fun y0 y1 => kn (((), (), y0, y1, ()), (())))) (((), (), (List.replicate (w64 (c.Length + 1)).toNat false), 0, ()), (()))
  else
    some now
def reached' (it : It (List Bool)) (c : Convoy) (t : Truck) (minute : Int) : Option (List Bool) :=
  chk (fitM (w64 (c.Length + 1)) 1) <|
  chk (decide (0 ≤ 0) && decide (0 < ((List.replicate (w64 (c.Length + 1)).toNat false).length : Int))) <|
  chk (decide (0 < (List.replicate (w64 (c.Length + 1)).toNat false).length)) <|
  it _ (fun (v_0 : (Unit × Unit × (List Bool) × Int × Unit) × (Unit)) kn => reached_L4 it minute c t v_0.1.2.2.1 v_0.1.2.2.2.1 (fun y0 y1 => kn (((), (), y0, y1, ()), (())))) (((), (), ((List.replicate (w64 (c.Length + 1)).toNat false).set 0 true), t.Start, ()), (()))
def reached : Convoy → Truck → Int → Option (List Bool) := opq (fun c t minute => reached' itN c t minute)
theorem reached_eq (c : Convoy) (t : Truck) (minute : Int) : reached c t minute = reached' itN c t minute := by unfold reached; rw [opq_eq]
def E47 : FEnv iseat := ⟨⟨61, [sp82], [], [], [], [], [], [], true⟩, [(4, ⟨⟨[(3, .bx 3 0), (4, .bx 4 0), (7, .v (.sl .bool)), (8, .v (.int .i64))], []⟩, [2], [3, 4]⟩), (8, ⟨⟨[(3, .bx 3 0), (4, .bx 4 0), (9, .os 28 4 .bool), (10, .v (.int .i64))], []⟩, [7, 8], []⟩), (11, ⟨⟨[(3, .bx 3 0), (4, .bx 4 0), (9, .os 28 4 .bool), (11, .v (.int .i64))], []⟩, [10], []⟩)]⟩
theorem e47 (it : It (List Bool)) (c : Convoy) (t : Truck) (minute : Int) : fnRun (ts := [.sl .bool]) it E47 (bodyOf Tryd.f47) Tryd.f47.results.toList (encA [.Convoy, .Truck, .int .i64] (c, t, minute, ())) = reached' it c t minute := by kernel_rfl
def sp47 : FnSpec iseat.toSeat := mkSpec iseat.toSeat 47 [.Convoy, .Truck, .int .i64] [.sl .bool] false (fun a => reached a.1 a.2.1 a.2.2.1) (fun a x hx h h' => fn_contract (Z := iseat) (ats := [.Convoy, .Truck, .int .i64]) (ts := [.sl .bool]) (E := E47) (fn := Tryd.f47) (c := bodyOf Tryd.f47) Tryd.func47 (by kernel_rfl) (by kernel_rfl) (by kernel_rfl) (by kernel_rfl) rfl ((e47 itN a.1 a.2.1 a.2.2.1).trans ((reached_eq a.1 a.2.1 a.2.2.1).symm.trans hx)) h h') (fun h => nomatch h)
def pCaught_L17 (all : List Track) (m : Int) (sure : Bool) (kn_2 : (List Track) → Bool → Bool → Int → Option ((List Int) × Int)) (may2 : Bool) (each : Bool) (x60 : Int) (kn_3 : Bool → Bool → Int → Option ((List Int) × Int)) : Option ((List Int) × Int) :=
  bif (decide (x60 < (all.length : Int))) then
    chk (decide (0 ≤ x60) && decide (x60 < (all.length : Int))) <|
    (trackLane (all.getD x60.toNat dfltTrack) m).bind fun r7 =>
    bif each then
      bif may2 then
        kn_3 true (r7.2 == 1) (w64 (x60 + 1))
      else
        kn_3 (r7.2 != 2) (r7.2 == 1) (w64 (x60 + 1))
    else
      bif may2 then
        kn_3 true false (w64 (x60 + 1))
      else
        kn_3 (r7.2 != 2) false (w64 (x60 + 1))
  else
    bif sure then
      kn_2 all true may2 (w64 (m + 1))
    else
      kn_2 all each may2 (w64 (m + 1))
def pCaught_L13 (it : It ((List Int) × Int)) (storm : Span) (out : List Int) (kn_ : (List Int) → Int → Option ((List Int) × Int)) (x27 : Int) (all : List Track) (sure : Bool) (may : Bool) (m : Int) (kn_2 : (List Track) → Bool → Bool → Int → Option ((List Int) × Int)) : Option ((List Int) × Int) :=
  chk (decide (0 ≤ 0) && decide (0 < (all.length : Int))) <|
  (trackEnd (all.getD 0 dfltTrack)).bind fun r6 =>
  bif (decide (m ≤ (min storm.Hi r6))) then
    it _ (fun (v_0 : (Unit × Unit × Unit × Bool × Bool × Int × Unit) × (Unit)) kn => pCaught_L17 all m sure kn_2 v_0.1.2.2.2.1 v_0.1.2.2.2.2.1 v_0.1.2.2.2.2.2.1 (fun y0 y1 y2 => kn (((), (), (), y0, y1, y2, ()), (())))) (((), (), (), may, true, 0, ()), (()))
  else
    bif sure then
      chk (fitA (out.length + [1].length) 8) <|
      kn_ (out ++ [1]) (w64 (x27 + 1))
    else
      bif may then
        chk (fitA (out.length + [3].length) 8) <|
        kn_ (out ++ [3]) (w64 (x27 + 1))
      else
        chk (fitA (out.length + [2].length) 8) <|
        kn_ (out ++ [2]) (w64 (x27 + 1))
def pCaught_L17__2 (all2 : List Track) (m2 : Int) (sure2 : Bool) (kn_4 : (List Track) → Bool → Bool → Int → Option ((List Int) × Int)) (may4 : Bool) (each2 : Bool) (x602 : Int) (kn_5 : Bool → Bool → Int → Option ((List Int) × Int)) : Option ((List Int) × Int) :=
  bif (decide (x602 < (all2.length : Int))) then
    chk (decide (0 ≤ x602) && decide (x602 < (all2.length : Int))) <|
    (trackLane (all2.getD x602.toNat dfltTrack) m2).bind fun r9 =>
    bif each2 then
      bif may4 then
        kn_5 true (r9.2 == 1) (w64 (x602 + 1))
      else
        kn_5 (r9.2 != 2) (r9.2 == 1) (w64 (x602 + 1))
    else
      bif may4 then
        kn_5 true false (w64 (x602 + 1))
      else
        kn_5 (r9.2 != 2) false (w64 (x602 + 1))
  else
    bif sure2 then
      kn_4 all2 true may4 (w64 (m2 + 1))
    else
      kn_4 all2 each2 may4 (w64 (m2 + 1))
def pCaught_L13__2 (it : It ((List Int) × Int)) (storm : Span) (out : List Int) (kn_ : (List Int) → Int → Option ((List Int) × Int)) (x27 : Int) (all2 : List Track) (sure2 : Bool) (may3 : Bool) (m2 : Int) (kn_4 : (List Track) → Bool → Bool → Int → Option ((List Int) × Int)) : Option ((List Int) × Int) :=
  chk (decide (0 ≤ 0) && decide (0 < (all2.length : Int))) <|
  (trackEnd (all2.getD 0 dfltTrack)).bind fun r8 =>
  bif (decide (m2 ≤ (min storm.Hi r8))) then
    it _ (fun (v_0 : (Unit × Unit × Unit × Bool × Bool × Int × Unit) × (Unit)) kn => pCaught_L17__2 all2 m2 sure2 kn_4 v_0.1.2.2.2.1 v_0.1.2.2.2.2.1 v_0.1.2.2.2.2.2.1 (fun y0 y1 y2 => kn (((), (), (), y0, y1, y2, ()), (())))) (((), (), (), may3, true, 0, ()), (()))
  else
    bif sure2 then
      chk (fitA (out.length + [1].length) 8) <|
      kn_ (out ++ [1]) (w64 (x27 + 1))
    else
      bif may3 then
        chk (fitA (out.length + [3].length) 8) <|
        kn_ (out ++ [3]) (w64 (x27 + 1))
      else
        chk (fitA (out.length + [2].length) 8) <|
        kn_ (out ++ [2]) (w64 (x27 + 1))
def pCaught_L6 (it : It ((List Int) × Int)) (c : Convoy) (storm : Span) (out : List Int) (x27 : Int) (kn_ : (List Int) → Int → Option ((List Int) × Int)) : Option ((List Int) × Int) :=
  bif (decide (x27 < (c.Trucks.length : Int))) then
    (rideOf c x27 false).bind fun r2 =>
    (trackOf r2).bind fun r3 =>
    bif (decide (c.Fails > 0)) then
      (rideOf c x27 true).bind fun r4 =>
      (trackOf r4).bind fun r5 =>
      chk (fitA (([r3] : List Track).length + ([r5] : List Track).length) 88) <|
      it _ (fun (v_0 : (Unit × Unit × Unit × (List Track) × Bool × Bool × Int × Unit) × (Unit)) kn => pCaught_L13 it storm out kn_ x27 v_0.1.2.2.2.1 v_0.1.2.2.2.2.1 v_0.1.2.2.2.2.2.1 v_0.1.2.2.2.2.2.2.1 (fun y0 y1 y2 y3 => kn (((), (), (), y0, y1, y2, y3, ()), (())))) (((), (), (), (([r3] : List Track) ++ ([r5] : List Track)), false, false, storm.Lo, ()), (()))
    else
      it _ (fun (v_0 : (Unit × Unit × Unit × (List Track) × Bool × Bool × Int × Unit) × (Unit)) kn => pCaught_L13__2 it storm out kn_ x27 v_0.1.2.2.2.1 v_0.1.2.2.2.2.1 v_0.1.2.2.2.2.2.1 v_0.1.2.2.2.2.2.2.1 (fun y0 y1 y2 y3 => kn (((), (), (), y0, y1, y2, y3, ()), (())))) (((), (), (), ([r3] : List Track), false, false, storm.Lo, ()), (()))
  else
    some (out, 0)
def pCaught' (it : It ((List Int) × Int)) (c : Convoy) (storm : Span) : Option ((List Int) × Int) :=
  (asked c storm).bind fun r =>
  bif (r != 0) then
    some (([] : List Int), r)
  else
    it _ (fun (v_0 : (Unit × Unit × (List Int) × Int × Unit) × (Unit)) kn => pCaught_L6 it c storm v_0.1.2.2.1 v_0.1.2.2.2.1 (fun y0 y1 => kn (((), (), y0, y1, ()), (())))) (((), (), ([] : List Int), 0, ()), (()))
def pCaught : Convoy → Span → Option ((List Int) × Int) := opq (fun c storm => pCaught' itN c storm)
theorem pCaught_eq (c : Convoy) (storm : Span) : pCaught c storm = pCaught' itN c storm := by unfold pCaught; rw [opq_eq]
def E55 : FEnv iseat := ⟨⟨100, [sp96, sp84, sp83, sp98, sp85], [], [], [], [], [43, 86, 91, 96], [], true⟩, [(6, ⟨⟨[(2, .bx 2 0), (3, .bx 3 0), (7, .os 7 3 (.int .i64)), (27, .v (.int .i64))], []⟩, [26], [2, 3]⟩), (13, ⟨⟨[(2, .bx 2 0), (3, .bx 3 0), (7, .osr 7), (9, .v (.sl .Track)), (10, .v .bool), (11, .v .bool), (12, .v (.int .i64))], []⟩, [27], [7]⟩), (17, ⟨⟨[(2, .bx 2 0), (3, .bx 3 0), (7, .osr 7), (11, .v .bool), (13, .v .bool), (60, .v (.int .i64))], []⟩, [9, 10, 12, 58, 59], []⟩)]⟩
theorem e55 (it : It ((List Int) × Int)) (c : Convoy) (storm : Span) : fnRun (ts := [.sl (.int .i64), .int .i64]) it E55 (bodyOf Tryd.f55) Tryd.f55.results.toList (encA [.Convoy, .Span] (c, storm, ())) = pCaught' it c storm := by kernel_rfl
def sp55 : FnSpec iseat.toSeat := mkSpec iseat.toSeat 55 [.Convoy, .Span] [.sl (.int .i64), .int .i64] false (fun a => pCaught a.1 a.2.1) (fun a x hx h h' => fn_contract (Z := iseat) (ats := [.Convoy, .Span]) (ts := [.sl (.int .i64), .int .i64]) (E := E55) (fn := Tryd.f55) (c := bodyOf Tryd.f55) Tryd.func55 (by kernel_rfl) (by kernel_rfl) (by kernel_rfl) (by kernel_rfl) rfl ((e55 itN a.1 a.2.1).trans ((pCaught_eq a.1 a.2.1).symm.trans hx)) h h') (fun h => nomatch h)
def ConvoyExact_L13 (r2 : (Seed × Int)) (r9 : List Bool) (r3 : (Seed × Truck)) (r4 : (Seed × Int)) (r8 : (Span × Int × Int)) (r7 : (Seed × Int)) (on_ : Int) (out : Int) (g : Int) (kn_ : Int → Int → Int → Option Bool) : Option Bool :=
  bif (decide (g ≤ r2.2)) then
    chk (decide (0 ≤ g) && decide (g < (r9.length : Int))) <|
    (OnRoad (⟨r2.2, 100, 0, ([(⟨r3.2.Way, r4.2, r3.2.Pace, r3.2.Holds⟩ : Truck)] : List Truck)⟩ : Convoy) (⟨r3.2.Way, r4.2, r3.2.Pace, r3.2.Holds⟩ : Truck) g).bind fun r10 =>
    (Has r8.1 r10).bind fun r11 =>
    bif (!((r9.getD g.toNat false) == r11)) then
      some false
    else
      chk (decide (0 ≤ g) && decide (g < (r9.length : Int))) <|
      bif (!(r9.getD g.toNat false)) then
        kn_ on_ out (w64 (g + 1))
      else
        (OnLane (⟨r2.2, 100, 0, ([(⟨r3.2.Way, r4.2, r3.2.Pace, r3.2.Holds⟩ : Truck)] : List Truck)⟩ : Convoy) (⟨r3.2.Way, r4.2, r3.2.Pace, r3.2.Holds⟩ : Truck) false g r7.2).bind fun r12 =>
        bif r12 then
          kn_ (w64 (on_ + 1)) out (w64 (g + 1))
        else
          kn_ on_ (w64 (out + 1)) (w64 (g + 1))
  else
    bif ((r8.2.1 == 1) == (out == 0)) then
      bif ((r8.2.1 == 2) == (on_ == 0)) then
        bif (decide (on_ > 0)) then
          bif ((r8.2.1 == 3) == (decide (out > 0))) then
            (awake).bind fun r13 =>
            some r13
          else
            some false
        else
          bif ((r8.2.1 == 3) == false) then
            (awake).bind fun r14 =>
            some r14
          else
            some false
      else
        some false
    else
      some false
def ConvoyExact' (it : It Bool) (nums : List Int) : Option Bool :=
  (NewSeed nums).bind fun r =>
  (From r 20 200).bind fun r2 =>
  (TruckOf r2.1 r2.2 3).bind fun r3 =>
  (Below r3.1 20).bind fun r4 =>
  (Below r4.1 15).bind fun r5 =>
  (Below r5.1 90).bind fun r6 =>
  (Of r6.1 [(w64 (r4.2 + r5.2)), r6.2]).bind fun r7 =>
  (pWhere (⟨r2.2, 100, 0, ([(⟨r3.2.Way, r4.2, r3.2.Pace, r3.2.Holds⟩ : Truck)] : List Truck)⟩ : Convoy) 0 false r7.2).bind fun r8 =>
  bif (r8.2.2 != 0) then
    some false
  else
    (reached (⟨r2.2, 100, 0, ([(⟨r3.2.Way, r4.2, r3.2.Pace, r3.2.Holds⟩ : Truck)] : List Truck)⟩ : Convoy) (⟨r3.2.Way, r4.2, r3.2.Pace, r3.2.Holds⟩ : Truck) r7.2).bind fun r9 =>
    it _ (fun (v_0 : (Unit × Unit × Unit × Int × Int × Int × Unit) × (Unit)) kn => ConvoyExact_L13 r2 r9 r3 r4 r8 r7 v_0.1.2.2.2.1 v_0.1.2.2.2.2.1 v_0.1.2.2.2.2.2.1 (fun y0 y1 y2 => kn (((), (), (), y0, y1, y2, ()), (())))) (((), (), (), 0, 0, 0, ()), (()))
def E11 : FEnv iseat := ⟨⟨111, [sp43, sp47, sp30, sp40, sp31, w19], [sp35, sp46, sp32, sp45], [sp24], [], [], [37], [], true⟩, [(13, ⟨⟨[(4, .bx 4 0), (5, .bx 5 0), (7, .bx 7 0), (11, .v (.int .i64)), (12, .v (.int .i64)), (13, .v (.int .i64))], []⟩, [6, 8, 10], [4, 5, 7]⟩)]⟩
theorem e11 (it : It Bool) (nums : List Int) : fnRun (ts := [.bool]) it E11 (bodyOf Tryd.f11) Tryd.f11.results.toList (encA [.sl (.int .i64)] (nums, ())) = ConvoyExact' it nums := by kernel_rfl
def ConvoyOffs_L7 (c : Convoy) (r5 : (Seed × Convoy)) (breakup : Span) (r6 : (Seed × Span)) (storm : Span) (r7 : (Seed × Span)) (i : Int) (kn_ : Int → Option Bool) : Option Bool :=
  bif (decide (i < (([c, r5.2, r5.2] : List Convoy).length : Int))) then
    chk (decide (0 ≤ i) && decide (i < (([c, r5.2, r5.2] : List Convoy).length : Int))) <|
    chk (decide (i.toNat < ([c, r5.2, r5.2] : List Convoy).length)) <|
    (pOff (([c, r5.2, r5.2] : List Convoy).getD i.toNat dfltConvoy)).bind fun r8 =>
    chk (decide (0 ≤ i) && decide (i < (([c, r5.2, r5.2] : List Convoy).length : Int))) <|
    chk (decide (i.toNat < ([c, r5.2, r5.2] : List Convoy).length)) <|
    (rOff (([c, r5.2, r5.2] : List Convoy).getD i.toNat dfltConvoy)).bind fun r9 =>
    chk (decide (0 ≤ i) && decide (i < (([c, r5.2, r5.2] : List Convoy).length : Int))) <|
    chk (decide (i.toNat < ([c, r5.2, r5.2] : List Convoy).length)) <|
    chk (decide (0 ≤ i) && decide (i < (([breakup, r6.2, breakup] : List Span).length : Int))) <|
    chk (decide (i.toNat < ([breakup, r6.2, breakup] : List Span).length)) <|
    (pSafe (([c, r5.2, r5.2] : List Convoy).getD i.toNat dfltConvoy) (([breakup, r6.2, breakup] : List Span).getD i.toNat dfltSpan)).bind fun r10 =>
    chk (decide (0 ≤ i) && decide (i < (([c, r5.2, r5.2] : List Convoy).length : Int))) <|
    chk (decide (i.toNat < ([c, r5.2, r5.2] : List Convoy).length)) <|
    chk (decide (0 ≤ i) && decide (i < (([breakup, r6.2, breakup] : List Span).length : Int))) <|
    chk (decide (i.toNat < ([breakup, r6.2, breakup] : List Span).length)) <|
    (rSafe (([c, r5.2, r5.2] : List Convoy).getD i.toNat dfltConvoy) (([breakup, r6.2, breakup] : List Span).getD i.toNat dfltSpan)).bind fun r11 =>
    chk (decide (0 ≤ i) && decide (i < (([c, r5.2, r5.2] : List Convoy).length : Int))) <|
    chk (decide (i.toNat < ([c, r5.2, r5.2] : List Convoy).length)) <|
    chk (decide (0 ≤ i) && decide (i < (([storm, r7.2, storm] : List Span).length : Int))) <|
    chk (decide (i.toNat < ([storm, r7.2, storm] : List Span).length)) <|
    (pCaught (([c, r5.2, r5.2] : List Convoy).getD i.toNat dfltConvoy) (([storm, r7.2, storm] : List Span).getD i.toNat dfltSpan)).bind fun r12 =>
    chk (decide (0 ≤ i) && decide (i < (([c, r5.2, r5.2] : List Convoy).length : Int))) <|
    chk (decide (i.toNat < ([c, r5.2, r5.2] : List Convoy).length)) <|
    chk (decide (0 ≤ i) && decide (i < (([storm, r7.2, storm] : List Span).length : Int))) <|
    chk (decide (i.toNat < ([storm, r7.2, storm] : List Span).length)) <|
    (rCaught (([c, r5.2, r5.2] : List Convoy).getD i.toNat dfltConvoy) (([storm, r7.2, storm] : List Span).getD i.toNat dfltSpan)).bind fun r13 =>
    bif (!(decide (r8.1.Lo = r9.1.Lo) && (decide (r8.1.Hi = r9.1.Hi) && true))) then
      some false
    else
      bif (r8.2 != r9.2) then
        some false
      else
        bif (r10.1 != r11.1) then
          some false
        else
          bif (r10.2 != r11.2) then
            some false
          else
            bif (r12.2 != r13.2) then
              some false
            else
              (Same r12.1 r13.1).bind fun r14 =>
              bif (!r14) then
                some false
              else
                kn_ (w64 (i + 1))
  else
    (awake).bind fun r15 =>
    some r15
def ConvoyOffs_L7__2 (c : Convoy) (r17 : (Seed × Convoy)) (breakup : Span) (r18 : (Seed × Span)) (storm : Span) (r19 : (Seed × Span)) (i2 : Int) (kn_2 : Int → Option Bool) : Option Bool :=
  bif (decide (i2 < (([c, r17.2, r17.2] : List Convoy).length : Int))) then
    chk (decide (0 ≤ i2) && decide (i2 < (([c, r17.2, r17.2] : List Convoy).length : Int))) <|
    chk (decide (i2.toNat < ([c, r17.2, r17.2] : List Convoy).length)) <|
    (pOff (([c, r17.2, r17.2] : List Convoy).getD i2.toNat dfltConvoy)).bind fun r20 =>
    chk (decide (0 ≤ i2) && decide (i2 < (([c, r17.2, r17.2] : List Convoy).length : Int))) <|
    chk (decide (i2.toNat < ([c, r17.2, r17.2] : List Convoy).length)) <|
    (rOff (([c, r17.2, r17.2] : List Convoy).getD i2.toNat dfltConvoy)).bind fun r21 =>
    chk (decide (0 ≤ i2) && decide (i2 < (([c, r17.2, r17.2] : List Convoy).length : Int))) <|
    chk (decide (i2.toNat < ([c, r17.2, r17.2] : List Convoy).length)) <|
    chk (decide (0 ≤ i2) && decide (i2 < (([breakup, r18.2, breakup] : List Span).length : Int))) <|
    chk (decide (i2.toNat < ([breakup, r18.2, breakup] : List Span).length)) <|
    (pSafe (([c, r17.2, r17.2] : List Convoy).getD i2.toNat dfltConvoy) (([breakup, r18.2, breakup] : List Span).getD i2.toNat dfltSpan)).bind fun r22 =>
    chk (decide (0 ≤ i2) && decide (i2 < (([c, r17.2, r17.2] : List Convoy).length : Int))) <|
    chk (decide (i2.toNat < ([c, r17.2, r17.2] : List Convoy).length)) <|
    chk (decide (0 ≤ i2) && decide (i2 < (([breakup, r18.2, breakup] : List Span).length : Int))) <|
    chk (decide (i2.toNat < ([breakup, r18.2, breakup] : List Span).length)) <|
    (rSafe (([c, r17.2, r17.2] : List Convoy).getD i2.toNat dfltConvoy) (([breakup, r18.2, breakup] : List Span).getD i2.toNat dfltSpan)).bind fun r23 =>
    chk (decide (0 ≤ i2) && decide (i2 < (([c, r17.2, r17.2] : List Convoy).length : Int))) <|
    chk (decide (i2.toNat < ([c, r17.2, r17.2] : List Convoy).length)) <|
    chk (decide (0 ≤ i2) && decide (i2 < (([storm, r19.2, storm] : List Span).length : Int))) <|
    chk (decide (i2.toNat < ([storm, r19.2, storm] : List Span).length)) <|
    (pCaught (([c, r17.2, r17.2] : List Convoy).getD i2.toNat dfltConvoy) (([storm, r19.2, storm] : List Span).getD i2.toNat dfltSpan)).bind fun r24 =>
    chk (decide (0 ≤ i2) && decide (i2 < (([c, r17.2, r17.2] : List Convoy).length : Int))) <|
    chk (decide (i2.toNat < ([c, r17.2, r17.2] : List Convoy).length)) <|
    chk (decide (0 ≤ i2) && decide (i2 < (([storm, r19.2, storm] : List Span).length : Int))) <|
    chk (decide (i2.toNat < ([storm, r19.2, storm] : List Span).length)) <|
    (rCaught (([c, r17.2, r17.2] : List Convoy).getD i2.toNat dfltConvoy) (([storm, r19.2, storm] : List Span).getD i2.toNat dfltSpan)).bind fun r25 =>
    bif (!(decide (r20.1.Lo = r21.1.Lo) && (decide (r20.1.Hi = r21.1.Hi) && true))) then
      some false
    else
      bif (r20.2 != r21.2) then
        some false
      else
        bif (r22.1 != r23.1) then
          some false
        else
          bif (r22.2 != r23.2) then
            some false
          else
            bif (r24.2 != r25.2) then
              some false
            else
              (Same r24.1 r25.1).bind fun r26 =>
              bif (!r26) then
                some false
              else
                kn_2 (w64 (i2 + 1))
  else
    (awake).bind fun r27 =>
    some r27
def ConvoyOffs' (it : It Bool) (c : Convoy) (breakup : Span) (storm : Span) (nums : List Int) : Option Bool :=
  (big c).bind fun r =>
  bif r then
    (awake).bind fun r2 =>
    some r2
  else
    bif (decide (storm.Hi > 2000)) then
      bif (decide (storm.Hi ≤ 30000)) then
        (awake).bind fun r3 =>
        some r3
      else
        (NewSeed nums).bind fun r4 =>
        (ConvoyOf r4 4).bind fun r5 =>
        (SpanOf r5.1 0 300).bind fun r6 =>
        (SpanOf r6.1 0 250).bind fun r7 =>
        it _ (fun (v_0 : (Unit × Unit × Unit × Int × Unit) × (Unit)) kn => ConvoyOffs_L7 c r5 breakup r6 storm r7 v_0.1.2.2.2.1 (fun y0 => kn (((), (), (), y0, ()), (())))) (((), (), (), 0, ()), (()))
    else
      (NewSeed nums).bind fun r16 =>
      (ConvoyOf r16 4).bind fun r17 =>
      (SpanOf r17.1 0 300).bind fun r18 =>
      (SpanOf r18.1 0 250).bind fun r19 =>
      it _ (fun (v_0 : (Unit × Unit × Unit × Int × Unit) × (Unit)) kn => ConvoyOffs_L7__2 c r17 breakup r18 storm r19 v_0.1.2.2.2.1 (fun y0 => kn (((), (), (), y0, ()), (())))) (((), (), (), 0, ()), (()))
def ConvoyOffs : Convoy → Span → Span → (List Int) → Option Bool := opq (fun c breakup storm nums => ConvoyOffs' itN c breakup storm nums)
theorem ConvoyOffs_eq (c : Convoy) (breakup : Span) (storm : Span) (nums : List Int) : ConvoyOffs c breakup storm nums = ConvoyOffs' itN c breakup storm nums := by unfold ConvoyOffs; rw [opq_eq]
def E15 : FEnv iseat := ⟨⟨158, [w18, w19, w36, w52, sp53, sp54, sp55, sp56, sp57], [sp25, sp51], [sp24], [], [], [], [], true⟩, [(7, ⟨⟨[(11, .osr 47), (12, .osr 52), (13, .osr 57), (14, .v (.int .i64))], []⟩, [], [47, 52, 57]⟩)]⟩
theorem e15 (it : It Bool) (c : Convoy) (breakup : Span) (storm : Span) (nums : List Int) : fnRun (ts := [.bool]) it E15 (bodyOf Tryd.f15) Tryd.f15.results.toList (encA [.Convoy, .Span, .Span, .sl (.int .i64)] (c, breakup, storm, nums, ())) = ConvoyOffs' it c breakup storm nums := by kernel_rfl
end
end Go.Proofs.Plain04


/- The last truck, the break-up, storms: the program and the reference say the same. -/
namespace Go.Proofs.Plain04
open Go Go.Ab
open Go.Proofs.YtafnhieaeejlcaaDoor (hitR freeT laneP ROk CR chkConvoy cr_of bigS offP offS offPS lane_two lane_end wayR)
set_option linter.all false
theorem Same_refl {l : List Int} (hl : l.length ≤ 1000000) : Same l l = some true := by
  rw [Same_eq]; apply ok_eq
  refine Ok.no (by simp) ?_
  refine Ok.rounds (fun v => 0 ≤ v.1.1 ∧ v.1.1 ≤ l.length) (fun v => ((l.length : Int) - v.1.1).toNat) ?_ ?_ ?_
  · show ((l.length : Int) - 0).toNat < 18446744073709551616
    omega
  · exact ⟨Int.le_refl _, by show (0 : Int) ≤ _; omega⟩
  · rintro ⟨⟨i, _⟩, _⟩ kn ⟨h1, h2⟩ hk
    simp only at h1 h2 ⊢
    have e : w64 (i + 1) = i + 1 := w64_id (by omega) (by omega)
    refine Ok.ite (fun hlt => ?_) fun _ => Ok.some rfl
    have hlt := of_decide_eq_true hlt
    exact Ok.chk (ib h1 hlt) (Ok.chk (ib h1 hlt) (Ok.no (by simp) (hk _ (by simp only [e]; omega) (by simp only [e]; omega))))
def spanErr (x : Span) : Int := if ¬ (0 ≤ x.Lo ∧ x.Lo ≤ 30000) ∨ ¬ (0 ≤ x.Hi ∧ x.Hi ≤ 30000) then 2 else if x.Lo > x.Hi then 11 else 0
theorem checkSpan_sp (x : Span) : checkSpan x = some (spanErr x) := by
  rw [checkSpan_eq]; apply ok_eq
  unfold spanErr
  refine Ok.beq (within_sp _ _ _) ?_
  by_cases h1 : 0 ≤ x.Lo ∧ x.Lo ≤ 30000
  · refine Ok.no (by simp [h1]) (Ok.beq (within_sp _ _ _) ?_)
    by_cases h2 : 0 ≤ x.Hi ∧ x.Hi ≤ 30000
    · refine Ok.no (by simp [h2]) ?_
      rw [if_neg (fun hh => hh.elim (fun h => h h1) (fun h => h h2))]
      by_cases h3 : x.Lo > x.Hi
      · rw [if_pos h3]; exact Ok.yes (decide_eq_true h3) (Ok.some rfl)
      · rw [if_neg h3]; exact Ok.no (decide_eq_false h3) (Ok.some rfl)
    · rw [if_pos (.inr h2)]; exact Ok.yes (by simp [h2]) (Ok.some rfl)
  · rw [if_pos (.inl h1)]; exact Ok.yes (by simp [h1]) (Ok.some rfl)
def askErr (c : Convoy) (x : Span) : Int := if chkConvoy (oC c) ≠ 0 then chkConvoy (oC c) else spanErr x
theorem asked_sp (c : Convoy) (x : Span) : asked c x = some (askErr c x) := by
  rw [asked_eq]; apply ok_eq
  unfold askErr spanErr
  refine Ok.beq (pCheck_eq c) ?_
  by_cases h : chkConvoy (oC c) = 0
  rotate_left 1
  · rw [if_pos h]; exact Ok.yes (by simpa using h) (Ok.some rfl)
  rw [if_neg (fun hh => hh h)]
  refine Ok.no (by simpa using h) (Ok.beq (inp_sp _ _ _) ?_)
  by_cases h1 : 0 ≤ x.Lo ∧ x.Lo ≤ 30000
  · refine Ok.no (by simp [h1]) (Ok.beq (inp_sp _ _ _) ?_)
    by_cases h2 : 0 ≤ x.Hi ∧ x.Hi ≤ 30000
    · refine Ok.no (by simp [h2]) ?_
      rw [if_neg (fun hh => hh.elim (fun h => h h1) (fun h => h h2))]
      by_cases h3 : x.Lo > x.Hi
      · rw [if_pos h3]; exact Ok.yes (decide_eq_true h3) (Ok.some rfl)
      · rw [if_neg h3]; exact Ok.no (decide_eq_false h3) (Ok.some rfl)
    · rw [if_pos (.inr h2)]; exact Ok.yes (by simp [h2]) (Ok.some rfl)
  · rw [if_pos (.inl h1)]; exact Ok.yes (by simp [h1]) (Ok.some rfl)
def safeS (c : Convoy) (x : Span) : Int × Int :=
  if askErr c x ≠ 0 then (0, askErr c x) else if c.Trucks.length = 0 ∨ (offS (oC c)).hi < x.Lo then (1, 0) else if (offS (oC c)).lo ≥ x.Hi then (2, 0) else (3, 0)
theorem safe_tail {c : Convoy} {x : Span} (h : askErr c x = 0) : Ok (fun y => y = safeS c x) (bif ((c.Trucks.length : Int) == 0) then some (1, 0) else bif (decide ((nS (offS (oC c))).Hi < x.Lo)) then some (1, 0) else bif (decide ((nS (offS (oC c))).Lo ≥ x.Hi)) then some (2, 0) else some (3, 0)) := by
  unfold safeS
  rw [if_neg (fun hh => hh h)]
  by_cases h1 : c.Trucks.length = 0
  · rw [if_pos (.inl h1)]; exact Ok.yes (by simp [h1]) (Ok.some rfl)
  · refine Ok.no (by simp; intro hh; rw [hh] at h1; exact h1 rfl) ?_
    by_cases h2 : (offS (oC c)).hi < x.Lo
    · rw [if_pos (.inr h2)]; exact Ok.yes (decide_eq_true h2) (Ok.some rfl)
    · rw [if_neg (fun hh => hh.elim h1 h2)]
      refine Ok.no (decide_eq_false h2) ?_
      by_cases h3 : (offS (oC c)).lo ≥ x.Hi
      · rw [if_pos h3]; exact Ok.yes (decide_eq_true h3) (Ok.some rfl)
      · rw [if_neg h3]; exact Ok.no (decide_eq_false h3) (Ok.some rfl)
theorem ask_zero {c : Convoy} {x : Span} (h : askErr c x = 0) : chkConvoy (oC c) = 0 ∧ 0 ≤ x.Lo ∧ x.Lo ≤ x.Hi ∧ x.Hi ≤ 30000 := by
  unfold askErr spanErr at h
  split at h
  · rename_i h1; exact absurd h h1
  · rename_i h1
    split at h
    · omega
    · split at h
      · omega
      · exact ⟨Classical.not_not.1 h1, by omega, by omega, by omega⟩
theorem pSafe_sp (c : Convoy) (x : Span) : pSafe c x = some (safeS c x) := by
  rw [pSafe_eq]; apply ok_eq
  refine Ok.beq (asked_sp c x) ?_
  by_cases h : askErr c x = 0
  · refine Ok.no (by simp [h]) (Ok.beq (a := nS (offS (oC c))) ?_ (safe_tail h))
    have hv := (ask_zero h).1
    rw [poff_eq, hv, offPS (cr_of hv)]; rfl
  · refine Ok.yes (by simp [h]) (Ok.some ?_)
    unfold safeS; rw [if_pos h]
theorem err_split (c : Convoy) (x : Span) {R : Type} {P : R → Prop} {f : Int → R} {k : Option R} (h1 : askErr c x ≠ 0 → P (f (askErr c x))) (h2 : askErr c x = 0 → Ok P k) :
    Ok P ((rCheck c).bind fun r => bif (r != 0) then some (f r) else (checkSpan x).bind fun r2 => bif (r2 != 0) then some (f r2) else k) := by
  refine Ok.beq (rCheck_eq c) ?_
  by_cases h : chkConvoy (oC c) = 0
  · refine Ok.no (by simpa using h) (Ok.beq (checkSpan_sp x) ?_)
    have e : askErr c x = spanErr x := by unfold askErr; rw [if_neg (fun hh => hh h)]
    rw [e] at h1 h2
    by_cases h3 : spanErr x = 0
    · exact Ok.no (by simpa using h3) (h2 h3)
    · exact Ok.yes (by simpa using h3) (Ok.some (h1 h3))
  · have e : askErr c x = chkConvoy (oC c) := by unfold askErr; rw [if_pos h]
    rw [e] at h1
    exact Ok.yes (by simpa using h) (Ok.some (h1 h))
theorem rSafe_sp (c : Convoy) (x : Span) : rSafe c x = some (safeS c x) := by
  rw [rSafe_eq]; apply ok_eq
  refine err_split c x (f := fun r => ((0 : Int), r)) (fun h => ?_) fun h => ?_
  · unfold safeS; rw [if_pos h]
  · refine Ok.beq (a := nS (offS (oC c))) ?_ (safe_tail h)
    have hv := (ask_zero h).1
    rw [rOff__eq, hv]; rfl
section
open Classical
def av (c : Convoy) (t : Truck) (m : Int) : Int := (laneP (oT t) c.Length m).2
def bv (c : Convoy) (t : Truck) (m : Int) : Int := if c.Fails > 0 then (laneP (oT (frN t true)) c.Length m).2 else av c t m
def inS (x : Span) (P : Int → Prop) : Prop := ∃ m, x.Lo ≤ m ∧ m ≤ x.Hi ∧ P m
def sureP (c : Convoy) (t : Truck) (m : Int) : Prop := av c t m = 1 ∧ bv c t m = 1
def mayP (c : Convoy) (t : Truck) (m : Int) : Prop := av c t m ≠ 2 ∨ bv c t m ≠ 2
noncomputable def caughtS (c : Convoy) (t : Truck) (x : Span) : Int := if inS x (sureP c t) then 1 else if inS x (mayP c t) then 3 else 2
end
theorem rcaught_sp {c : Convoy} {t : Truck} (h : ROk c.Length (oT t)) {x : Span} (x0 : 0 ≤ x.Lo) (x2 : x.Hi ≤ 30000) (x1 : x.Lo ≤ x.Hi) : rcaught c t x = some (caughtS c t x) := by
  rw [rcaught_eq]; apply ok_eq
  have hf : ROk c.Length (oT (frN t true)) := by rw [oT_frN]; exact h.free true
  obtain ⟨lo, hi⟩ := x
  simp only at x0 x1 x2
  obtain ⟨e, rfl⟩ : ∃ e : Nat, hi = e := ⟨hi.toNat, by omega⟩
  refine Ok.beq (ways_sp h (by omega)) (Ok.beq (free_sp t true) (Ok.beq (ways_sp hf (by omega)) ?_))
  refine Ok.rounds (fun v => lo ≤ v.1.2.2.2.2.1 ∧ v.1.2.2.2.2.1 ≤ (e : Int) + 1 ∧ (∀ m, lo ≤ m → m < v.1.2.2.2.2.1 → ¬ sureP c t m) ∧ ((v.1.2.2.2.1 = 3 ∧ inS ⟨lo, v.1.2.2.2.2.1 - 1⟩ (mayP c t)) ∨ (v.1.2.2.2.1 = 2 ∧ ∀ m, lo ≤ m → m < v.1.2.2.2.2.1 → ¬ mayP c t m))) (fun v => ((e : Int) + 1 - v.1.2.2.2.2.1).toNat) ?_ ?_ ?_
  · show ((e : Int) + 1 - lo).toNat < 18446744073709551616
    omega
  · exact ⟨Int.le_refl _, by show lo ≤ (e : Int) + 1; omega, fun m a b => by simp only at b; omega, .inr ⟨rfl, fun m a b => by simp only at b; omega⟩⟩
  rintro ⟨⟨_, _, _, out, m, _⟩, _⟩ kn ⟨i1, i2, i3, i4⟩ hk
  simp only at i1 i2 i3 i4 ⊢
  have e1 : w64 (m + 1) = m + 1 := w64_id (by omega) (by omega)
  refine Ok.ite (fun hlt => ?_) fun hge => Ok.some ?_
  · have hlt : m ≤ (e : Int) := of_decide_eq_true hlt
    obtain ⟨k, rfl⟩ : ∃ k : Nat, m = k := ⟨m.toNat, by omega⟩
    have nmay : mayP c t k → ¬ sureP c t k → Ok (fun b => b = caughtS c t ⟨lo, e⟩) (kn (((), (), (), 3, w64 ((k : Int) + 1), ()), ())) := fun hm hs => by
      refine hk _ ?_ (by simp only [e1]; omega)
      simp only [e1]
      refine ⟨by omega, by omega, fun m a b => ?_, .inl ⟨trivial, k, by simp only; omega, by simp only; omega, hm⟩⟩
      by_cases em : m = k
      · rw [em]; exact hs
      · exact i3 m a (by omega)
    have nout : ¬ mayP c t k → Ok (fun b => b = caughtS c t ⟨lo, e⟩) (kn (((), (), (), out, w64 ((k : Int) + 1), ()), ())) := fun hm => by
      have hs : ¬ sureP c t k := fun hh => hm (.inl (by rw [hh.1]; decide))
      refine hk _ ?_ (by simp only [e1]; omega)
      simp only [e1]
      refine ⟨by omega, by omega, fun m a b => ?_, ?_⟩
      · by_cases em : m = k
        · rw [em]; exact hs
        · exact i3 m a (by omega)
      · rcases i4 with ⟨a, m', b1, b2, b3⟩ | ⟨a, b⟩
        · exact .inl ⟨a, m', b1, by simp only at b2 ⊢; omega, b3⟩
        · refine .inr ⟨a, fun m a b' => ?_⟩
          by_cases em : m = k
          · rw [em]; exact hm
          · exact b m a (by omega)
    have hsure : sureP c t k → caughtS c t ⟨lo, e⟩ = 1 := fun hs => by unfold caughtS; rw [if_pos ⟨k, by simp only; omega, by simp only; omega, hs⟩]
    have hb : (decide (0 ≤ (k : Int)) && decide ((k : Int) < ((((List.range (e + 1)).map fun i => nS (wayR (oT t) c.Length i)).length : Nat) : Int))) = true := ib (by omega) (by simp; omega)
    have hb2 : (decide (0 ≤ (k : Int)) && decide ((k : Int) < ((((List.range (e + 1)).map fun i => nS (wayR (oT (frN t true)) c.Length i)).length : Nat) : Int))) = true := ib (by omega) (by simp; omega)
    refine Ok.chk hb ?_
    rw [Int.toNat_natCast, getD_range _ _ (by omega)]
    refine Ok.beq (rlane_sp h k) ?_
    have ha : (laneP (oT t) c.Length k).2 = av c t k := rfl
    rw [ha]
    by_cases hF : c.Fails > 0
    · refine Ok.yes (decide_eq_true hF) (Ok.beq (free_sp t true) (Ok.chk hb2 ?_))
      rw [getD_range _ _ (by omega)]
      refine Ok.beq (rlane_sp hf k) ?_
      have hbv : (laneP (oT (frN t true)) c.Length k).2 = bv c t k := by unfold bv; rw [if_pos hF]
      rw [hbv]
      have tail : ¬ sureP c t k → Ok (fun b => b = caughtS c t ⟨lo, e⟩) (bif (av c t k != 2) then kn (((), (), (), 3, w64 ((k : Int) + 1), ()), ()) else bif (bv c t k != 2) then kn (((), (), (), 3, w64 ((k : Int) + 1), ()), ()) else kn (((), (), (), out, w64 ((k : Int) + 1), ()), ())) := fun hs =>
        Ok.ite (fun h => nmay (.inl (bne_iff_ne.1 h)) hs) fun h => Ok.ite (fun h => nmay (.inr (bne_iff_ne.1 h)) hs) fun h2 => nout fun hm => hm.elim (fun x => x (bne_eq_false_iff_eq.1 h)) (fun x => x (bne_eq_false_iff_eq.1 h2))
      refine Ok.ite (fun h1 => Ok.ite (fun h2 => Ok.some (hsure ⟨beq_iff_eq.1 h1, beq_iff_eq.1 h2⟩).symm) fun h2 => tail fun hs => beq_eq_false_iff_ne.1 h2 hs.2) fun h1 => tail fun hs => beq_eq_false_iff_ne.1 h1 hs.1
    · refine Ok.no (decide_eq_false hF) ?_
      have hbv : bv c t k = av c t k := by unfold bv; rw [if_neg hF]
      have tail : ¬ sureP c t k → Ok (fun b => b = caughtS c t ⟨lo, e⟩) (bif (av c t k != 2) then kn (((), (), (), 3, w64 ((k : Int) + 1), ()), ()) else bif (av c t k != 2) then kn (((), (), (), 3, w64 ((k : Int) + 1), ()), ()) else kn (((), (), (), out, w64 ((k : Int) + 1), ()), ())) := fun hs =>
        Ok.ite (fun h => nmay (.inl (bne_iff_ne.1 h)) hs) fun h => Ok.ite (fun h => nmay (.inl (bne_iff_ne.1 h)) hs) fun h2 => nout fun hm => hm.elim (fun x => x (bne_eq_false_iff_eq.1 h)) (fun x => x (hbv.trans (bne_eq_false_iff_eq.1 h)))
      refine Ok.ite (fun h1 => Ok.ite (fun h2 => Ok.some (hsure ⟨beq_iff_eq.1 h1, hbv.trans (beq_iff_eq.1 h1)⟩).symm) fun h2 => tail fun hs => beq_eq_false_iff_ne.1 h2 hs.1) fun h1 => tail fun hs => beq_eq_false_iff_ne.1 h1 hs.1
  · have hge : ¬ m ≤ (e : Int) := of_decide_eq_false hge
    unfold caughtS
    have hm : m = (e : Int) + 1 := by omega
    subst hm
    rw [if_neg (fun ⟨m, a, b, d⟩ => i3 m a (by simp only at b; omega) d)]
    rcases i4 with ⟨a, m', b1, b2, b3⟩ | ⟨a, b⟩
    · rw [if_pos ⟨m', b1, by simp only at b2 ⊢; omega, b3⟩]; exact a
    · rw [if_neg (fun ⟨m, a, b', d⟩ => b m a (by simp only at b'; omega) d)]; exact a
noncomputable def caughtL (c : Convoy) (x : Span) : List Int × Int := if askErr c x ≠ 0 then ([], askErr c x) else (c.Trucks.map fun t => caughtS c t x, 0)
theorem map_take {α β : Type} (f : α → β) (d : α) (l : List α) {n : Nat} (h : n < l.length) : (List.range n).map (fun i => f (l.getD i d)) ++ [f (l.getD n d)] = (List.range (n + 1)).map fun i => f (l.getD i d) := range_snoc _ n
theorem map_all {α β : Type} (f : α → β) (d : α) (l : List α) : (List.range l.length).map (fun i => f (l.getD i d)) = l.map f := by
  conv => rhs; rw [eq_range d (l := l), List.map_map]
  rfl
theorem rCaught_sp (c : Convoy) (x : Span) : rCaught c x = some (caughtL c x) := by
  rw [rCaught_eq]; apply ok_eq
  refine err_split c x (f := fun r => (([] : List Int), r)) (fun h => ?_) fun h => ?_
  · unfold caughtL; rw [if_pos h]
  obtain ⟨hv, x0, x1, x2⟩ := ask_zero h
  have hf := few hv
  refine Ok.rounds (fun v => ∃ k : Nat, k ≤ c.Trucks.length ∧ v.1.2.2.2.1 = (k : Int) ∧ v.1.2.2.1 = (List.range k).map fun i => caughtS c (c.Trucks.getD i dfltTruck) x) (fun v => ((c.Trucks.length : Int) - v.1.2.2.2.1).toNat) ?_ ?_ ?_
  · show ((c.Trucks.length : Int) - 0).toNat < 18446744073709551616
    omega
  · exact ⟨0, Nat.zero_le _, rfl, rfl⟩
  rintro ⟨⟨_, _, out, i, _⟩, _⟩ kn ⟨k, k1, k2, k3⟩ hk
  simp only at k2 k3 ⊢
  subst k2 k3
  have ek : w64 ((k : Int) + 1) = ((k + 1 : Nat) : Int) := by rw [w64_id (by omega) (by omega)]; push_cast; rfl
  refine Ok.ite (fun hlt => ?_) fun hge => Ok.some ?_
  · have hlt : k < c.Trucks.length := by have := of_decide_eq_true hlt; omega
    refine Ok.chk (ib (by omega) (by omega)) (Ok.beq (rcaught_sp (rok_ hv hlt) x0 x2 x1) (Ok.chk (fitA_ok (by simp; omega) (by omega)) (hk _ ⟨k + 1, by omega, ek, ?_⟩ (by simp only [ek]; omega))))
    exact map_take (fun t => caughtS c t x) dfltTruck c.Trucks hlt
  · have hge : k = c.Trucks.length := by have := of_decide_eq_false hge; omega
    subst hge
    unfold caughtL
    rw [if_neg (fun hh => hh h), map_all (fun t => caughtS c t x)]
theorem l13_eq : @pCaught_L13__2 = @pCaught_L13 := rfl
/-- A minute of a truck's tracks. -/
theorem l17_ok {P : List Int × Int → Prop} {all : List Track} (hall : all.length ≤ 10) {m : Int} (V : Nat → Int) (hV : ∀ i, i < all.length → ∃ s, trackLane (all.getD i dfltTrack) m = some (s, V i)) (sure may : Bool) (kn : List Track → Bool → Bool → Int → Option (List Int × Int))
    (hk : Ok P (kn all (sure || decide (∀ i, i < all.length → V i = 1)) (may || !decide (∀ i, i < all.length → V i = 2)) (w64 (m + 1)))) :
    Ok P (itN _ (fun (v_0 : (Unit × Unit × Unit × Bool × Bool × Int × Unit) × (Unit)) kn2 => pCaught_L17 all m sure kn v_0.1.2.2.2.1 v_0.1.2.2.2.2.1 v_0.1.2.2.2.2.2.1 (fun y0 y1 y2 => kn2 (((), (), (), y0, y1, y2, ()), (())))) (((), (), (), may, true, 0, ()), (()))) := by
  refine Ok.rounds (fun v => ∃ k : Nat, k ≤ all.length ∧ v.1.2.2.2.2.2.1 = (k : Int) ∧ v.1.2.2.2.2.1 = decide (∀ i, i < k → V i = 1) ∧ v.1.2.2.2.1 = (may || !decide (∀ i, i < k → V i = 2))) (fun v => ((all.length : Int) - v.1.2.2.2.2.2.1).toNat) ?_ ?_ ?_
  · show ((all.length : Int) - 0).toNat < 18446744073709551616
    omega
  · exact ⟨0, Nat.zero_le _, rfl, by simp, by simp⟩
  rintro ⟨⟨_, _, _, may2, each, i, _⟩, _⟩ kn2 ⟨k, k1, k2, k3, k4⟩ hk2
  simp only at k2 k3 k4 ⊢
  subst k2 k3 k4
  have ek : w64 ((k : Int) + 1) = ((k + 1 : Nat) : Int) := by rw [w64_id (by omega) (by omega)]; push_cast; rfl
  refine Ok.ite (fun hlt => ?_) fun hge => ?_
  · have hlt : k < all.length := by have := of_decide_eq_true hlt; omega
    obtain ⟨s, hs⟩ := hV k hlt
    have one : ∀ a : Int, (∀ i, i < k + 1 → V i = a) ↔ ((∀ i, i < k → V i = a) ∧ V k = a) := fun a =>
      ⟨fun h => ⟨fun i hi => h i (by omega), h k (by omega)⟩, fun h i hi => by
        by_cases e : i = k
        · rw [e]; exact h.2
        · exact h.1 i (by omega)⟩
    refine Ok.chk (ib (by omega) (by omega)) ?_
    rw [Int.toNat_natCast]
    refine Ok.beq hs ?_
    have fin : ∀ a b : Bool, a = (may || !decide (∀ i, i < k + 1 → V i = 2)) → b = decide (∀ i, i < k + 1 → V i = 1) → Ok P (kn2 (((), (), (), a, b, w64 ((k : Int) + 1), ()), ())) := fun a b ha hb =>
      hk2 _ ⟨k + 1, by omega, ek, hb, ha⟩ (by simp only [ek]; omega)
    have hb1 : decide (∀ i, i < k + 1 → V i = 1) = (decide (∀ i, i < k → V i = 1) && (V k == 1)) := by
      rw [Bool.eq_iff_iff]; simp only [Bool.and_eq_true, decide_eq_true_eq, beq_iff_eq]; exact one 1
    have hb2 : decide (∀ i, i < k + 1 → V i = 2) = (decide (∀ i, i < k → V i = 2) && (V k == 2)) := by
      rw [Bool.eq_iff_iff]; simp only [Bool.and_eq_true, decide_eq_true_eq, beq_iff_eq]; exact one 2
    rw [hb1, hb2] at fin
    generalize decide (∀ i, i < k → V i = 1) = D1 at fin ⊢
    generalize decide (∀ i, i < k → V i = 2) = D2 at fin ⊢
    have m1 : (may || !D2) = true → true = (may || !(D2 && (V k == 2))) := by
      cases may <;> cases D2 <;> cases (V k == 2) <;> simp
    have m2 : (may || !D2) = false → (V k != 2) = (may || !(D2 && (V k == 2))) := by
      unfold bne
      cases may <;> cases D2 <;> cases (V k == 2) <;> simp
    cases D1 with
    | true => exact Ok.yes rfl (Ok.ite (fun h => fin _ _ (m1 h) (Bool.true_and _).symm) fun h => fin _ _ (m2 h) (Bool.true_and _).symm)
    | false => exact Ok.no rfl (Ok.ite (fun h => fin _ _ (m1 h) rfl) fun h => fin _ _ (m2 h) rfl)
  · have hge : k = all.length := by have := of_decide_eq_false hge; omega
    subst hge
    cases sure with
    | true => exact Ok.yes rfl (by simpa using hk)
    | false => exact Ok.no rfl (by simpa using hk)
theorem after_end {c : Convoy} {t : Truck} (h : ROk c.Length (oT t)) {m : Int} (hm : t.Start + (hitN t c.Length : Int) < m) : av c t m = 2 ∧ bv c t m = 2 := by
  have a : ∀ b, (laneP (oT (frN t b)) c.Length m).2 = 2 := fun b => by
    have hr : ROk c.Length (oT (frN t b)) := by rw [oT_frN]; exact h.free b
    refine (lane_two hr).2 fun g => ?_
    rw [oT_frN]
    exact lane_end h b (by show t.Start + (hitN t c.Length : Int) ≤ m; omega) g
  refine ⟨a false, ?_⟩
  unfold bv
  split
  · exact a true
  · exact a false
open Classical in
theorem l13_ok {P : List Int × Int → Prop} {c : Convoy} {t : Truck} (h : ROk c.Length (oT t)) {x : Span} (x0 : 0 ≤ x.Lo) (x2 : x.Hi ≤ 30000) (x1 : x.Lo ≤ x.Hi) {all : List Track} (ha : all = if c.Fails > 0 then [trk ⟨t, c.Length⟩, trk ⟨frN t true, c.Length⟩] else [trk ⟨t, c.Length⟩])
    {out : List Int} (hout : out.length ≤ 1000) (i : Int) (kn : List Int → Int → Option (List Int × Int)) (hk : Ok P (kn (out ++ [caughtS c t x]) (w64 (i + 1)))) :
    Ok P (itN _ (fun (v_0 : (Unit × Unit × Unit × (List Track) × Bool × Bool × Int × Unit) × (Unit)) kn2 => pCaught_L13 itN x out kn i v_0.1.2.2.2.1 v_0.1.2.2.2.2.1 v_0.1.2.2.2.2.2.1 v_0.1.2.2.2.2.2.2.1 (fun y0 y1 y2 y3 => kn2 (((), (), (), y0, y1, y2, y3, ()), (())))) (((), (), (), all, false, false, x.Lo, ()), (()))) := by
  have hf : ROk c.Length (oT (frN t true)) := by rw [oT_frN]; exact h.free true
  have s1 : 0 ≤ t.Start := h.s1
  have s2 : t.Start ≤ 10000 := h.s2
  have hK := hitN_le (r := ⟨t, c.Length⟩) h
  simp only at hK
  have hlen : 1 ≤ all.length ∧ all.length ≤ 2 := by rw [ha]; split <;> simp
  have h0 : all.getD 0 dfltTrack = trk ⟨t, c.Length⟩ := by rw [ha]; split <;> rfl
  -- what a minute says
  have hmin : ∀ m : Int, 0 ≤ m → m ≤ 30000 → ∃ V : Nat → Int, (∀ i, i < all.length → ∃ s, trackLane (all.getD i dfltTrack) m = some (s, V i)) ∧ ((∀ i, i < all.length → V i = 1) ↔ sureP c t m) ∧ ((∀ i, i < all.length → V i = 2) ↔ ¬ mayP c t m) := fun m m0 m1 => by
    have e1 := trackLane_sp (r := ⟨t, c.Length⟩) h (m := m) (by omega) (by omega)
    have e2 := trackLane_sp (r := ⟨frN t true, c.Length⟩) hf (m := m) (by omega) (by omega)
    by_cases hF : c.Fails > 0
    · rw [if_pos hF] at ha
      have hbv : bv c t m = (laneP (oT (frN t true)) c.Length m).2 := by unfold bv; rw [if_pos hF]
      have two : ∀ {p : Nat → Prop}, (∀ i, i < all.length → p i) ↔ p 0 ∧ p 1 := fun {p} => by
        rw [ha]
        exact ⟨fun hh => ⟨hh 0 (by simp), hh 1 (by simp)⟩, fun hh i hi => by
          simp only [List.length_cons, List.length_nil] at hi
          obtain rfl | rfl : i = 0 ∨ i = 1 := by omega
          · exact hh.1
          · exact hh.2⟩
      refine ⟨fun i => if i = 0 then av c t m else bv c t m, ?_, ?_, ?_⟩
      · rw [two, ha]
        refine ⟨⟨_, e1⟩, ⟨nS (laneP (oT (frN t true)) c.Length m).1, ?_⟩⟩
        simp only [Nat.one_ne_zero, if_false]
        rw [hbv]; exact e2
      · rw [two]; simp [sureP]
      · rw [two]; simp [mayP]
    · rw [if_neg hF] at ha
      have hbv : bv c t m = av c t m := by unfold bv; rw [if_neg hF]
      have one : ∀ {p : Nat → Prop}, (∀ i, i < all.length → p i) ↔ p 0 := fun {p} => by
        rw [ha]
        exact ⟨fun hh => hh 0 (by simp), fun hh i hi => by
          simp only [List.length_cons, List.length_nil] at hi
          obtain rfl : i = 0 := by omega
          exact hh⟩
      refine ⟨fun i => av c t m, ?_, ?_, ?_⟩
      · rw [one, ha]; exact ⟨_, e1⟩
      · rw [one]; unfold sureP; rw [hbv]; simp
      · rw [one]; unfold mayP; rw [hbv]; simp
  refine Ok.rounds (γ := (Unit × Unit × Unit × (List Track) × Bool × Bool × Int × Unit) × Unit) (fun v => v.1.2.2.2.1 = all ∧ x.Lo ≤ v.1.2.2.2.2.2.2.1 ∧ v.1.2.2.2.2.2.2.1 ≤ x.Hi + 1 ∧ v.1.2.2.2.2.1 = decide (inS ⟨x.Lo, v.1.2.2.2.2.2.2.1 - 1⟩ (sureP c t)) ∧ v.1.2.2.2.2.2.1 = decide (inS ⟨x.Lo, v.1.2.2.2.2.2.2.1 - 1⟩ (mayP c t))) (fun v => (x.Hi + 1 - v.1.2.2.2.2.2.2.1).toNat) ?_ ?_ ?_
  · show (x.Hi + 1 - x.Lo).toNat < 18446744073709551616
    omega
  · refine ⟨rfl, Int.le_refl _, by show x.Lo ≤ x.Hi + 1; omega, ?_, ?_⟩
    · exact (decide_eq_false fun ⟨m, a, b, _⟩ => by simp only at a b; omega).symm
    · exact (decide_eq_false fun ⟨m, a, b, _⟩ => by simp only at a b; omega).symm
  rintro ⟨⟨_, _, _, all', sure, may, m, _⟩, _⟩ kn2 ⟨j1, j2, j3, j4, j5⟩ hk2
  simp only at j1 j2 j3 j4 j5 ⊢
  subst j1
  have em : w64 (m + 1) = m + 1 := w64_id (by omega) (by omega)
  refine Ok.chk (by simp; omega) ?_
  rw [h0]
  refine Ok.beq (trackEnd_sp (r := ⟨t, c.Length⟩) h) (Ok.ite (fun hlt => ?_) fun hge => ?_)
  · have hlt : m ≤ min x.Hi (t.Start + (hitN t c.Length : Int)) := of_decide_eq_true hlt
    obtain ⟨V, hV, v1, v2⟩ := hmin m (by omega) (by omega)
    refine l17_ok (by omega) V hV _ _ (fun y0 y1 y2 y3 => kn2 (((), (), (), y0, y1, y2, y3, ()), ())) (hk2 _ ?_ (by simp only [em]; omega))
    simp only [em]
    have grow : ∀ Q : Int → Prop, inS ⟨x.Lo, m + 1 - 1⟩ Q ↔ inS ⟨x.Lo, m - 1⟩ Q ∨ Q m := fun Q => by
      unfold inS
      constructor
      · rintro ⟨m', a, b, d⟩
        simp only at a b
        by_cases e : m' = m
        · subst e; exact .inr d
        · exact .inl ⟨m', a, by simp only; omega, d⟩
      · rintro (⟨m', a, b, d⟩ | d)
        · exact ⟨m', a, by simp only at b ⊢; omega, d⟩
        · exact ⟨m, j2, by simp only; omega, d⟩
    refine ⟨trivial, by omega, by omega, ?_, ?_⟩
    · rw [j4, Bool.eq_iff_iff]
      simp only [Bool.or_eq_true, decide_eq_true_eq]
      rw [grow, v1]
    · rw [j5, Bool.eq_iff_iff]
      simp only [Bool.or_eq_true, decide_eq_true_eq, Bool.not_eq_true', decide_eq_false_iff_not]
      rw [grow, v2, Classical.not_not]
  · have hge : ¬ m ≤ min x.Hi (t.Start + (hitN t c.Length : Int)) := of_decide_eq_false hge
    have rest : ∀ Q : Int → Prop, (∀ m', t.Start + (hitN t c.Length : Int) < m' → ¬ Q m') → (inS ⟨x.Lo, m - 1⟩ Q ↔ inS x Q) := fun Q hQ => by
      constructor
      · rintro ⟨m', a, b, d⟩
        simp only at a b
        exact ⟨m', a, by omega, d⟩
      · rintro ⟨m', a, b, d⟩
        refine ⟨m', a, ?_, d⟩
        simp only
        refine Classical.byContradiction fun hn => hQ m' (by omega) d
    have r1 := rest (sureP c t) fun m' hm' hs => by have := (after_end h hm').1; rw [hs.1] at this; cases this
    have r2 := rest (mayP c t) fun m' hm' hs => hs.elim (fun z => z (after_end h hm').1) (fun z => z (after_end h hm').2)
    have hfit : fitA (out.length + 1) 8 = true := fitA_ok (by omega) (by omega)
    have j6 : sure = decide (inS x (sureP c t)) := by rw [j4, Bool.eq_iff_iff]; simp only [decide_eq_true_eq]; exact r1
    have j7 : may = decide (inS x (mayP c t)) := by rw [j5, Bool.eq_iff_iff]; simp only [decide_eq_true_eq]; exact r2
    rw [j6, j7]
    unfold caughtS at hk
    by_cases q1 : inS x (sureP c t)
    · rw [if_pos q1] at hk
      exact Ok.yes (decide_eq_true q1) (Ok.chk hfit hk)
    · rw [if_neg q1] at hk
      refine Ok.no (decide_eq_false q1) ?_
      by_cases q2 : inS x (mayP c t)
      · rw [if_pos q2] at hk
        exact Ok.yes (decide_eq_true q2) (Ok.chk hfit hk)
      · rw [if_neg q2] at hk
        exact Ok.no (decide_eq_false q2) (Ok.chk hfit hk)
theorem pCaught_sp (c : Convoy) (x : Span) : pCaught c x = some (caughtL c x) := by
  rw [pCaught_eq]; apply ok_eq
  refine Ok.beq (asked_sp c x) ?_
  by_cases h : askErr c x = 0
  rotate_left 1
  · refine Ok.yes (by simp [h]) (Ok.some ?_); unfold caughtL; rw [if_pos h]
  refine Ok.no (by simp [h]) ?_
  obtain ⟨hv, x0, x1, x2⟩ := ask_zero h
  have hf := few hv
  refine Ok.rounds (fun v => ∃ k : Nat, k ≤ c.Trucks.length ∧ v.1.2.2.2.1 = (k : Int) ∧ v.1.2.2.1 = (List.range k).map fun i => caughtS c (c.Trucks.getD i dfltTruck) x) (fun v => ((c.Trucks.length : Int) - v.1.2.2.2.1).toNat) ?_ ?_ ?_
  · show ((c.Trucks.length : Int) - 0).toNat < 18446744073709551616
    omega
  · exact ⟨0, Nat.zero_le _, rfl, rfl⟩
  rintro ⟨⟨_, _, out, i, _⟩, _⟩ kn ⟨k, k1, k2, k3⟩ hk
  simp only at k2 k3 ⊢
  subst k2 k3
  have ek : w64 ((k : Int) + 1) = ((k + 1 : Nat) : Int) := by rw [w64_id (by omega) (by omega)]; push_cast; rfl
  refine Ok.ite (fun hlt => ?_) fun hge => Ok.some ?_
  · have hlt : k < c.Trucks.length := by have := of_decide_eq_true hlt; omega
    have hr := rok_ hv hlt
    have hr2 := rokF hv hlt true
    have nxt : Ok (fun y => y = caughtL c x) (kn (((), (), ((List.range k).map fun i => caughtS c (c.Trucks.getD i dfltTruck) x) ++ [caughtS c (c.Trucks.getD k dfltTruck) x], w64 ((k : Int) + 1), ()), ())) :=
      hk _ ⟨k + 1, by omega, ek, map_take (fun t => caughtS c t x) dfltTruck c.Trucks hlt⟩ (by simp only [ek]; omega)
    refine Ok.beq (rideOf_sp hlt false) (Ok.beq (trackOf_sp (r := ⟨c.Trucks.getD k dfltTruck, c.Length⟩) hr) ?_)
    by_cases hF : c.Fails > 0
    · refine Ok.yes (decide_eq_true hF) (Ok.beq (rideOf_sp hlt true) (Ok.beq (trackOf_sp (r := ⟨frN (c.Trucks.getD k dfltTruck) true, c.Length⟩) hr2) (Ok.chk (fitA_ok (n := 2) (by omega) (by omega)) ?_)))
      exact l13_ok hr x0 x2 x1 (by rw [if_pos hF]; rfl) (by simp; omega) (k : Int) (fun y0 y1 => kn (((), (), y0, y1, ()), ())) nxt
    · refine Ok.no (decide_eq_false hF) ?_
      rw [l13_eq]
      exact l13_ok hr x0 x2 x1 (by rw [if_neg hF]) (by simp; omega) (k : Int) (fun y0 y1 => kn (((), (), y0, y1, ()), ())) nxt
  · have hge : k = c.Trucks.length := by have := of_decide_eq_false hge; omega
    subst hge
    unfold caughtL
    rw [if_neg (fun hh => hh h), map_all (fun t => caughtS c t x)]
theorem caught_len {c : Convoy} {x : Span} : (caughtL c x).1.length ≤ 20 := by
  unfold caughtL
  by_cases h : askErr c x = 0
  · rw [if_neg (fun hh => hh h)]
    have := few (ask_zero h).1
    simpa using this
  · rw [if_pos h]; simp
theorem SpanOf_ok (s : Seed) {low high : Int} (h1 : 0 ≤ low) (h2 : low ≤ high) (h3 : high ≤ 100000) : Ok (fun _ => True) (SpanOf s low high) := by
  rw [SpanOf_eq]
  refine Ok.bind (From_ok s (by omega) (by omega) (by omega) (by omega)) fun r hr => Ok.bind (Below_ok _ (by omega)) fun r2 hr2 => ?_
  refine Ok.ite (fun _ => ?_) fun _ => Ok.ite (fun _ => ?_) fun _ => Ok.some trivial
  · have e1 : w64 (r.2 + 1) = r.2 + 1 := w64_id (by omega) (by omega)
    have e2 : w64 (high - low) = high - low := w64_id (by omega) (by omega)
    have e3 : (high - low).tdiv 10 = (high - low) / 10 := Int.tdiv_eq_ediv_of_nonneg (by omega)
    have e4 : w64 ((high - low) / 10) = (high - low) / 10 := w64_id (by omega) (by omega)
    have e5 : w64 (r.2 + 1 + (high - low) / 10) = r.2 + 1 + (high - low) / 10 := w64_id (by omega) (by omega)
    rw [e1, e2, e3, e4, e5]
    exact Ok.bind (From_ok _ (by omega) (by omega) (by omega) (by omega)) fun r3 _ => Ok.some trivial
  · exact Ok.bind (From_ok _ (by omega) (by omega) (by omega) (by omega)) fun r3 _ => Ok.some trivial
theorem off_same (c : Convoy) : nS (if chkConvoy (oC c) = 0 then offP (oC c) else default) = nS (if chkConvoy (oC c) = 0 then offS (oC c) else default) := by
  by_cases h : chkConvoy (oC c) = 0
  · rw [if_pos h, if_pos h, offPS (cr_of h)]
  · rw [if_neg h, if_neg h]
theorem offs_loop {c made : Convoy} {breakup storm x1 x2 : Span} : Ok (fun b => b = true) (itN _ (fun (v_0 : (Unit × Unit × Unit × Int × Unit) × (Unit)) kn => ConvoyOffs_L7 c (⟨0⟩, made) breakup (⟨0⟩, x1) storm (⟨0⟩, x2) v_0.1.2.2.2.1 (fun y0 => kn (((), (), (), y0, ()), (())))) (((), (), (), 0, ()), (()))) := by
  refine Ok.rounds (fun v => 0 ≤ v.1.2.2.2.1 ∧ v.1.2.2.2.1 ≤ 3) (fun v => (3 - v.1.2.2.2.1).toNat) ?_ ?_ ?_
  · show (3 - (0 : Int)).toNat < 18446744073709551616
    omega
  · simp
  rintro ⟨⟨_, _, _, i, _⟩, _⟩ kn hi hk
  simp only at hi ⊢
  refine Ok.ite (fun hlt => ?_) fun _ => ?_
  · simp only [decide_eq_true_eq] at hlt
    have e : w64 (i + 1) = i + 1 := w64_id (by omega) (by omega)
    have hlt3 : i < 3 := by simpa using hlt
    have b1 : (decide (0 ≤ i) && decide (i < ((([c, made, made] : List Convoy).length : Nat) : Int))) = true := by simp; omega
    have b2 : (decide (i.toNat < ([c, made, made] : List Convoy).length)) = true := by simp; omega
    have d1 : (decide (0 ≤ i) && decide (i < ((([breakup, x1, breakup] : List Span).length : Nat) : Int))) = true := by simp; omega
    have d2 : (decide (i.toNat < ([breakup, x1, breakup] : List Span).length)) = true := by simp; omega
    have f1 : (decide (0 ≤ i) && decide (i < ((([storm, x2, storm] : List Span).length : Nat) : Int))) = true := by simp; omega
    have f2 : (decide (i.toNat < ([storm, x2, storm] : List Span).length)) = true := by simp; omega
    refine Ok.chk b1 (Ok.chk b2 (Ok.beq (pOff_eq _) (Ok.chk b1 (Ok.chk b2 (Ok.beq (rOff_eq _) (Ok.chk b1 (Ok.chk b2 (Ok.chk d1 (Ok.chk d2 (Ok.beq (pSafe_sp _ _) (Ok.chk b1 (Ok.chk b2 (Ok.chk d1 (Ok.chk d2 (Ok.beq (rSafe_sp _ _) ?_)))))))))))))))
    refine Ok.chk b1 (Ok.chk b2 (Ok.chk f1 (Ok.chk f2 (Ok.beq (pCaught_sp _ _) (Ok.chk b1 (Ok.chk b2 (Ok.chk f1 (Ok.chk f2 (Ok.beq (rCaught_sp _ _) ?_)))))))))
    rw [off_same]
    refine Ok.no (by rw [spanE]; simp) (Ok.no (by simp) (Ok.no (by simp) (Ok.no (by simp) (Ok.no (by simp) (Ok.beq (Same_refl (Nat.le_trans caught_len (by omega))) (Ok.no rfl (hk _ ?_ ?_)))))))
    · simp only [e]; omega
    · simp only [e]; omega
  · rw [awake_eq]; exact Ok.bind (Ok.some (P := fun b => b = true) rfl) fun b hb => Ok.some hb
theorem offs_l7 : @ConvoyOffs_L7__2 = @ConvoyOffs_L7 := rfl
theorem offs_loop2 {c : Convoy} {r5 : Seed × Convoy} {breakup storm : Span} {r6 r7 : Seed × Span} : Ok (fun b => b = true) (itN _ (fun (v_0 : (Unit × Unit × Unit × Int × Unit) × (Unit)) kn => ConvoyOffs_L7 c r5 breakup r6 storm r7 v_0.1.2.2.2.1 (fun y0 => kn (((), (), (), y0, ()), (())))) (((), (), (), 0, ()), (()))) :=
  offs_loop (c := c) (made := r5.2) (breakup := breakup) (storm := storm) (x1 := r6.2) (x2 := r7.2)
theorem ConvoyOffs_true (c : Convoy) (breakup storm : Span) {nums : List Int} (hn : nums.length ≤ 9223372036854775807) : ConvoyOffs c breakup storm nums = some true := by
  rw [ConvoyOffs_eq]; apply ok_eq
  have hawake : Ok (fun b => b = true) ((awake).bind fun r7 => some r7) := by rw [awake_eq]; exact Ok.bind (Ok.some (P := fun b => b = true) rfl) fun b hb => Ok.some hb
  refine Ok.bind (P := fun b => b = bigS (oC c)) (by rw [big_eq]; exact Ok.some rfl) fun b hb => ?_
  refine Ok.ite (fun _ => hawake) fun hf => ?_
  refine Ok.ite (fun _ => Ok.ite (fun _ => hawake) fun _ => ?_) fun _ => ?_
  · exact Ok.bind (NewSeed_ok hn) fun r4 _ => Ok.bind (ConvoyOf_ok _ (by omega) (by omega)) fun r5 _ => Ok.bind (SpanOf_ok _ (by omega) (by omega) (by omega)) fun r6 _ => Ok.bind (SpanOf_ok _ (by omega) (by omega) (by omega)) fun r7 _ => offs_loop2
  · rw [offs_l7]
    exact Ok.bind (NewSeed_ok hn) fun r4 _ => Ok.bind (ConvoyOf_ok _ (by omega) (by omega)) fun r5 _ => Ok.bind (SpanOf_ok _ (by omega) (by omega) (by omega)) fun r6 _ => Ok.bind (SpanOf_ok _ (by omega) (by omega) (by omega)) fun r7 _ => offs_loop2
end Go.Proofs.Plain04


/- How the arguments of a law are read as plain data of Lean, what the table of the four cases holds, and what a law that writes nothing older than itself leaves: its arguments read as they did. -/
namespace Go.Proofs.YtafnhieaeejlcaaDoor
open Go Go.Ab Go.ChangeShapes Go.WideShapes Go.ChangeAt Go.RowKit
set_option maxRecDepth 100000

/-- All that a world's memory holds. -/
def allK (w : World) : Nat → Nat → Option Value := fun b o => w.cell? ⟨b, o, none⟩
theorem allK_fits (w : World) : Fits (allK w) w := fun _ _ _ h => h

theorem cells3 : Tryd.prog.cellsOf 3 = 1 := by kernel_rfl
theorem cells22 : Tryd.prog.cellsOf 22 = 1 := by kernel_rfl
theorem cells24 : Tryd.prog.cellsOf 24 = 4 := by kernel_rfl
theorem cells47 : Tryd.prog.cellsOf 47 = 2 := by kernel_rfl
theorem cells48 : Tryd.prog.cellsOf 48 = 1 := by kernel_rfl
theorem cells50 : Tryd.prog.cellsOf 50 = 5 := by kernel_rfl
theorem cells89 : Tryd.prog.cellsOf 89 = 2 := by kernel_rfl
theorem cells102 : Tryd.prog.cellsOf 102 = 2 := by kernel_rfl
theorem cells103 : Tryd.prog.cellsOf 103 = 8 := by kernel_rfl

section
variable {H : Type} {enc : TypeId × Value → H} {W : World}

/-- Whatever reads as the type, stands for a datum of Lean. -/
def Rd {α : Type} (enc : TypeId × Value → H) (W : World) (t : TypeId) (ec : α → List D) : Prop :=
  ∀ n cs x, DataW.trod enc Tryd.prog W 0 (fun _ => true) true n t cs = some x → ∃ a : α, RepL (allK W) γ0 sv0 (ec a) cs

theorem fld {fs : Array Field} {xs : List (DataW H × List MemPlace)} {cs : List Value} {n : Nat}
    (hf : ∀ (i : Nat) (f : Field), fs[i]? = some f → DataW.trod enc Tryd.prog W 0 (fun _ => true) true n f.type ((cs.drop f.offset).take (Tryd.prog.cellsOf f.type)) = xs[i]?)
    (hl : xs.length = fs.size) (i : Nat) (f : Field) (hi : fs[i]? = some f) : ∃ y, DataW.trod enc Tryd.prog W 0 (fun _ => true) true n f.type ((cs.drop f.offset).take (Tryd.prog.cellsOf f.type)) = some y := by
  have h1 := (Array.getElem?_eq_some_iff.1 hi).1
  rw [← hl] at h1
  exact ⟨xs[i], by rw [hf i f hi]; exact List.getElem?_eq_getElem h1⟩

theorem rd_hold : Rd enc W 89 encHold := by
  intro n cs x h
  obtain ⟨xs, m, rfl, rfl, hlen, hxl, hf⟩ := DataW.trod_struct Tryd.underlying89 h
  obtain ⟨y0, h0⟩ := fld hf hxl 0 _ rfl
  obtain ⟨y1, h1⟩ := fld hf hxl 1 _ rfl
  obtain ⟨a0, e0, _⟩ := DataW.trod_int Tryd.underlying3 h0
  obtain ⟨a1, e1, _⟩ := DataW.trod_int Tryd.underlying3 h1
  rw [cells89] at hlen
  rcases cs with _ | ⟨c0, _ | ⟨c1, _ | ⟨c2, cs⟩⟩⟩ <;> simp at hlen
  simp [cells3] at e0 e1
  subst e0 e1
  exact ⟨⟨a0, a1⟩, .cons _ _ _ _ (.int _ _) (.cons _ _ _ _ (.int _ _) .nil)⟩

theorem rd_int : Rd enc W 3 encI := by
  intro n cs x h
  obtain ⟨a, rfl, _⟩ := DataW.trod_int Tryd.underlying3 h
  exact ⟨a, .cons _ _ _ _ (.int _ _) .nil⟩

theorem rd_span : Rd enc W 47 encSpan := by
  intro n cs x h
  obtain ⟨xs, m, rfl, rfl, hlen, hxl, hf⟩ := DataW.trod_struct Tryd.underlying47 h
  obtain ⟨y0, h0⟩ := fld hf hxl 0 _ rfl
  obtain ⟨y1, h1⟩ := fld hf hxl 1 _ rfl
  obtain ⟨a0, e0, _⟩ := DataW.trod_int Tryd.underlying3 h0
  obtain ⟨a1, e1, _⟩ := DataW.trod_int Tryd.underlying3 h1
  rw [cells47] at hlen
  rcases cs with _ | ⟨c0, _ | ⟨c1, _ | ⟨c2, cs⟩⟩⟩ <;> simp at hlen
  simp [cells3] at e0 e1
  subst e0 e1
  exact ⟨⟨a0, a1⟩, .cons _ _ _ _ (.int _ _) (.cons _ _ _ _ (.int _ _) .nil)⟩

theorem rd_slice {α : Type} [Inhabited α] {t e z : Nat} {ec : α → List D} (ht : Tryd.prog.underlying t = some (.slice e)) (hz : Tryd.prog.cellsOf e = z) (hz0 : 0 < z) (hl : ∀ a, (ec a).length = z)
    (hc : ∀ a, allCell (ec a) = true) (hr : Rd enc W e ec) : Rd enc W t (fun l : List α => [slOf z ec l]) := by
  intro n cs x h
  rcases Deep.open_slice ht h with ⟨rfl, rfl⟩ | ⟨a, len, cap, m, n', D, Pl, rfl, _, hlc, _, hm, rfl, hx⟩
  · exact ⟨[], .cons _ _ _ _ (.sl0 _ _) .nil⟩
  · simp only [if_true] at hm
    subst hm
    rw [hz] at hx
    rcases Nat.eq_zero_or_pos len with rfl | hpos
    · exact ⟨[], .cons _ _ _ _ (.slE _ _ _ _) .nil⟩
    · have hx' : ∀ i, i < len → ∃ p : α × List Value, W.cells? 0 (a.add (i * z)) z = some p.2 ∧ RepL (allK W) γ0 sv0 (ec p.1) p.2 := fun i hi => by
        obtain ⟨cs', h1, h2⟩ := hx i (by omega)
        obtain ⟨b, hb⟩ := hr _ _ _ h2
        exact ⟨(b, cs'), h1, hb⟩
      obtain ⟨F, hF⟩ := Deep.choose_lt hx'
      have hsp : a.spot = none := by
        obtain ⟨_, h1, h2⟩ := World.cells?_some (hF 0 hpos).1
        have h3 := h2 0 hz0
        rw [List.getElem?_eq_getElem (by omega)] at h3
        simpa [Addr.add] using World.cell?_spot h3
      obtain ⟨b, off, sp⟩ := a
      simp only at hsp
      subst hsp
      refine ⟨(List.range len).map (fun i => (F i).1), .cons _ _ _ _ ?_ .nil⟩
      have hlen : ((List.range len).map (fun i => (F i).1)).length = len := by simp
      have hg : ∀ i, i < len → ((List.range len).map (fun i => (F i).1)).getD i default = (F i).1 := fun i hi => by simp [List.getD, hi]
      unfold slOf
      rw [hlen]
      refine .sl z len _ b off m (fun i => (F i).2) hlc (fun i _ => hl _) (fun i _ => hc _) (fun i hi => by rw [hg i hi]; exact (hF i hi).2) (fun i j v hi hj => ?_)
      obtain ⟨_, h1, h2⟩ := World.cells?_some (hF i hi).1
      have hjl := (List.getElem?_eq_some_iff.1 hj).1
      have h3 := h2 j (by omega)
      rw [add_plain, add_plain, hj] at h3
      exact h3

theorem rd_truck : Rd enc W 50 encTruck := by
  intro n cs x h
  obtain ⟨xs, m, rfl, rfl, hlen, hxl, hf⟩ := DataW.trod_struct Tryd.underlying50 h
  obtain ⟨y0, h0⟩ := fld hf hxl 0 _ rfl
  obtain ⟨y1, h1⟩ := fld hf hxl 1 _ rfl
  obtain ⟨y2, h2⟩ := fld hf hxl 2 _ rfl
  obtain ⟨y3, h3⟩ := fld hf hxl 3 _ rfl
  obtain ⟨a0, e0, _⟩ := DataW.trod_int Tryd.underlying3 h0
  obtain ⟨a1, e1, _⟩ := DataW.trod_int Tryd.underlying3 h1
  obtain ⟨s, e2⟩ := rd_span _ _ _ h2
  obtain ⟨l, e3⟩ := rd_slice (ec := encHold) Tryd.underlying48 cells89 (by decide) (fun _ => rfl) (fun _ => rfl) rd_hold _ _ _ h3
  rw [cells50] at hlen
  rcases cs with _ | ⟨c0, _ | ⟨c1, _ | ⟨c2, _ | ⟨c3, _ | ⟨c4, _ | ⟨c5, cs⟩⟩⟩⟩⟩⟩ <;> simp at hlen
  simp [cells3, cells47, cells48, cells22] at e0 e1 e2 e3
  subst e0 e1
  cases e2 with
  | cons _ _ _ _ k2 r2 =>
    cases r2 with
    | cons _ _ _ _ k3 _ =>
      cases e3 with
      | cons _ _ _ _ k4 _ => exact ⟨⟨a0, a1, s.lo, s.hi, l⟩, .cons _ _ _ _ (.int _ _) (.cons _ _ _ _ (.int _ _) (.cons _ _ _ _ k2 (.cons _ _ _ _ k3 (.cons _ _ _ _ k4 .nil))))⟩

theorem rd_convoy : Rd enc W 24 encConvoy := by
  intro n cs x h
  obtain ⟨xs, m, rfl, rfl, hlen, hxl, hf⟩ := DataW.trod_struct Tryd.underlying24 h
  obtain ⟨y0, h0⟩ := fld hf hxl 0 _ rfl
  obtain ⟨y1, h1⟩ := fld hf hxl 1 _ rfl
  obtain ⟨y2, h2⟩ := fld hf hxl 2 _ rfl
  obtain ⟨y3, h3⟩ := fld hf hxl 3 _ rfl
  obtain ⟨a0, e0, _⟩ := DataW.trod_int Tryd.underlying3 h0
  obtain ⟨a1, e1, _⟩ := DataW.trod_int Tryd.underlying3 h1
  obtain ⟨a2, e2, _⟩ := DataW.trod_int Tryd.underlying3 h2
  obtain ⟨l, e3⟩ := rd_slice (ec := encTruck) Tryd.underlying22 cells50 (by decide) (fun _ => rfl) (fun _ => rfl) rd_truck _ _ _ h3
  rw [cells24] at hlen
  rcases cs with _ | ⟨c0, _ | ⟨c1, _ | ⟨c2, _ | ⟨c3, _ | ⟨c4, cs⟩⟩⟩⟩⟩ <;> simp at hlen
  simp [cells3, cells47, cells48, cells22] at e0 e1 e2 e3
  subst e0 e1 e2
  cases e3 with
  | cons _ _ _ _ k3 _ => exact ⟨⟨a0, a1, a2, l⟩, .cons _ _ _ _ (.int _ _) (.cons _ _ _ _ (.int _ _) (.cons _ _ _ _ (.int _ _) (.cons _ _ _ _ k3 .nil)))⟩

/-- An argument that is a convoy. -/
theorem arg_convoy {v : Value} {d : DataW H} {ps : List MemPlace} {base : Nat} (hv : Value.okWide Tryd.prog W .any base 24 v) (h : DataW.Trod enc Tryd.prog W 0 (fun _ => true) true 24 v d ps) :
    ∃ c : Convoy, Rep (allK W) γ0 sv0 (.agg (encConvoy c)) v := by
  simp only [Value.okWide, Tryd.underlying24] at hv
  obtain ⟨cs, rfl, _⟩ := hv
  obtain ⟨n, hn⟩ := h
  obtain ⟨c, hc⟩ := rd_convoy _ _ _ hn
  have := Rep.agg _ _ hc
  simp [Value.cells] at this
  exact ⟨c, this⟩
/-- An argument that is a list of numbers. -/
theorem arg_ints {v : Value} {d : DataW H} {ps : List MemPlace} {base : Nat} (hv : Value.okWide Tryd.prog W .any base 31 v) (h : DataW.Trod enc Tryd.prog W 0 (fun _ => true) true 31 v d ps) :
    ∃ l : List Int, Rep (allK W) γ0 sv0 (slOf 1 encI l) v := by
  obtain ⟨n, hn⟩ := h
  obtain ⟨l, hl⟩ := rd_slice (ec := encI) Tryd.underlying31 cells3 (by decide) (fun _ => rfl) (fun _ => rfl) rd_int _ _ _ hn
  obtain ⟨a0, len, cap, rfl⟩ := okWide_slice Tryd.underlying31 hv
  cases hl with
  | cons _ _ _ _ k _ => exact ⟨l, k⟩
end

/-- What the row's list gives: the cells of the table. -/
theorem glob_of {W : World} (h : laidMetH Tryd.prog [("sastrugi/convoy.cases", Rows.laid_sastrugi_convoy_cases)] W) : GlobOk seat (allK W) := by
  have h' : laidMet Tryd.prog [("sastrugi/convoy.cases", Rows.laid_sastrugi_convoy_cases)] W := h
  obtain ⟨ps, ⟨g, t, cs, fuel, p, q, hg, ht, hvar, hd, _, _⟩, _⟩ := h'
  have hg0 : Tryd.prog.globalNamed "sastrugi/convoy.cases" = some 0 := by kernel_rfl
  have ht0 : (Tryd.prog.globals[0]?).map (·.type) = some 103 := by kernel_rfl
  obtain rfl := Option.some.inj (hg0.symm.trans hg)
  obtain rfl := Option.some.inj (ht0.symm.trans ht)
  obtain ⟨xs, m, rfl, hx, hlen, hxl, he⟩ := DataW.trod_array Tryd.underlying103 hd
  have hx1 := congrArg Prod.fst hx
  simp only [Rows.laid_sastrugi_convoy_cases, DataW.agg.injEq] at hx1
  rw [cells103] at hlen
  rw [cells102] at he
  have row : ∀ i a b, i < 4 → (xs.map (·.1))[i]? = some (.agg [.lit (.int .i64 a), .lit (.int .i64 b)]) → (cs.toList.drop (i * 2)).take 2 = [Value.int .i64 a, Value.int .i64 b] := fun i a b hi hi2 => by
    rw [List.getElem?_map] at hi2
    obtain ⟨y, hy, hy2⟩ := Option.map_eq_some_iff.1 hi2
    have h1 := he i hi
    rw [hy] at h1
    obtain ⟨d, p'⟩ := y
    simp only at hy2
    subst hy2
    exact Lib.cells_of_tab (zs := [a, b]) Tryd.underlying102 Tryd.underlying3 cells3 cells102 h1
  rw [← hx1] at row
  have r0 := row 0 0 0 (by decide) rfl
  have r1 := row 1 1 0 (by decide) rfl
  have r2 := row 2 0 1 (by decide) rfl
  have r3 := row 3 1 1 (by decide) rfl
  have hcell : ∀ j, W.cell? ⟨0, j, none⟩ = cs.toList[j]? := fun j => by rw [World.var?_cell hg hvar j]; simp
  generalize cs.toList = l at hlen r0 r1 r2 r3 hcell
  rcases l with _ | ⟨c0, _ | ⟨c1, _ | ⟨c2, _ | ⟨c3, _ | ⟨c4, _ | ⟨c5, _ | ⟨c6, _ | ⟨c7, _ | ⟨c8, l⟩⟩⟩⟩⟩⟩⟩⟩⟩ <;> simp at hlen
  simp at r0 r1 r2 r3
  obtain ⟨rfl, rfl⟩ := r0
  obtain ⟨rfl, rfl⟩ := r1
  obtain ⟨rfl, rfl⟩ := r2
  obtain ⟨rfl, rfl⟩ := r3
  intro g l hl
  show _
  have hl' : globs g = some l := hl
  unfold globs at hl'
  split at hl'
  · simp only [Option.some.injEq] at hl'
    subst hl'
    refine ⟨rfl, _, ?_, fun j v hj => by rw [show allK W 0 j = _ from hcell j]; exact hj⟩
    exact .cons _ _ _ _ (.int _ _) (.cons _ _ _ _ (.int _ _) (.cons _ _ _ _ (.int _ _) (.cons _ _ _ _ (.int _ _) (.cons _ _ _ _ (.int _ _) (.cons _ _ _ _ (.int _ _) (.cons _ _ _ _ (.int _ _) (.cons _ _ _ _ (.int _ _) .nil)))))))
  · cases hl'

theorem laidOut : laidOutB Tryd.prog = true := by kernel_rfl
theorem own : ownKnob Tryd.prog.godebug = none := by kernel_rfl

theorem trodAll_stays {H : Type} {enc : TypeId × Value → H} {W W' : World} {sp' : Nat → Bool} (hb : Below W.heap.size W W') : ∀ {ts : List TypeId} {vs : List Value} {ds : List (DataW H)} {ps : List MemPlace},
    (∀ t ∈ ts, Tryd.prog.readableRec t = true ∧ t < Tryd.prog.types.size) → DataW.TrodAll enc Tryd.prog W 0 (fun _ => true) true ts vs ds ps → (∀ p ∈ ps, p.block < W.heap.size) → (∀ p ∈ ps, sp' p.block = true) →
    DataW.TrodAll enc Tryd.prog W' 0 sp' true ts vs ds ps
  | [], [], [], _, _, h, _, _ => h
  | _ :: _, _ :: _, _ :: _, _, hT, ⟨p, q, h1, h2, e⟩, hlt, hs => ⟨p, q,
      WideElems.Trod_stays laidOut (hT _ (List.mem_cons_self ..)).1 (hT _ (List.mem_cons_self ..)).2 h1 (fun x hx => hb.same (hlt x (by rw [e]; exact List.mem_append_left _ hx))) (fun x hx => hs x (by rw [e]; exact List.mem_append_left _ hx)),
      trodAll_stays hb (fun t ht => hT t (List.mem_cons_of_mem _ ht)) h2 (fun x hx => hlt x (by rw [e]; exact List.mem_append_right _ hx)) (fun x hx => hs x (by rw [e]; exact List.mem_append_right _ hx)), e⟩

/-- A law that says yes and writes nothing older than itself. -/
theorem post_yes {H : Type} {enc : TypeId × Value → H} {f : Func} {s : ChangeSpec} {W W' : World} {args : Array Value} {ds gs : List (DataW H)} {before : List MemPlace}
    (hW : DataW.Whole enc Tryd.prog f.params.toList s.vars false W args.toList ds gs before) (hv : s.vars = []) (hb : Below W.heap.size W W')
    (hT : ∀ t ∈ f.params.toList, Tryd.prog.readableRec t = true ∧ t < Tryd.prog.types.size) (hrt : f.resultTypes = #[4])
    (hr : (s.fn H (ds ++ gs)).results = [.lit (.bool true)]) (ha : (s.fn H (ds ++ gs)).args = ds) (hvs : (s.fn H (ds ++ gs)).vars = []) :
    s.post enc Tryd.prog f false true false false W args (.bool true) W' := by
  have hlt := hW.lt
  have hW2 := hW
  obtain ⟨p, q, hA, hV, rfl, _, _⟩ := hW
  rw [hv] at hV
  obtain ⟨rfl, rfl⟩ := trodVars_none hV
  refine ⟨ds, [], p ++ [], [], p, [], hW2, ?_, ?_, ?_, hb.frame _, fun h => by cases h⟩
  · rw [hr, hrt]
    exact trodAll_mk1 (shut_bool Tryd.underlying4 _)
  · rw [ha]
    exact trodAll_stays hb hT hA (fun x hx => hlt x (by simpa using hx)) (fun x hx => by simpa using hlt x (by simpa using hx))
  · rw [hvs, hv]; rfl

/-- A world for the witness: the settled one, the table holding what its initialiser lays. -/
noncomputable def laidWorld (os : Os) : World :=
  { World.holding Tryd.prog os ⟨#[], #[], []⟩ with heap := (World.holding Tryd.prog os ⟨#[], #[], []⟩).heap.modify 0 fun
      | .cells _ t frozen => .cells #[.int .i64 0, .int .i64 0, .int .i64 1, .int .i64 0, .int .i64 0, .int .i64 1, .int .i64 1, .int .i64 1] t frozen
      | o => o }
/-- The empty convoy. -/
def cv0 : Value := .agg #[.int .i64 0, .int .i64 0, .int .i64 0, .slice none 0 0]
end Go.Proofs.YtafnhieaeejlcaaDoor


/- Further readers of arguments; convoys of the two kinds of typed data. -/
namespace Go.Proofs.YtafnhieaeejlcaaDoor
open Go Go.Ab Go.ChangeShapes Go.WideShapes Go.ChangeAt Go.RowKit
set_option linter.all false
set_option maxRecDepth 100000
theorem ints_len {κ : Nat → Nat → Option Value} {γ : Nat → Nat} {sv : Nat → Value} {W : World} {base : Nat} {v : Value} {l : List Int} (hv : Value.okWide Tryd.prog W .any base 31 v) (h : Rep κ γ sv (slOf 1 encI l) v) : l.length ≤ 9223372036854775807 := by
  unfold slOf at h
  generalize hn : l.length = n at h
  cases h with
  | sl0 => omega
  | slE => omega
  | sl _ _ _ b off cap u hc =>
    simp only [Value.okWide, Cell.okWide, Cell.ok, Tryd.underlying31] at hv
    have h1 := hv.2.1
    have h2 : IntKind.i64.max = 9223372036854775807 := by decide
    rw [h2] at h1
    omega
section
variable {H : Type} {enc : TypeId × Value → H} {W : World}
theorem arg_span {v : Value} {d : DataW H} {ps : List MemPlace} {base : Nat} (hv : Value.okWide Tryd.prog W .any base 47 v) (h : DataW.Trod enc Tryd.prog W 0 (fun _ => true) true 47 v d ps) :
    ∃ c : Span, Rep (allK W) γ0 sv0 (.agg (encSpan c)) v := by
  simp only [Value.okWide, Tryd.underlying47] at hv
  obtain ⟨cs, rfl, _⟩ := hv
  obtain ⟨n, hn⟩ := h
  obtain ⟨c, hc⟩ := rd_span _ _ _ hn
  have := Rep.agg _ _ hc
  simp [Value.cells] at this
  exact ⟨c, this⟩
end
end Go.Proofs.YtafnhieaeejlcaaDoor

