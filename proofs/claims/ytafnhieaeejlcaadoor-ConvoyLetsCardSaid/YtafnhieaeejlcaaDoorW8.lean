/- Walks by computing: what each function of the program that the laws reach gives for what it gets, as plain Lean, and that it is so; without a condition but those that stand in each theorem. -/
import Derived.Test.YtafnhieaeejlcaaDoorCards
import Derived.Test.YtafnhieaeejlcaaDoorTie
import Derived.WalkKit
import Derived.ProofKit
import Derived.OpenShut
import Derived.Deep.Slices
import Derived.Deep.DeepHandedRow
import Derived.Lib.LaidTab
import Derived.Test.YtafnhieaeejlcaaDoorW1
import Derived.Test.YtafnhieaeejlcaaDoorW2
import Derived.Test.YtafnhieaeejlcaaDoorW3
import Derived.Test.YtafnhieaeejlcaaDoorW4
import Derived.Test.YtafnhieaeejlcaaDoorW5
import Derived.Test.YtafnhieaeejlcaaDoorW6
import Derived.Test.YtafnhieaeejlcaaDoorW7
set_option linter.all false
/- What the functions of one truck compute, further: the lane, minutes, tracks. -/
namespace Go.Proofs.Plain04
open Go Go.Ab
open Go.Proofs.YtafnhieaeejlcaaDoor (posR nextR stopR stopP hitR alongI freeT laneP laneB heldB wayR posW onlaneR roadR roadP atP gone ROk HOk HSort posR_le posR_next posR_stop hitR_ok stopR_ge posW_zero posW_step posW_stay atP_bnd stopP_bnd laneP_bnd roadP_bnd way_bnds nearP nearC meetC meetP caseL bI along_le along_bnd)
set_option linter.all false
theorem pStop_sp {r : Ride} (h : ROk r.length (oT r.Truck)) (m : Int) : pStop r m = some (stopP r.Truck.Way r.length m (r.Truck.Holds.map oH)) := by
  rw [pStop_eq]; apply ok_eq
  have hl := holds_len h
  have l1 := h.l1
  have l2 := h.l2
  refine Ok.rounds (fun v => 0 ≤ v.1.2.1 ∧ v.1.2.1 ≤ r.Truck.Holds.length ∧ stopP r.Truck.Way r.length m ((r.Truck.Holds.map oH).drop v.1.2.1.toNat) = stopP r.Truck.Way r.length m (r.Truck.Holds.map oH)) (fun v => ((r.Truck.Holds.length : Int) - v.1.2.1).toNat) ?_ ?_ ?_
  · show ((r.Truck.Holds.length : Int) - 0).toNat < 18446744073709551616
    omega
  · exact ⟨Int.le_refl _, by show (0 : Int) ≤ _; omega, rfl⟩
  · rintro ⟨⟨_, i, _⟩, _⟩ kn ⟨i1, i2, i3⟩ hk
    simp only at i1 i2 i3
    have e : w64 (i + 1) = i + 1 := w64_id (by omega) (by omega)
    refine Ok.ite (fun hlt => ?_) fun hge => Ok.some ?_
    · simp only [decide_eq_true_eq] at hlt
      have hi : i.toNat < r.Truck.Holds.length := by omega
      obtain ⟨b1, b2, b3, b4⟩ := hold_mem h hi
      rw [dropm (d := dfltHold) hi, stopP_oH] at i3
      refine Ok.chk (ib i1 hlt) (Ok.ite (fun hc => ?_) fun hc => ?_)
      · simp only [decide_eq_true_eq] at hc
        rw [if_pos hc] at i3
        exact Ok.beq (rideAlong_sp r (m := (r.Truck.Holds.getD i.toNat dfltHold).At) (by omega) (by omega) (by omega) (by omega)) (Ok.some i3)
      · simp only [decide_eq_false_iff_not] at hc
        rw [if_neg hc] at i3
        refine hk _ ⟨by simp only [e]; omega, by simp only [e]; omega, ?_⟩ (by simp only [e]; omega)
        simp only [e]; rw [toNat_succ i1]; exact i3
    · simp only [decide_eq_false_iff_not] at hge
      rw [List.drop_eq_nil_of_le (by simp; omega)] at i3; exact i3
/-- What minutes hands out, from the k-th on. -/
def minL (t : Truck) (len : Int) (n k : Nat) : List (Int × Span × Unit) := (List.range n).map fun j => (t.Start + ((k + j : Nat) : Int), nS (gone (oT t) len (k + j)), ())
theorem minL_succ (t : Truck) (len : Int) (n k : Nat) : minL t len (n + 1) k = (t.Start + (k : Int), nS (gone (oT t) len k), ()) :: minL t len n (k + 1) := by
  unfold minL
  rw [List.range_succ_eq_map, List.map_cons, List.map_map]
  refine congrArg _ (List.map_congr_left fun j _ => ?_)
  show (t.Start + ((k + (j + 1) : Nat) : Int), nS (gone (oT t) len (k + (j + 1))), ()) = _
  rw [show k + (j + 1) = k + 1 + j by omega]
def hitN (t : Truck) (len : Int) : Nat := hitR (oT t) len t.Pace.Lo
theorem minutesI_sp {r : Ride} (h : ROk r.length (oT r.Truck)) : minutesI r = some (minL r.Truck r.length (hitN r.Truck r.length + 1) 0) := by
  rw [minutesI_eq]; apply ok_eq
  have l1 := h.l1
  have l2 := h.l2
  have p1 := h.p1
  have p2 := h.p2
  have p3 := h.p3
  have s1 := h.s1
  have s2 := h.s2
  simp only [oT] at p1 p2 p3 s1 s2
  obtain ⟨e1, e2, e3⟩ := hitR_ok h (Int.le_refl (oT r.Truck).lo)
  change _ = _ at e1
  change ∀ j, j < hitN r.Truck r.length → _ at e2
  change hitN r.Truck r.length ≤ _ at e3
  have e1 : posR (oT r.Truck) r.length r.Truck.Pace.Lo (hitN r.Truck r.length) = r.length := e1
  have e2 : ∀ j, j < hitN r.Truck r.length → posR (oT r.Truck) r.length r.Truck.Pace.Lo j ≠ r.length := e2
  generalize hK : hitN r.Truck r.length = K at *
  refine Ok.roundsD (fun v => ∃ k : Nat, k ≤ K ∧ v = (((), (), r.Truck.Start + (k : Int), ()), ((posR (oT r.Truck) r.length r.Truck.Pace.Lo k, posR (oT r.Truck) r.length r.Truck.Pace.Hi k, ()), ()))) (fun v => (r.Truck.Start + (K : Int) - v.1.2.2.1).toNat) (fun v l => ∀ k : Nat, v.1.2.2.1 = r.Truck.Start + (k : Int) → l = minL r.Truck r.length (K + 1 - k) k) ?_ ?_ ?_ |>.mono fun l hl => hl 0 (by simp)
  · show (r.Truck.Start + (K : Int) - r.Truck.Start).toNat < 18446744073709551616
    omega
  · exact ⟨0, Nat.zero_le _, by simp [posR]⟩
  · rintro v kn ⟨k, hk1, rfl⟩ hk
    have b1 := posR_le h.l1 h.ho (pace := r.Truck.Pace.Lo) p1 k
    have b2 := posR_le h.l1 h.ho (pace := r.Truck.Pace.Hi) (by omega) k
    have n1 := posR_next (t := oT r.Truck) (len := r.length) (pace := r.Truck.Pace.Lo) h.l1 h.ho h.so p1 k
    have n2 := posR_next (t := oT r.Truck) (len := r.length) (pace := r.Truck.Pace.Hi) h.l1 h.ho h.so (by omega) k
    have ew : w64 (r.Truck.Start + (k : Int) + 1) = r.Truck.Start + ((k + 1 : Nat) : Int) := by rw [w64_id (by omega) (by omega)]; push_cast; omega
    have key : ∀ y : Option (List (Int × Span × Unit)), Ok (fun l => l = minL r.Truck r.length (K - k) (k + 1)) y → Ok (fun l => ∀ k' : Nat, r.Truck.Start + (k : Int) = r.Truck.Start + (k' : Int) → l = minL r.Truck r.length (K + 1 - k') k') (consM (r.Truck.Start + (k : Int), (⟨posR (oT r.Truck) r.length r.Truck.Pace.Lo k, posR (oT r.Truck) r.length r.Truck.Pace.Hi k⟩ : Span), ()) (some []) y) := by
      rintro y ⟨l, rfl, rfl⟩
      refine ⟨_, rfl, fun k' hk' => ?_⟩
      obtain rfl : k = k' := by omega
      rw [show K + 1 - k = (K - k) + 1 by omega, minL_succ]; rfl
    refine key _ (Ok.ite (fun hc => ?_) fun hc => Ok.some ?_)
    · simp only [decide_eq_true_eq] at hc
      have hkK : k < K := by
        rcases Nat.lt_or_ge k K with h | h
        · exact h
        · obtain rfl : k = K := by omega
          rw [e1] at hc; omega
      refine Ok.beq (pStop_sp h _) (hk _ ⟨k + 1, by omega, ?_⟩ ?_ |>.mono fun l hl => ?_)
      · have ew1 : w64 (posR (oT r.Truck) r.length r.Truck.Pace.Lo k + r.Truck.Pace.Lo) = posR (oT r.Truck) r.length r.Truck.Pace.Lo k + r.Truck.Pace.Lo := w64_id (by omega) (by omega)
        have ew2 : w64 (posR (oT r.Truck) r.length r.Truck.Pace.Hi k + r.Truck.Pace.Hi) = posR (oT r.Truck) r.length r.Truck.Pace.Hi k + r.Truck.Pace.Hi := w64_id (by omega) (by omega)
        simp only [ew, ew1, ew2]
        rw [n1, n2]; rfl
      · show (r.Truck.Start + (K : Int) - w64 (r.Truck.Start + (k : Int) + 1)).toNat < (r.Truck.Start + (K : Int) - (r.Truck.Start + (k : Int))).toNat
        rw [ew]; omega
      · rw [hl (k + 1) ew, show K + 1 - (k + 1) = K - k by omega]
    · simp only [decide_eq_false_iff_not] at hc
      have hkK : k = K := by
        rcases Nat.lt_or_ge k K with h | h
        · exact absurd (by omega) (e2 k h)
        · omega
      rw [hkK, Nat.sub_self]; rfl
def trk (r : Ride) : Track := ⟨r, (List.range (hitN r.Truck r.length + 1)).map fun k => nS (gone (oT r.Truck) r.length k)⟩
theorem hitN_le {r : Ride} (h : ROk r.length (oT r.Truck)) : hitN r.Truck r.length ≤ 11000 := (hitR_ok h (Int.le_refl (oT r.Truck).lo)).2.2
theorem trackOf_sp {r : Ride} (h : ROk r.length (oT r.Truck)) : trackOf r = some (trk r) := by
  rw [trackOf_eq]; apply ok_eq
  have e3 := hitN_le h
  refine Ok.beq (a := r) (by rw [minutes_eq]; rfl) (Ok.beq (minutesI_sp h) ?_)
  refine Ok.rounds (fun v => v.2.length ≤ hitN r.Truck r.length + 1 ∧ ∃ g : List Span, g.length + v.2.length = hitN r.Truck r.length + 1 ∧ g ++ v.2.map (fun a => a.2.1) = (trk r).gone ∧ v.1 = (((), (), ()), ((r.Truck.Way, r.Truck.Start, r.Truck.Pace.Lo, r.Truck.Pace.Hi, r.Truck.Holds, r.length, g, ()), ()))) (fun v => v.2.length) ?_ ?_ ?_
  · show (minL r.Truck r.length (hitN r.Truck r.length + 1) 0).length < 18446744073709551616
    simp [minL]; omega
  · refine ⟨by simp [minL], [], by simp [minL], ?_, rfl⟩
    simp only [minL, trk, List.nil_append, List.map_map]
    exact List.map_congr_left fun j _ => by simp
  · rintro ⟨v, l⟩ kn ⟨h1, g, h2, h3, rfl⟩ hk
    cases l with
    | nil =>
      refine Ok.some ?_
      simp only [List.map_nil, List.append_nil] at h3
      rw [h3]; rfl
    | cons a l =>
      simp only [List.length_cons] at h1 h2
      refine Ok.chk (fitA_ok (n := g.length + 1) (by omega) (by omega)) (hk _ ⟨by show l.length ≤ _; omega, g ++ [a.2.1], by show (g ++ [a.2.1]).length + l.length = _; simp; omega, ?_, rfl⟩ (by show l.length < _; simp))
      rw [← h3]; simp
theorem rideOf_sp {c : Convoy} {k : Nat} (hk : k < c.Trucks.length) (b : Bool) : rideOf c k b = some ⟨frN (c.Trucks.getD k dfltTruck) b, c.Length⟩ := by
  rw [rideOf_eq]; unfold rideOf'
  have : (decide (0 ≤ (k : Int)) && decide ((k : Int) < (c.Trucks.length : Int))) = true := ib (by omega) (by omega)
  rw [this]
  cases b <;> rfl
theorem trackEnd_sp {r : Ride} (h : ROk r.length (oT r.Truck)) : trackEnd (trk r) = some (r.Truck.Start + (hitN r.Truck r.length : Int)) := by
  rw [trackEnd_eq]; unfold trackEnd'
  have e3 := hitN_le h
  have s1 := h.s1
  have s2 := h.s2
  simp only [oT] at s1 s2
  simp only [trk, len_range]
  rw [w64_id (n := r.Truck.Start + _) (by omega) (by omega), w64_id (by omega) (by omega)]
  refine congrArg some ?_; push_cast; omega
theorem trackAt_sp {r : Ride} (h : ROk r.length (oT r.Truck)) {m : Int} (m0 : -1000000 ≤ m) (m1 : m ≤ 1000000) : trackAt (trk r) m = some (nS (atP (oT r.Truck) r.length m)) := by
  rw [trackAt_eq]; unfold trackAt' atP
  have e3 := hitN_le h
  have s1 := h.s1
  have s2 := h.s2
  simp only [oT] at s1 s2
  have e1 : w64 (m - (trk r).ride.Truck.Start) = m - r.Truck.Start := w64_id (by simp only [trk]; omega) (by simp only [trk]; omega)
  have e2 : w64 (((trk r).gone.length : Int) - 1) = (hitN r.Truck r.length : Int) := by
    simp only [trk, len_range]
    rw [w64_id (by omega) (by omega)]; push_cast; omega
  have e4 : ((trk r).gone.length : Int) = (hitN r.Truck r.length : Int) + 1 := by simp only [trk, len_range]; push_cast; rfl
  rw [e1, e2, e4]
  have e5 : (hitR (oT r.Truck) r.length (oT r.Truck).lo) = hitN r.Truck r.length := rfl
  have e6 : (oT r.Truck).start = r.Truck.Start := rfl
  rw [e5, e6]
  by_cases hn : min (m - r.Truck.Start) (hitN r.Truck r.length : Int) < 0
  · rw [bif_t (by simpa using hn), if_pos hn]; rfl
  · rw [bif_f (by simpa using hn), if_neg hn]
    have hb : (decide (0 ≤ min (m - r.Truck.Start) (hitN r.Truck r.length : Int)) && decide (min (m - r.Truck.Start) (hitN r.Truck r.length : Int) < (hitN r.Truck r.length : Int) + 1)) = true := by simp; omega
    rw [hb]
    show some ((trk r).gone.getD _ _) = _
    simp only [trk]
    rw [getD_range _ _ (by omega)]
theorem trackRoad_sp {r : Ride} (h : ROk r.length (oT r.Truck)) {g : Span} (h1 : -1000000 ≤ g.Lo) (h2 : g.Lo ≤ 1000000) (h3 : -1000000 ≤ g.Hi) (h4 : g.Hi ≤ 1000000) : trackRoad (trk r) g = some (nS (roadP r.Truck.Way r.length (oS g))) := by
  rw [trackRoad_eq]; apply ok_eq
  have l1 := h.l1
  have l2 := h.l2
  exact Ok.beq (rideAlong_sp r (by omega) (by omega) (by omega) (by omega)) (Ok.beq (rideAlong_sp r (by omega) (by omega) (by omega) (by omega)) (Ok.some rfl))
theorem trackLane_sp {r : Ride} (h : ROk r.length (oT r.Truck)) {m : Int} (m0 : -1000000 ≤ m) (m1 : m ≤ 1000000) : trackLane (trk r) m = some (nS (laneP (oT r.Truck) r.length m).1, (laneP (oT r.Truck) r.length m).2) := by
  rw [trackLane_eq]; apply ok_eq
  have l1 := h.l1
  have l2 := h.l2
  obtain ⟨b1, b2, b3, b4⟩ := atP_bnd (m := m) h
  obtain ⟨p1, p2⟩ := stopP_bnd (m := m) h
  unfold laneP
  by_cases a1 : m < r.Truck.Start
  · refine Ok.yes (decide_eq_true (show m < r.Truck.Start from a1)) (Ok.some ?_)
    rw [if_pos (show m < (oT r.Truck).start from a1)]; rfl
  refine Ok.no (decide_eq_false (show ¬ m < r.Truck.Start from a1)) (Ok.beq (trackAt_sp h m0 m1) (Ok.beq (pStop_sp h m) ?_))
  rw [if_neg (show ¬ m < (oT r.Truck).start from a1)]
  change 1 ≤ stopP r.Truck.Way r.length m (r.Truck.Holds.map oH) at p1
  change stopP r.Truck.Way r.length m (r.Truck.Holds.map oH) ≤ r.length at p2
  by_cases a2 : (atP (oT r.Truck) r.length m).hi < stopP r.Truck.Way r.length m (r.Truck.Holds.map oH)
  · refine Ok.yes (decide_eq_true a2) (Ok.beq (trackRoad_sp h (by simp only [nS]; omega) (by simp only [nS]; omega) (by simp only [nS]; omega) (by simp only [nS]; omega)) (Ok.some ?_))
    rw [if_pos (show (atP (oT r.Truck) r.length m).hi < stopP (oT r.Truck).way r.length m (oT r.Truck).holds from a2)]; rfl
  refine Ok.no (decide_eq_false a2) ?_
  rw [if_neg (show ¬ (atP (oT r.Truck) r.length m).hi < stopP (oT r.Truck).way r.length m (oT r.Truck).holds from a2)]
  by_cases a3 : (atP (oT r.Truck) r.length m).lo ≥ stopP r.Truck.Way r.length m (r.Truck.Holds.map oH)
  · refine Ok.yes (decide_eq_true a3) (Ok.some ?_)
    rw [if_pos (show (atP (oT r.Truck) r.length m).lo ≥ stopP (oT r.Truck).way r.length m (oT r.Truck).holds from a3)]; rfl
  · have e : w64 (stopP r.Truck.Way r.length m (r.Truck.Holds.map oH) - 1) = stopP r.Truck.Way r.length m (r.Truck.Holds.map oH) - 1 := w64_id (by omega) (by omega)
    refine Ok.no (decide_eq_false a3) ?_
    rw [e]
    refine Ok.beq (trackRoad_sp h (by simp only [nS]; omega) (by simp only [nS]; omega) (by simp only [nS]; omega) (by simp only [nS]; omega)) (Ok.some ?_)
    rw [if_neg (show ¬ (atP (oT r.Truck) r.length m).lo ≥ stopP (oT r.Truck).way r.length m (oT r.Truck).holds from a3)]; rfl
def lanesN (c : Convoy) (t : Truck) : Lanes := ⟨trk ⟨frN t false, c.Length⟩, trk ⟨frN t true, c.Length⟩⟩
end Go.Proofs.Plain04


/- Meetings, said by the metres at which trucks may be: plain law. -/
namespace Go.Proofs.YtafnhieaeejlcaaDoor
open Go Go.Ab
set_option linter.all false
def loI (t : Truck) (len m : Int) : Int := posR t len t.lo (m - t.start).toNat
def hiI (t : Truck) (len m : Int) : Int := posR t len t.hi (m - t.start).toNat
theorem atP_lohi {t : Truck} {len : Int} (h : ROk len t) (m : Int) : atP t len m = ⟨loI t len m, hiI t len m⟩ := by
  by_cases hm : t.start ≤ m
  · have s1 := h.s1
    obtain ⟨k, rfl⟩ : ∃ k : Nat, m = k := ⟨m.toNat, by omega⟩
    rw [atP_eq h hm, wayR_eq]; rfl
  · unfold atP loI hiI
    rw [if_pos (by omega), show (m - t.start).toNat = 0 by omega]; rfl
/-- How far a truck may have gone in a minute, being on the lane. -/
def onL (t : Truck) (len m g : Int) : Prop := t.start ≤ m ∧ loI t len m ≤ g ∧ g ≤ hiI t len m ∧ g < stopP t.way len m t.holds
theorem hiI_stop {t : Truck} {len m : Int} (h : ROk len t) (hm : t.start ≤ m) : hiI t len m ≤ stopP t.way len m t.holds := by
  have := posR_stop (pace := t.hi) h.l1 h.ho h.so (by have := h.p1; have := h.p2; omega) (m - t.start).toNat
  rw [show t.start + (((m - t.start).toNat : Nat) : Int) = m by omega] at this
  exact this
theorem loI_hiI {t : Truck} {len m : Int} (h : ROk len t) : loI t len m ≤ hiI t len m := posR_lohi h _
theorem loI_bnd {t : Truck} {len m : Int} (h : ROk len t) : 0 ≤ loI t len m ∧ loI t len m ≤ len := posR_le h.l1 h.ho h.p1 _
theorem lane_two {t : Truck} {len m : Int} (h : ROk len t) : (laneP t len m).2 = 2 ↔ ∀ g, ¬ onL t len m g := by
  unfold laneP
  rw [atP_lohi h]
  have hl := loI_hiI (m := m) h
  simp only
  split
  · exact ⟨fun _ g hg => by have := hg.1; omega, fun _ => rfl⟩
  · have hs := hiI_stop (m := m) h (by omega)
    split
    · exact ⟨fun h0 => by simp at h0, fun h0 => absurd ⟨by omega, Int.le_refl _, hl, by omega⟩ (h0 (loI t len m))⟩
    · split
      · exact ⟨fun _ g hg => by have := hg.2.1; have := hg.2.2.2; omega, fun _ => rfl⟩
      · exact ⟨fun h0 => by simp at h0, fun h0 => absurd ⟨by omega, Int.le_refl _, hl, by omega⟩ (h0 (loI t len m))⟩
theorem road_mem {way len a b p : Int} (hab : a ≤ b) : ((roadP way len ⟨a, b⟩).lo ≤ p ∧ p ≤ (roadP way len ⟨a, b⟩).hi) ↔ ∃ g, a ≤ g ∧ g ≤ b ∧ p = alongI way len g := by
  unfold roadP alongI
  by_cases e : way = 2
  · simp only [if_pos e]
    exact ⟨fun hh => ⟨len - p, by omega, by omega, by omega⟩, fun ⟨g, h1, h2, h3⟩ => by omega⟩
  · simp only [if_neg e]
    exact ⟨fun hh => ⟨p, by omega, by omega, rfl⟩, fun ⟨g, h1, h2, h3⟩ => by omega⟩
theorem lane_mem {t : Truck} {len m p : Int} (h : ROk len t) (h2 : (laneP t len m).2 ≠ 2) : ((laneP t len m).1.lo ≤ p ∧ p ≤ (laneP t len m).1.hi) ↔ ∃ g, onL t len m g ∧ p = alongI t.way len g := by
  have hl := loI_hiI (m := m) h
  unfold laneP at h2 ⊢
  rw [atP_lohi h] at h2 ⊢
  simp only at h2 ⊢
  split at h2
  · exact absurd rfl h2
  · rename_i a1
    have hs := hiI_stop (m := m) h (by omega)
    rw [if_neg a1]
    split at h2
    · rename_i a2
      rw [if_pos a2, road_mem hl]
      exact ⟨fun ⟨g, e1, e2, e3⟩ => ⟨g, ⟨by omega, e1, e2, by omega⟩, e3⟩, fun ⟨g, e, e3⟩ => ⟨g, e.2.1, e.2.2.1, e3⟩⟩
    · rename_i a2
      split at h2
      · exact absurd rfl h2
      · rename_i a3
        rw [if_neg a2, if_neg a3, road_mem (by omega)]
        exact ⟨fun ⟨g, e1, e2, e3⟩ => ⟨g, ⟨by omega, e1, by omega, by omega⟩, e3⟩, fun ⟨g, e, e3⟩ => ⟨g, e.2.1, by have := e.2.2.2; omega, e3⟩⟩
/-- Two trucks may be nearer than gap metres in a minute. -/
def Near (gap : Int) (t u : Truck) (len m : Int) : Prop := ∃ g h, onL t len m g ∧ onL u len m h ∧ alongI t.way len g - alongI u.way len h < gap ∧ alongI u.way len h - alongI t.way len g < gap
theorem near_iff {gap len m : Int} {t u : Truck} (ht : ROk len t) (hu : ROk len u) (hg : 1 ≤ gap) : (nearP gap (laneP t len m) (laneP u len m)).2.2 = true ↔ Near gap t u len m := by
  unfold nearP
  by_cases h2 : (laneP t len m).2 = 2 ∨ (laneP u len m).2 = 2
  · rw [if_pos h2]
    refine ⟨fun h => by simp at h, fun ⟨g, h, a, b, _⟩ => ?_⟩
    rcases h2 with h2 | h2
    · exact absurd a ((lane_two ht).1 h2 g)
    · exact absurd b ((lane_two hu).1 h2 h)
  · rw [if_neg h2]
    have ht2 : (laneP t len m).2 ≠ 2 := fun h => h2 (.inl h)
    have hu2 : (laneP u len m).2 ≠ 2 := fun h => h2 (.inr h)
    simp only [Bool.and_eq_true, decide_eq_true_eq]
    constructor
    · rintro ⟨a, b⟩
      obtain ⟨g, hg1, hg2⟩ := (lane_mem ht ht2 (p := max (laneP t len m).1.lo ((laneP u len m).1.lo - gap + 1))).1 ⟨by omega, a⟩
      obtain ⟨h, hh1, hh2⟩ := (lane_mem hu hu2 (p := max (laneP u len m).1.lo (max (laneP t len m).1.lo ((laneP u len m).1.lo - gap + 1) - gap + 1))).1 ⟨by omega, b⟩
      exact ⟨g, h, hg1, hh1, by omega, by omega⟩
    · rintro ⟨g, h, a, b, d, e⟩
      obtain ⟨a1, a2⟩ := (lane_mem ht ht2).2 ⟨g, a, rfl⟩
      obtain ⟨b1, b2⟩ := (lane_mem hu hu2).2 ⟨h, b, rfl⟩
      omega
/-- A family's first. -/
theorem firstS_none {α : Type} {f : Nat → Option α} : ∀ n k, firstS f n k = none ↔ ∀ j, k ≤ j → j < k + n → f j = none
  | 0, k => by simp only [firstS]; exact ⟨fun _ j a b => by omega, fun _ => trivial⟩
  | n + 1, k => by
    simp only [firstS]
    cases e : f k with
    | some a => exact ⟨fun h => by simp at h, fun h => by have := h k (Nat.le_refl _) (by omega); rw [e] at this; cases this⟩
    | none =>
      rw [show (firstS f n (k + 1) = none) = _ from propext (firstS_none n (k + 1))]
      refine ⟨fun h j a b => ?_, fun h j a b => h j (by omega) (by omega)⟩
      by_cases ej : j = k
      · rw [ej, e]
      · exact h j (by omega) (by omega)
theorem meetC_none {gap fails : Int} {t u : Truck} {len m : Int} : ∀ l, meetC gap fails t u len m l = none ↔ ∀ b ∈ l, bI b.1 + bI b.2 ≤ fails → (nearC gap t u len m b).2.2 = false
  | [] => by simp [meetC]
  | b :: l => by
    simp only [meetC, List.mem_cons, forall_eq_or_imp]
    split
    · rw [meetC_none l]; exact ⟨fun h => ⟨fun h' => by omega, h⟩, fun h => h.2⟩
    · split
      · rename_i h1 h2
        exact ⟨fun h => by simp at h, fun h => by have := h.1 (by omega); rw [h2] at this; cases this⟩
      · rename_i h1 h2
        rw [meetC_none l]; exact ⟨fun h => ⟨fun _ => by simpa using h2, h⟩, fun h => h.2⟩
theorem mem_caseL (b : Bool × Bool) : b ∈ caseL := by obtain ⟨a, b⟩ := b; cases a <;> cases b <;> decide
/-- Two of a convoy's trucks, being the first or the second; which fail. -/
def NearB (c : Convoy) (i k : Nat) (b : Bool × Bool) (m : Int) : Prop := Near c.gap (freeT (c.trucks.getD i default) b.1) (freeT (c.trucks.getD k default) b.2) c.len m
theorem nearC_iff {c : Convoy} (hc : CR c) {i k : Nat} (hi : i < c.trucks.length) (hk : k < c.trucks.length) (m : Int) (b : Bool × Bool) : (nearC c.gap (c.trucks.getD i default) (c.trucks.getD k default) c.len m b).2.2 = true ↔ NearB c i k b m :=
  near_iff ((hc.r i hi).free _) ((hc.r k hk).free _) hc.ok.g1
/-- The truck with holds is never ahead of the one without. -/
theorem free_ahead {t : Truck} {len p : Int} (h : ROk len t) (hp : 1 ≤ p) : ∀ k, posR t len p k ≤ posR (freeT t true) len p k
  | 0 => Int.le_refl _
  | k + 1 => by
    have ih := free_ahead h hp k
    rw [posR_next h.l1 h.ho h.so hp k]
    have hf := h.free true
    have := posR_next (t := freeT t true) (len := len) hf.l1 hf.ho hf.so hp k
    rw [this]
    have e : stopP (freeT t true).way len ((freeT t true).start + k) (freeT t true).holds = len := rfl
    rw [e]
    have := (stopP_bnd (m := t.start + k) h).2
    omega
theorem lane_end {t : Truck} {len m : Int} (h : ROk len t) (b : Bool) (hm : t.start + hitR t len t.lo ≤ m) (g : Int) : ¬ onL (freeT t b) len m g := by
  rintro ⟨h1, h2, h3, h4⟩
  have e1 := (hitR_ok h (Int.le_refl t.lo)).1
  have hf := h.free b
  have hs := (stopP_bnd (m := m) hf).2
  obtain ⟨j, hj⟩ : ∃ j, (m - t.start).toNat = hitR t len t.lo + j := ⟨(m - t.start).toNat - hitR t len t.lo, by omega⟩
  have e2 := posR_after h h.p1 e1 j
  have hb := (loI_bnd (m := m) hf).2
  have : loI (freeT t b) len m = len := by
    cases b with
    | false => show posR t len t.lo (m - t.start).toNat = len; rw [hj]; exact e2
    | true =>
      have := free_ahead h h.p1 (m - t.start).toNat
      rw [hj, e2] at this
      have e : loI (freeT t true) len m = posR (freeT t true) len t.lo (hitR t len t.lo + j) := by rw [← hj]; rfl
      omega
  omega
theorem maxUp_ge (f : Nat → Int) : ∀ n k, k < n → f k ≤ maxUp f n
  | 0, k, h => by omega
  | n + 1, k, h => by
    simp only [maxUp]
    by_cases e : k = n
    · subst e; omega
    · have := maxUp_ge f n k (by omega); omega
theorem near_late {c : Convoy} (hc : CR c) {i k : Nat} (hi : i < c.trucks.length) (b : Bool × Bool) {m : Int} (hm : (lastP c : Int) ≤ m) : ¬ NearB c i k b m := by
  rintro ⟨g, h, h1, _⟩
  refine lane_end (hc.r i hi) b.1 ?_ g h1
  have a := maxUp_ge (endF c) _ i hi
  have e := endF_eq c i
  have : (lastP c : Int) = maxUp (endF c) c.trucks.length := by
    have := (maxUp_bnd hc c.trucks.length (Nat.le_refl _)).1
    unfold lastP; omega
  omega
theorem pair_none {c : Convoy} (hc : CR c) {m i k : Nat} (hi : i < c.trucks.length) (hk : k < c.trucks.length) : pairM c m i k = none ↔ ∀ b : Bool × Bool, bI b.1 + bI b.2 ≤ c.fails → ¬ NearB c i k b m := by
  unfold pairM meetP
  rw [Option.map_eq_none_iff, meetC_none]
  constructor
  · intro h b hb hn
    have := h b (mem_caseL b) hb
    rw [(nearC_iff hc hi hk m b).2 hn] at this; cases this
  · intro h b _ hb
    have := h b hb
    rw [← nearC_iff hc hi hk m b] at this
    simpa using this
/-- Nobody meets: in no minute are two of them too near, whoever fails. -/
theorem meeting_none {c : Convoy} (hc : CR c) : meetingP c = none ↔ ∀ i k, i < k → k < c.trucks.length → ∀ b : Bool × Bool, bI b.1 + bI b.2 ≤ c.fails → ∀ m : Int, ¬ NearB c i k b m := by
  unfold meetingP
  rw [firstS_none]
  constructor
  · intro h i k hik hk b hb m hn
    have hm0 : 0 ≤ m := by
      obtain ⟨g, _, h1, _⟩ := hn
      have := h1.1
      have s1 := ((hc.r i (by omega)).free b.1).s1
      omega
    by_cases hm : (lastP c : Int) ≤ m
    · exact near_late hc (by omega) b hm hn
    · have h1 := h m.toNat (Nat.zero_le _) (by omega)
      unfold srchI at h1
      have h2 := (firstS_none _ _).1 h1 i (Nat.zero_le _) (by omega)
      unfold srchK at h2
      have h3 := (firstS_none _ _).1 h2 k (by omega) (by omega)
      have h4 := (pair_none hc (by omega) hk).1 h3 b hb
      rw [show ((m.toNat : Nat) : Int) = m by omega] at h4
      exact h4 hn
  · intro h m _ _
    unfold srchI
    rw [firstS_none]
    intro i _ hi
    unfold srchK
    rw [firstS_none]
    intro k hk1 hk2
    exact (pair_none hc (by omega) (by omega)).2 fun b hb => h i k (by omega) (by omega) b hb m
end Go.Proofs.YtafnhieaeejlcaaDoor


/- Where trucks may be: the program and the reference say the same. -/
namespace Go.Proofs.Plain04
open Go Go.Ab
open Go.Proofs.YtafnhieaeejlcaaDoor (posR nextR stopR stopP hitR alongI freeT laneP laneB heldB wayR posW onlaneR roadR roadP atP gone ROk HOk HSort CR chkConvoy chkTruck chkHolds cr_of bigS atP_bnd way_bnds atP_lohi loI hiI wayR_eq lane_lt lane_off road_eq loI_hiI loI_bnd hiI_stop)
set_option linter.all false
theorem inp_sp (n a b : Int) : inp n a b = some (decide (a ≤ n ∧ n ≤ b)) := by
  rw [inp_eq]; unfold inp'
  by_cases h : a ≤ n
  · rw [bif_t (decide_eq_true h)]; simp [h]
  · rw [bif_f (decide_eq_false h)]; simp [h]
theorem oC_getD (c : Convoy) (k : Nat) : (oC c).trucks.getD k default = oT (c.Trucks.getD k dfltTruck) := by
  show (c.Trucks.map oT).getD k (oT dfltTruck) = _
  rw [getD_map]
theorem rok_ {c : Convoy} (h : chkConvoy (oC c) = 0) {k : Nat} (hk : k < c.Trucks.length) : ROk c.Length (oT (c.Trucks.getD k dfltTruck)) := by
  have := (cr_of h).r k (by simpa [oC] using hk)
  rw [oC_getD] at this; exact this
theorem rokF {c : Convoy} (h : chkConvoy (oC c) = 0) {k : Nat} (hk : k < c.Trucks.length) (b : Bool) : ROk c.Length (oT (frN (c.Trucks.getD k dfltTruck) b)) := by
  rw [oT_frN]; exact (rok_ h hk).free b
theorem few {c : Convoy} (h : chkConvoy (oC c) = 0) : c.Trucks.length ≤ 20 := by
  have := (cr_of h).ok.n; simpa [oC] using this
theorem lens {c : Convoy} (h : chkConvoy (oC c) = 0) : 1 ≤ c.Length ∧ c.Length ≤ 100000 := ⟨(cr_of h).ok.l1, (cr_of h).ok.l2⟩
end Go.Proofs.Plain04


/- Courses: how far a truck has gone in a course made of numbers lies between what the slowest and the fastest have gone; who fails. -/
namespace Go.Proofs.Plain04
open Go Go.Ab
open Go.Proofs.YtafnhieaeejlcaaDoor (posR nextR stopR stopP hitR alongI freeT laneP laneB heldB wayR posW onlaneR roadR roadP atP gone ROk HOk HSort CR chkConvoy chkTruck chkHolds cr_of bigS loI hiI lane_lt loI_hiI loI_bnd hiI_stop onL posR_next stop_eq posR_le stopP_bnd bI)
set_option linter.all false
theorem getD_snoc {α : Type} (l : List α) (x d : α) (j : Nat) : (l ++ [x]).getD j d = if j < l.length then l.getD j d else if j = l.length then x else d := by
  simp only [List.getD_eq_getElem?_getD, List.getElem?_append]
  split
  · rfl
  · split
    · rename_i h1 h2; subst h2; simp
    · rename_i h1 h2
      rw [List.getElem?_eq_none (by simp; omega)]; rfl
theorem getD_set {α : Type} (l : List α) (i j : Nat) (x d : α) : (l.set i x).getD j d = if i = j ∧ j < l.length then x else l.getD j d := by
  simp only [List.getD_eq_getElem?_getD, List.getElem?_set]
  split
  · rename_i h; subst h
    split
    · rename_i h2; simp [h2]
    · rename_i h2; rw [if_neg (fun h => h2 h.2), List.getElem?_eq_none (by omega)]
  · rename_i h; rw [if_neg (fun hh => h hh.1)]
end Go.Proofs.Plain04


/- The law of the first meeting answers true. -/
namespace Go.Proofs.Plain04
open Go Go.Ab
open Go.Proofs.YtafnhieaeejlcaaDoor (bigS big_no)
set_option linter.all false
theorem AcceptedOf_ok (s : Seed) {most : Int} (h0 : 0 ≤ most) (h1 : most ≤ 100) : Ok (fun r => (r.2.Trucks.length : Int) ≤ most ∧ ∀ t ∈ r.2.Trucks, t.Holds.length ≤ 2) (AcceptedOf s most) := by
  rw [AcceptedOf_eq]
  refine Ok.bind (From_ok s (by omega) (by omega) (by omega) (by omega)) fun r hr => ?_
  refine Ok.bind (Below_ok _ (by omega)) fun r2 hr2 => ?_
  refine Ok.bind (Below_ok _ (by rw [w64_id (by omega) (by omega)]; omega)) fun r3 hr3 => ?_
  rw [w64_id (n := most + 1) (by omega) (by omega)] at hr3
  refine Ok.rounds (fun v => 0 ≤ v.1.2.2.2.1 ∧ v.1.2.2.2.1 ≤ most ∧ (v.2.2.1.2.2.2.1.length : Int) + v.1.2.2.2.1 ≤ most ∧ (∀ t ∈ v.2.2.1.2.2.2.1, t.Holds.length ≤ 2) ∧ 0 ≤ v.2.2.1.1 ∧ v.2.2.1.1 ≤ 1000000) (fun v => v.1.2.2.2.1.toNat) ?_ ?_ ?_
  · show r3.2.toNat < 18446744073709551616
    omega
  · simp; omega
  · rintro ⟨⟨_, _, _, i, _⟩, ⟨w, _⟩, ⟨len, gap, fails, ts, _⟩, _⟩ kn hi' hk
    simp only at hi'
    obtain ⟨a1, a2, a3, a4, a5, a6⟩ := hi'
    have e : w64 (i - 1) = i - 1 := w64_id (by omega) (by omega)
    refine Ok.ite (fun hlt => ?_) fun _ => Ok.some ⟨by simp only; omega, a4⟩
    simp only [decide_eq_true_eq] at hlt
    refine Ok.bind (TruckOf_ok _ a5 a6 (by omega) (by omega)) fun r4 hr4 => ?_
    refine Ok.bind (Yes_ok _ (by omega)) fun r5 _ => ?_
    refine Ok.ite (fun _ => ?_) fun _ => ?_
    all_goals
      refine Ok.rounds (fun v => 0 ≤ v.1.2.2.2.2.1 ∧ v.1.2.2.2.2.1 ≤ 12 ∧ v.2.2.1.1 = len ∧ v.2.2.1.2.2.2.1 = ts ∧ v.2.2.2.1.2.2.2.2.1.length ≤ 2) (fun v => (12 - v.1.2.2.2.2.1).toNat) ?_ ?_ ?_
      · show (12 - (0 : Int)).toNat < 18446744073709551616
        omega
      · simp; try omega
      · rintro ⟨⟨_, _, _, _, n, _⟩, ⟨w2, _⟩, ⟨len2, gap2, fails2, ts2, _⟩, ⟨way, st, lo, hi, hs, _⟩, _⟩ kn2 hi2 hk2
        simp only at hi2
        obtain ⟨b1, b2, rfl, rfl, b5⟩ := hi2
        have e2 : w64 (n + 1) = n + 1 := w64_id (by omega) (by omega)
        refine Ok.ite (fun hc => ?_) fun hc => hk _ ?_ ?_
        · simp only [decide_eq_true_eq] at hc
          refine Ok.bind (Below_ok _ (by rw [e2, w64_id (by omega) (by omega)]; omega)) fun r6 hr6 => ?_
          refine Ok.chk (fitA_ok (by simp; omega) (by omega)) (Ok.chk (fitA_ok (by simp; omega) (by omega)) ?_)
          rw [rMeets_eq]
          refine Ok.bind (Ok.some (P := fun _ => True) trivial) fun r7 _ => ?_
          refine Ok.ite (fun _ => hk _ ?_ ?_) fun _ => hk2 _ ?_ ?_
          · simp only [e, List.nil_append, List.length_append, List.length_singleton]
            refine ⟨by omega, by omega, by push_cast; omega, fun t ht => ?_, a5, a6⟩
            rcases List.mem_append.1 ht with ht | ht
            · exact a4 t ht
            · simp only [List.mem_singleton] at ht; subst ht; exact b5
          · simp [e]; omega
          · simp [e2]; omega
          · simp [e2]; omega
        · simp only [e]
          exact ⟨by omega, by omega, by omega, a4, a5, a6⟩
        · simp [e]; omega
theorem fit25_of {c : Convoy} (h1 : c.Trucks.length ≤ 25) (h2 : ∀ t ∈ c.Trucks, t.Holds.length ≤ 12) : fit25 c = true := by
  simp only [fit25, Bool.and_eq_true, decide_eq_true_eq, List.all_eq_true]
  exact ⟨h1, h2⟩
theorem fit1000_of {c : Convoy} (h : fit25 c = true) : fit1000 c = true := by
  simp only [fit25, fit1000, Bool.and_eq_true, decide_eq_true_eq, List.all_eq_true] at h ⊢
  exact ⟨by omega, fun t ht => by have := h.2 t ht; omega⟩
theorem big_fit {c : Convoy} (h : bigS (oC c) = false) : fit25 c = true := by
  obtain ⟨h1, h2⟩ := big_no h
  refine fit25_of (by simpa [oC] using h1) fun t ht => ?_
  obtain ⟨k, hk, rfl⟩ := List.mem_iff_getElem.1 ht
  have h3 := h2 k (by simpa [oC] using hk)
  simp only [oC] at h3
  rw [show (default : Go.Proofs.YtafnhieaeejlcaaDoor.Truck) = oT dfltTruck from rfl, getD_map, List.getD_eq_getElem?_getD, List.getElem?_eq_getElem hk] at h3
  simpa [oT] using h3
theorem ConvoyMeets_true (c : Convoy) {nums : List Int} (hn : nums.length ≤ 9223372036854775807) : ConvoyMeets c nums = some true := by
  suffices h : Ok (fun b => b = true) (ConvoyMeets c nums) by
    obtain ⟨b, h1, h2⟩ := h
    rw [h1, h2]
  rw [ConvoyMeets_eq]
  refine Ok.bind (P := fun b => b = bigS (oC c)) (by rw [big_eq]; exact Ok.some rfl) fun b hb => ?_
  refine Ok.ite (fun _ => ?_) fun hf => ?_
  · rw [awake_eq]; exact Ok.bind (Ok.some (P := fun b => b = true) rfl) fun b hb => Ok.some hb
  subst hb
  have hc := big_fit hf
  refine Ok.bind (NewSeed_ok hn) fun r3 _ => ?_
  refine Ok.bind (ConvoyOf_ok _ (by omega) (by omega)) fun r4 h4 => ?_
  refine Ok.bind (AcceptedOf_ok _ (by omega) (by omega)) fun r5 h5 => ?_
  have hc4 : fit25 r4.2 = true := fit25_of (by omega) fun t ht => by have := h4.2 t ht; omega
  have hc5 : fit25 r5.2 = true := fit25_of (by omega) fun t ht => by have := h5.2 t ht; omega
  have hall : ∀ x ∈ ([c, r4.2, r5.2] : List Convoy), fit25 x = true := fun x hx => by
    simp only [List.mem_cons, List.not_mem_nil, or_false] at hx
    rcases hx with rfl | rfl | rfl <;> assumption
  refine Ok.rounds (fun v => 0 ≤ v.1.2.1 ∧ v.1.2.1 ≤ 3) (fun v => (3 - v.1.2.1).toNat) ?_ ?_ ?_
  · show (3 - (0 : Int)).toNat < 18446744073709551616
    omega
  · simp
  · rintro ⟨⟨_, i, _⟩, _⟩ kn hi hk
    simp only at hi
    refine Ok.ite (fun hlt => ?_) fun _ => ?_
    · simp only [decide_eq_true_eq] at hlt
      have hlt' : i.toNat < ([c, r4.2, r5.2] : List Convoy).length := by simp at hlt ⊢; omega
      have hx := hall (([c, r4.2, r5.2] : List Convoy).getD i.toNat dfltConvoy) (by rw [List.getD_eq_getElem?_getD, List.getElem?_eq_getElem hlt']; exact List.getElem_mem _)
      generalize hx0 : ([c, r4.2, r5.2] : List Convoy).getD i.toNat dfltConvoy = x at hx
      have e : w64 (i + 1) = i + 1 := w64_id (by omega) (by omega)
      have hb : (decide (0 ≤ i) && decide (i < ((([c, r4.2, r5.2] : List Convoy).length : Nat) : Int))) = true := by simp only [Bool.and_eq_true, decide_eq_true_eq]; exact ⟨hi.1, hlt⟩
      refine Ok.chk hb (Ok.chk (by simpa using hlt') ?_)
      refine Ok.bind (P := fun y => y = x) (by rw [OwnConvoy_eq]; exact Ok.chk hx (Ok.some rfl)) fun y hy => ?_
      subst hy
      refine Ok.bind (P := fun m => m = meetS y) (by rw [pMeets_eq]; exact Ok.some rfl) fun m hm => ?_
      refine Ok.chk hb (Ok.chk (by simpa using hlt') ?_)
      refine Ok.bind (P := fun m => m = meetS y) (by rw [rMeets_eq]; exact Ok.some rfl) fun m2 hm2 => ?_
      subst hm hm2
      refine Ok.ite (fun h => by simp at h) fun _ => Ok.ite (fun h => by simp at h) fun _ => ?_
      refine Ok.chk hb (Ok.chk (by simpa using hlt') ?_)
      refine Ok.bind (P := fun b => b = true) (by rw [SameConvoys_eq]; exact Ok.chk (fit1000_of hx) (Ok.some (by simp))) fun b hb2 => ?_
      subst hb2
      refine Ok.ite (fun h => by simp at h) fun _ => hk _ ?_ ?_
      · simp only [e]; simp at hlt; omega
      · simp only [e]; simp at hlt; omega
    · rw [awake_eq]; exact Ok.bind (Ok.some (P := fun b => b = true) rfl) fun b hb => Ok.some hb
def nH (h : Go.Proofs.YtafnhieaeejlcaaDoor.Hold) : Hold := ⟨h.a, h.u⟩
def nT (t : Go.Proofs.YtafnhieaeejlcaaDoor.Truck) : Truck := ⟨t.way, t.start, ⟨t.lo, t.hi⟩, t.holds.map nH⟩
def nC (c : Go.Proofs.YtafnhieaeejlcaaDoor.Convoy) : Convoy := ⟨c.len, c.gap, c.fails, c.trucks.map nT⟩
theorem oT_nT (t : Go.Proofs.YtafnhieaeejlcaaDoor.Truck) : oT (nT t) = t := by
  obtain ⟨a, b, c, d, hs⟩ := t
  simp only [oT, nT, List.map_map]
  have : hs.map (oH ∘ nH) = hs := (List.map_congr_left fun x _ => rfl).trans (List.map_id hs)
  rw [this]
theorem oC_nC (c : Go.Proofs.YtafnhieaeejlcaaDoor.Convoy) : oC (nC c) = c := by
  obtain ⟨a, b, d, ts⟩ := c
  simp only [oC, nC, List.map_map]
  have : ts.map (oT ∘ nT) = ts := (List.map_congr_left fun x _ => oT_nT x).trans (List.map_id ts)
  rw [this]
theorem k4 (c : Go.Proofs.YtafnhieaeejlcaaDoor.Convoy) {nums : List Int} (hn : nums.length ≤ 9223372036854775807) : Contract Go.Proofs.YtafnhieaeejlcaaDoor.seat 4 [.agg (Go.Proofs.YtafnhieaeejlcaaDoor.encConvoy c), slOf 1 encI nums] (.bool true) := by
  have h := fn_contract (Z := Go.Proofs.YtafnhieaeejlcaaDoor.iseat) (ats := [.Convoy, .sl (.int .i64)]) (ts := [.bool]) (E := E4) (fn := Tryd.f4) (c := bodyOf Tryd.f4) Tryd.func4 (by kernel_rfl) (by kernel_rfl) (by kernel_rfl) (by kernel_rfl) rfl ((e4 itN (nC c) nums).trans ((ConvoyMeets_eq (nC c) nums).symm.trans (ConvoyMeets_true (nC c) hn))) zh zh
  have e : I.toDL zh (encA [.Convoy, .sl (.int .i64)] (nC c, nums, ())) = [.agg (Go.Proofs.YtafnhieaeejlcaaDoor.encConvoy c), slOf 1 encI nums] := by
    show [(encV .Convoy (nC c)).toD zh, slOf 1 encI nums] = _
    rw [argC, oC_nC]
  rw [e] at h
  exact h
end Go.Proofs.Plain04


/- Made convoys are valid; those that are accepted have no meeting. -/
namespace Go.Proofs.Plain04
open Go Go.Ab
open Go.Proofs.YtafnhieaeejlcaaDoor (alongI HSort chkConvoy chkTruck chkTrucks chkHolds chkHolds_cons meetingP along_le)
set_option linter.all false
theorem chkHolds_zero {way len : Int} : ∀ {hs : List Go.Proofs.YtafnhieaeejlcaaDoor.Hold} {p : Option Int}, (∀ h ∈ hs, 1 ≤ h.a ∧ h.a ≤ len - 1 ∧ 0 ≤ h.u ∧ h.u ≤ 10000) → HSort way len hs → (∀ q, p = some q → ∀ h ∈ hs, q < alongI way len h.a) → chkHolds way len p hs = 0
  | [], _, _, _, _ => rfl
  | h :: hs, p, h1, h2, h3 => by
    obtain ⟨h4, h5⟩ := List.pairwise_cons.1 h2
    have b := h1 h (List.mem_cons_self ..)
    have rest := chkHolds_zero (p := some (alongI way len h.a)) (fun x hx => h1 x (List.mem_cons_of_mem _ hx)) h5 (fun q hq x hx => by cases hq; exact h4 x hx)
    rw [chkHolds_cons, if_neg (by omega)]
    cases p with
    | none => exact rest
    | some q =>
      have := h3 q rfl h (List.mem_cons_self ..)
      simp only
      rw [if_neg (by omega)]; exact rest
/-- A made truck. -/
structure TMade (len : Int) (n : Int) (t : Truck) : Prop where
  way : t.Way = 1 ∨ t.Way = 2
  s1 : 0 ≤ t.Start
  s2 : t.Start ≤ 199
  p1 : 5 ≤ t.Pace.Lo
  p2 : t.Pace.Lo ≤ t.Pace.Hi
  p3 : t.Pace.Hi ≤ 32
  n : (t.Holds.length : Int) ≤ n
  h : ∀ h ∈ t.Holds.map oH, 1 ≤ h.a ∧ h.a ≤ len - 1 ∧ 0 ≤ h.u ∧ h.u ≤ 149
  so : HSort t.Way len (t.Holds.map oH)
theorem hsort_snoc {way len : Int} {hs : List Go.Proofs.YtafnhieaeejlcaaDoor.Hold} {h : Go.Proofs.YtafnhieaeejlcaaDoor.Hold} (h1 : HSort way len hs) (h2 : ∀ x ∈ hs, alongI way len x.a < alongI way len h.a) : HSort way len (hs ++ [h]) := by
  refine List.pairwise_append.2 ⟨h1, List.pairwise_singleton _ _, fun a ha b hb => ?_⟩
  obtain rfl := List.mem_singleton.1 hb
  exact h2 a ha
theorem TruckOf_made (s : Seed) {length holds : Int} (h1 : 1 ≤ length) (h2 : length ≤ 1000000) (h3 : 0 ≤ holds) (h4 : holds ≤ 100) : Ok (fun r => TMade length holds r.2) (TruckOf s length holds) := by
  rw [TruckOf_eq]
  refine Ok.bind (From_ok s (by omega) (by omega) (by omega) (by omega)) fun r hr => ?_
  refine Ok.bind (Below_ok _ (by omega)) fun r2 hr2 => ?_
  refine Ok.bind (Below_ok _ (by omega)) fun r3 hr3 => ?_
  refine Ok.bind (Of_ok _ (by simp) (by simp)) fun r4 hr4 => ?_
  refine Ok.bind (From_ok _ (by omega) (by omega) (by omega) (by omega)) fun r5 hr5 => ?_
  refine Ok.bind (Below_ok _ (by omega)) fun r6 hr6 => ?_
  refine Ok.bind (Of_ok _ (by simp) (by simp)) fun r7 hr7 => ?_
  refine Ok.bind (Below_ok _ (by rw [w64_id (by omega) (by omega)]; omega)) fun r8 hr8 => ?_
  rw [w64_id (n := holds + 1) (by omega) (by omega)] at hr8
  have hst : 0 ≤ r4.2 ∧ r4.2 ≤ 199 := by
    simp only [List.mem_cons, List.not_mem_nil, or_false] at hr4
    omega
  have hph : 0 ≤ r7.2 ∧ r7.2 ≤ 7 := by
    simp only [List.mem_cons, List.not_mem_nil, or_false] at hr7
    omega
  have eh : w64 (r5.2 + r7.2) = r5.2 + r7.2 := w64_id (by omega) (by omega)
  refine Ok.rounds (fun v => 0 ≤ v.1.2.2.2.2.1 ∧ v.1.2.2.2.2.1 ≤ holds ∧ (v.2.2.1.2.2.2.2.1.length : Int) + v.1.2.2.2.2.1 ≤ holds ∧ 0 ≤ v.1.2.2.2.1 ∧ v.1.2.2.2.1 ≤ 1000000 ∧
      TMade length (v.2.2.1.2.2.2.2.1.length : Int) ⟨v.2.2.1.1, v.2.2.1.2.1, ⟨v.2.2.1.2.2.1, v.2.2.1.2.2.2.1⟩, v.2.2.1.2.2.2.2.1⟩ ∧ ∀ x ∈ v.2.2.1.2.2.2.2.1.map oH, alongI v.2.2.1.1 length x.a ≤ v.1.2.2.2.1) (fun v => v.1.2.2.2.2.1.toNat) ?_ ?_ ?_
  · show r8.2.toNat < 18446744073709551616
    omega
  · simp only [eh]
    refine ⟨by omega, by omega, by simp; omega, by omega, by omega, ⟨by simp only; omega, hst.1, hst.2, by simp only; omega, by simp only; omega, by simp only; omega, by simp, fun h hh => by simp at hh, List.Pairwise.nil⟩, fun x hx => by simp at hx⟩
  · rintro ⟨⟨_, _, _, at_, i, _⟩, ⟨w, _⟩, ⟨way, st, lo, hi, hs, _⟩, _⟩ kn ⟨i1, i2, i3, i4, i5, i6, i7⟩ hk
    simp only at i1 i2 i3 i4 i5 i6 i7 ⊢
    have i6' : TMade length holds ⟨way, st, ⟨lo, hi⟩, hs⟩ := ⟨i6.way, i6.s1, i6.s2, i6.p1, i6.p2, i6.p3, by show (hs.length : Int) ≤ holds; omega, i6.h, i6.so⟩
    refine Ok.ite (fun hc => Ok.ite (fun hc2 => ?_) fun _ => Ok.some i6') fun _ => Ok.some i6'
    simp only [decide_eq_true_eq] at hc hc2
    have e1 : w64 (at_ + 1) = at_ + 1 := w64_id (by omega) (by omega)
    have e2 : w64 (length - 1) = length - 1 := w64_id (by omega) (by omega)
    rw [e2] at hc2
    refine Ok.bind (From_ok _ (low := w64 (at_ + 1)) (high := w64 (length - 1)) (by omega) (by omega) (by omega) (by omega)) fun r9 hr9 => ?_
    rw [e1, e2] at hr9
    refine Ok.bind (Below_ok _ (by omega)) fun r10 hr10 => ?_
    have hi1 : w64 (i - 1) = i - 1 := w64_id (by omega) (by omega)
    have hi2 : w64 (length - r9.2) = length - r9.2 := w64_id (by omega) (by omega)
    have fin : ∀ A : Int, 1 ≤ A → A ≤ length - 1 → alongI way length A = r9.2 → Ok (fun r => TMade length holds r.2) (kn (((), (), (), r9.2, w64 (i - 1), ()), ((r10.1.word, ()), (way, st, lo, hi, hs ++ [⟨A, r10.2⟩], ()), ()))) := fun A a1 a2 a3 => by
      refine hk _ ?_ ?_
      · simp only [hi1]
        refine ⟨by omega, by omega, by simp; omega, by omega, by omega, ⟨i6.way, i6.s1, i6.s2, i6.p1, i6.p2, i6.p3, Int.le_refl _, ?_, ?_⟩, ?_⟩
        · simp only [List.map_append, List.map_cons, List.map_nil]
          intro h hh
          rcases List.mem_append.1 hh with hh | hh
          · exact i6.h h hh
          · obtain rfl := List.mem_singleton.1 hh
            simp only [oH]; omega
        · simp only [List.map_append, List.map_cons, List.map_nil]
          exact hsort_snoc i6.so fun x hx => by
            have := i7 x hx
            show alongI way length x.a < alongI way length (oH ⟨A, r10.2⟩).a
            simp only [oH]; omega
        · simp only [List.map_append, List.map_cons, List.map_nil]
          intro x hx
          rcases List.mem_append.1 hx with hx | hx
          · have := i7 x hx; omega
          · obtain rfl := List.mem_singleton.1 hx
            simp only [oH]; omega
      · simp only [hi1]; omega
    refine Ok.ite (fun hw => ?_) fun hw => ?_
    · refine Ok.chk (fitA_ok (by simp; omega) (by omega)) ?_
      rw [hi2]
      refine fin _ (by omega) (by omega) ?_
      have : way = 2 := by simpa using hw
      unfold alongI; rw [if_pos this]; omega
    · refine Ok.chk (fitA_ok (by simp; omega) (by omega)) (fin _ (by omega) (by omega) ?_)
      have : ¬ way = 2 := by simpa using hw
      unfold alongI; rw [if_neg this]
/-- A made convoy. -/
structure CMade (most : Int) (c : Convoy) : Prop where
  l1 : 20 ≤ c.Length
  l2 : c.Length ≤ 400
  g1 : 1 ≤ c.Gap
  g2 : c.Gap ≤ 100
  f1 : 0 ≤ c.Fails
  f2 : c.Fails ≤ 2
  n : (c.Trucks.length : Int) ≤ most
  t : ∀ t ∈ c.Trucks, TMade c.Length 3 t
  g : ∀ t ∈ c.Trucks, 2 * t.Pace.Hi ≤ c.Gap
abbrev OCv := Go.Proofs.YtafnhieaeejlcaaDoor.Convoy
theorem chkTruck_zero {c : OCv} {t : OTr} (w1 : 1 ≤ t.way) (w2 : t.way ≤ 2) (s1 : 0 ≤ t.start) (s2 : t.start ≤ 10000) (p1 : 1 ≤ t.lo) (p2 : t.lo ≤ t.hi) (p3 : t.hi ≤ 1000) (d : c.len ≤ 1000 * t.lo) (g : 2 * t.hi ≤ c.gap) (n : t.holds.length ≤ 8)
    (h : chkHolds t.way c.len none t.holds = 0) : chkTruck c t = 0 := by
  unfold chkTruck
  rw [if_neg (by omega), if_neg (by omega), if_neg (by omega), if_neg (by omega), if_neg (by omega), if_neg (by omega)]; exact h
theorem chk_truck {c : Convoy} {t : Truck} {n : Int} (h : TMade c.Length n t) (hn : n ≤ 8) (l2 : c.Length ≤ 1000) (g : 2 * t.Pace.Hi ≤ c.Gap) : chkTruck (oC c) (oT t) = 0 := by
  obtain ⟨w, s1, s2, p1, p2, p3, n1, h1, so⟩ := h
  refine chkTruck_zero ?_ ?_ s1 ?_ ?_ p2 ?_ ?_ g ?_ (chkHolds_zero (fun x hx => ?_) so (fun q hq => by cases hq))
  · show 1 ≤ t.Way; omega
  · show t.Way ≤ 2; omega
  · show t.Start ≤ 10000; omega
  · show 1 ≤ t.Pace.Lo; omega
  · show t.Pace.Hi ≤ 1000; omega
  · show c.Length ≤ 1000 * t.Pace.Lo; omega
  · show (t.Holds.map oH).length ≤ 8; rw [List.length_map]; omega
  · have := h1 x hx
    show 1 ≤ x.a ∧ x.a ≤ c.Length - 1 ∧ 0 ≤ x.u ∧ x.u ≤ 10000
    omega
theorem chkTrucks_zero {c : Go.Proofs.YtafnhieaeejlcaaDoor.Convoy} : ∀ {ts : List OTr}, (∀ t ∈ ts, chkTruck c t = 0) → chkTrucks c ts = 0
  | [], _ => rfl
  | t :: ts, h => by
    have a := h t (List.mem_cons_self ..)
    unfold chkTrucks
    rw [if_neg (fun hh => hh a)]
    exact chkTrucks_zero fun x hx => h x (List.mem_cons_of_mem _ hx)
theorem chkConvoy_zero {c : OCv} (l1 : 1 ≤ c.len) (l2 : c.len ≤ 100000) (g1 : 1 ≤ c.gap) (g2 : c.gap ≤ 100000) (f1 : 0 ≤ c.fails) (f2 : c.fails ≤ 20) (n : c.trucks.length ≤ 20) (h : ∀ t ∈ c.trucks, chkTruck c t = 0) : chkConvoy c = 0 := by
  unfold chkConvoy
  rw [if_neg (by omega), if_neg (by omega)]
  exact chkTrucks_zero h
theorem chkHolds_ne7 {way len : Int} : ∀ {hs : List Go.Proofs.YtafnhieaeejlcaaDoor.Hold} {p : Option Int}, chkHolds way len p hs ≠ 7
  | [], _ => by unfold chkHolds; omega
  | h :: hs, p => by
    have ih := chkHolds_ne7 (way := way) (len := len) (hs := hs) (p := some (alongI way len h.a))
    rw [chkHolds_cons]
    split
    · omega
    · split
      · split
        · omega
        · exact ih
      · exact ih
theorem chkTruck_ne7 (c : Go.Proofs.YtafnhieaeejlcaaDoor.Convoy) (t : OTr) : chkTruck c t ≠ 7 := by
  unfold chkTruck
  split; · omega
  split; · omega
  split; · omega
  split; · omega
  split; · omega
  split; · omega
  exact chkHolds_ne7
theorem chkTrucks_ne7 (c : Go.Proofs.YtafnhieaeejlcaaDoor.Convoy) : ∀ ts : List OTr, chkTrucks c ts ≠ 7
  | [] => by unfold chkTrucks; omega
  | t :: ts => by
    unfold chkTrucks
    split
    · exact chkTruck_ne7 c t
    · exact chkTrucks_ne7 c ts
theorem chk_ne7 (c : Go.Proofs.YtafnhieaeejlcaaDoor.Convoy) : chkConvoy c ≠ 7 := by
  unfold chkConvoy
  split; · omega
  split; · omega
  exact chkTrucks_ne7 c _
/-- A convoy that is accepted. -/
def Acc (c : Convoy) : Prop := chkConvoy (oC c) = 0 ∧ meetingP (oC c) = none
theorem meetS_seven {c : Convoy} (h : (meetS c).2 = 7) : Acc c := by
  unfold meetS at h
  simp only at h
  by_cases h0 : chkConvoy (oC c) = 0
  · refine ⟨h0, ?_⟩
    rw [if_pos h0] at h
    cases hm : meetingP (oC c) with
    | none => rfl
    | some x => rw [hm] at h; simp at h
  · rw [if_neg h0] at h
    exact absurd h (chk_ne7 _)
end Go.Proofs.Plain04


/- Courses lie in what is said; meetings that are told can happen. -/
namespace Go.Proofs.Plain04
open Go Go.Ab
open Go.Proofs.YtafnhieaeejlcaaDoor (posR nextR stopR stopP hitR alongI freeT laneP laneB heldB roadP atP gone ROk CR chkConvoy cr_of loI hiI lane_lt loI_hiI loI_bnd hiI_stop onL bI lane_two lane_mem road_mem atP_lohi meetingP)
set_option linter.all false
theorem Has_sp (x : Span) (n : Int) : Has x n = some (decide (x.Lo ≤ n ∧ n ≤ x.Hi)) := by
  rw [Has_eq]; unfold Has'
  by_cases h : x.Lo ≤ n
  · rw [bif_t (decide_eq_true h)]; simp [h]
  · rw [bif_f (decide_eq_false h)]; simp [h]
end Go.Proofs.Plain04


/- What is accepted does not meet: no two trucks come too near, and none pass each other on the lane. -/
namespace Go.Proofs.Plain04
open Go Go.Ab
open Go.Proofs.YtafnhieaeejlcaaDoor (alongI laneB ROk CR chkConvoy cr_of loI hiI loI_bnd onL bI meetingP meeting_none NearB Near chkTruck maxUp lastP)
set_option linter.all false
theorem meetS_acc {c : Convoy} (h : Acc c) : (meetS c).2 = 7 := by
  unfold meetS
  simp only [if_pos h.1, h.2]; rfl
theorem acc_empty {len gap fails : Int} (l1 : 1 ≤ len) (l2 : len ≤ 100000) (g1 : 1 ≤ gap) (g2 : gap ≤ 100000) (f1 : 0 ≤ fails) (f2 : fails ≤ 20) : Acc ⟨len, gap, fails, []⟩ := by
  have h := chkConvoy_zero (c := oC ⟨len, gap, fails, []⟩) l1 l2 g1 g2 f1 f2 (Nat.zero_le _) (fun t ht => by simp [oC] at ht)
  exact ⟨h, (meeting_none (cr_of h)).2 fun i k _ hk => by simp [oC] at hk⟩
theorem AcceptedOf_acc (s : Seed) {most : Int} (h0 : 0 ≤ most) (h1 : most ≤ 20) : Ok (fun r => Acc r.2 ∧ 60 ≤ r.2.Length ∧ r.2.Length ≤ 300 ∧ (r.2.Trucks.length : Int) ≤ most ∧ r.2.Gap = 70 ∧ r.2.Fails ≤ 2 ∧ ∀ t ∈ r.2.Trucks, t.Start ≤ 479) (AcceptedOf s most) := by
  rw [AcceptedOf_eq]
  refine Ok.bind (From_ok s (by omega) (by omega) (by omega) (by omega)) fun r hr => ?_
  refine Ok.bind (Below_ok _ (by omega)) fun r2 hr2 => ?_
  refine Ok.bind (Below_ok _ (by rw [w64_id (by omega) (by omega)]; omega)) fun r3 hr3 => ?_
  rw [w64_id (n := most + 1) (by omega) (by omega)] at hr3
  refine Ok.rounds (fun v => 0 ≤ v.1.2.2.2.1 ∧ v.1.2.2.2.1 ≤ most ∧ (v.2.2.1.2.2.2.1.length : Int) + v.1.2.2.2.1 ≤ most ∧ Acc ⟨v.2.2.1.1, v.2.2.1.2.1, v.2.2.1.2.2.1, v.2.2.1.2.2.2.1⟩ ∧ 60 ≤ v.2.2.1.1 ∧ v.2.2.1.1 ≤ 300 ∧ v.2.2.1.2.1 = 70 ∧ v.2.2.1.2.2.1 ≤ 2 ∧ ∀ t ∈ v.2.2.1.2.2.2.1, t.Start ≤ 479) (fun v => v.1.2.2.2.1.toNat) ?_ ?_ ?_
  · show r3.2.toNat < 18446744073709551616
    omega
  · simp only
    exact ⟨by omega, by omega, by simp; omega, acc_empty (by omega) (by omega) (by omega) (by omega) (by omega) (by omega), by omega, by omega, trivial, by omega, fun t ht => by cases ht⟩
  · rintro ⟨⟨_, _, _, i, _⟩, ⟨w, _⟩, ⟨len, gap, fails, ts, _⟩, _⟩ kn hi' hk
    simp only at hi' ⊢
    obtain ⟨a1, a2, a3, a4, a5, a6, rfl, a7, a8⟩ := hi'
    have e : w64 (i - 1) = i - 1 := w64_id (by omega) (by omega)
    refine Ok.ite (fun hlt => ?_) fun _ => Ok.some ⟨a4, a5, a6, by simp only; omega, rfl, a7, a8⟩
    simp only [decide_eq_true_eq] at hlt
    refine Ok.bind (TruckOf_ok _ (by omega) (by omega) (by omega) (by omega)) fun r4 hr4 => ?_
    refine Ok.bind (Yes_ok _ (by omega)) fun r5 _ => ?_
    refine Ok.ite (fun _ => ?_) fun _ => ?_
    all_goals
      refine Ok.rounds (fun v => 0 ≤ v.1.2.2.2.2.1 ∧ v.1.2.2.2.2.1 ≤ 12 ∧ v.2.2.1.1 = len ∧ v.2.2.1.2.1 = 70 ∧ v.2.2.1.2.2.1 = fails ∧ v.2.2.1.2.2.2.1 = ts) (fun v => (12 - v.1.2.2.2.2.1).toNat) ?_ ?_ ?_
      · show (12 - (0 : Int)).toNat < 18446744073709551616
        omega
      · simp
      · rintro ⟨⟨_, _, _, _, n, _⟩, ⟨w2, _⟩, ⟨len2, gap2, fails2, ts2, _⟩, ⟨way, st, lo, hi, hs, _⟩, _⟩ kn2 hi2 hk2
        simp only at hi2 ⊢
        obtain ⟨b1, b2, rfl, rfl, rfl, rfl⟩ := hi2
        have e2 : w64 (n + 1) = n + 1 := w64_id (by omega) (by omega)
        refine Ok.ite (fun hc => ?_) fun hc => hk _ ?_ ?_
        · simp only [decide_eq_true_eq] at hc
          have e3 : w64 (40 * (n + 1)) = 40 * (n + 1) := w64_id (by omega) (by omega)
          rw [e2, e3]
          refine Ok.bind (Below_ok _ (by omega)) fun r6 hr6 => ?_
          refine Ok.chk (fitA_ok (by simp; omega) (by omega)) (Ok.chk (fitA_ok (by simp; omega) (by omega)) ?_)
          refine Ok.bind (P := fun m => m = meetS _) (by rw [rMeets_eq]; exact Ok.some rfl) fun r7 h7 => ?_
          refine Ok.ite (fun h8 => hk _ ?_ ?_) fun _ => hk2 _ ?_ ?_
          · have hacc := meetS_seven (by rw [← h7]; exact beq_iff_eq.1 h8)
            simp only [e]
            refine ⟨by omega, by omega, by simp; omega, hacc, a5, a6, trivial, a7, fun t ht => ?_⟩
            simp only [List.nil_append] at ht
            rcases List.mem_append.1 ht with ht | ht
            · exact a8 t ht
            · simp only [List.mem_singleton] at ht; subst ht; simp only; omega
          · simp only [e]; omega
          · simp only; exact ⟨by omega, by omega, trivial, trivial, trivial, trivial⟩
          · simp only; omega
        · simp only [e]
          exact ⟨by omega, by omega, by omega, a4, a5, a6, trivial, a7, a8⟩
        · simp only [e]; omega
end Go.Proofs.Plain04


/- Releases. Written out by gen2.py (ours). -/
namespace Go.Proofs.Plain04
open Go Go.Ab
open Go.Proofs.YtafnhieaeejlcaaDoor (iseat)
set_option linter.all false
set_option maxRecDepth 100000
noncomputable section
def IndexLanes_L2 (s : List Lanes) (f : (Nearness × Track)) (x8 : Int) (kn_ : Int → Option Int) : Option Int :=
  bif (decide (x8 < (s.length : Int))) then
    chk (decide (0 ≤ x8) && decide (x8 < (s.length : Int))) <|
    (ReleaseC (s.getD x8.toNat dfltLanes) f.1 f.2).bind fun r =>
    bif r then
      some x8
    else
      kn_ (w64 (x8 + 1))
  else
    some (-1)
def IndexLanes' (it : It Int) (s : List Lanes) (f : (Nearness × Track)) : Option Int :=
  it _ (fun (v_0 : (Int × Unit) × (Unit)) kn => IndexLanes_L2 s f v_0.1.1 (fun y0 => kn ((y0, ()), (())))) ((0, ()), (()))
def IndexLanes : (List Lanes) → ((Nearness × Track)) → Option Int := opq (fun s f => IndexLanes' itN s f)
theorem IndexLanes_eq (s : List Lanes) (f : (Nearness × Track)) : IndexLanes s f = IndexLanes' itN s f := by unfold IndexLanes; rw [opq_eq]
def E117 : FEnv iseat := ⟨⟨19, [sp91], [], [], [], [], [], [], true⟩, [(2, ⟨⟨[(8, .v (.int .i64))], []⟩, [0, 1, 7], []⟩)]⟩
theorem e117 (it : It Int) (s : List Lanes) (f : (Nearness × Track)) : fnRun (ts := [.int .i64]) it E117 (bodyOf Tryd.f117) Tryd.f117.results.toList (encA [.sl .Lanes, .clo2 91 .Nearness .Track] (s, f, ())) = IndexLanes' it s f := by kernel_rfl
def sp117 : FnSpec iseat.toSeat := mkSpec iseat.toSeat 117 [.sl .Lanes, .clo2 91 .Nearness .Track] [.int .i64] true (fun a => IndexLanes a.1 a.2.1) (fun a x hx h h' => fn_contract (Z := iseat) (ats := [.sl .Lanes, .clo2 91 .Nearness .Track]) (ts := [.int .i64]) (E := E117) (fn := Tryd.f117) (c := bodyOf Tryd.f117) Tryd.func117 (by kernel_rfl) (by kernel_rfl) (by kernel_rfl) (by kernel_rfl) rfl ((e117 itN a.1 a.2.1).trans ((IndexLanes_eq a.1 a.2.1).symm.trans hx)) h h') (fun _ x => rfl)
def ContainsLanes' (it : It Bool) (s : List Lanes) (f : (Nearness × Track)) : Option Bool :=
  (IndexLanes s (f.1, f.2)).bind fun r =>
  some (decide (r ≥ 0))
def ContainsLanes : (List Lanes) → ((Nearness × Track)) → Option Bool := opq (fun s f => ContainsLanes' itN s f)
theorem ContainsLanes_eq (s : List Lanes) (f : (Nearness × Track)) : ContainsLanes s f = ContainsLanes' itN s f := by unfold ContainsLanes; rw [opq_eq]
def E90 : FEnv iseat := ⟨⟨9, [sp117], [], [], [], [], [], [], true⟩, []⟩
theorem e90 (it : It Bool) (s : List Lanes) (f : (Nearness × Track)) : fnRun (ts := [.bool]) it E90 (bodyOf Tryd.f90) Tryd.f90.results.toList (encA [.sl .Lanes, .clo2 91 .Nearness .Track] (s, f, ())) = ContainsLanes' it s f := by kernel_rfl
def sp90 : FnSpec iseat.toSeat := mkSpec iseat.toSeat 90 [.sl .Lanes, .clo2 91 .Nearness .Track] [.bool] true (fun a => ContainsLanes a.1 a.2.1) (fun a x hx h h' => fn_contract (Z := iseat) (ats := [.sl .Lanes, .clo2 91 .Nearness .Track]) (ts := [.bool]) (E := E90) (fn := Tryd.f90) (c := bodyOf Tryd.f90) Tryd.func90 (by kernel_rfl) (by kernel_rfl) (by kernel_rfl) (by kernel_rfl) rfl ((e90 itN a.1 a.2.1).trans ((ContainsLanes_eq a.1 a.2.1).symm.trans hx)) h h') (fun _ x => rfl)
def pRelease_L20 (window : Span) (c : Convoy) (r6 : List Lanes) (x_Way : Int) (x_Start : Int) (x_Pace_Lo : Int) (x_Pace_Hi : Int) (x_Holds : List Hold) (kn_ : Int → Int → Int → Int → (List Hold) → Option (Int × Int)) : Option (Int × Int) :=
  bif (decide (x_Start ≤ window.Hi)) then
    (trackOf (⟨⟨x_Way, x_Start, ⟨x_Pace_Lo, x_Pace_Hi⟩, x_Holds⟩, c.Length⟩ : Ride)).bind fun r7 =>
    (ContainsLanes r6 ((⟨c.Gap, c.Fails⟩ : Nearness), r7)).bind fun r8 =>
    bif (!r8) then
      some (x_Start, 0)
    else
      kn_ x_Way (w64 (x_Start + 1)) x_Pace_Lo x_Pace_Hi x_Holds
  else
    some (0, 7)
def pRelease' (it : It (Int × Int)) (c : Convoy) (way : Int) (pace : Span) (window : Span) : Option (Int × Int) :=
  (pCheck c).bind fun r =>
  bif (r != 0) then
    some (0, r)
  else
    bif ((c.Trucks.length : Int) == 20) then
      some (0, 8)
    else
      (pCheckTruck c (⟨way, 0, pace, []⟩ : Truck)).bind fun r2 =>
      bif (r2 != 0) then
        some (0, r2)
      else
        (inp window.Lo 0 10000).bind fun r3 =>
        bif (!r3) then
          some (0, 2)
        else
          (inp window.Hi 0 10000).bind fun r4 =>
          bif (!r4) then
            some (0, 2)
          else
            bif (decide (window.Lo > window.Hi)) then
              some (0, 11)
            else
              (meeting c).bind fun r5 =>
              bif r5.2 then
                some (0, 7)
              else
                (lanesOf c).bind fun r6 =>
                it _ (fun (v_0 : (Unit × Unit × Unit × Unit × Unit) × ((Int × Int × Int × Int × (List Hold) × Unit) × Unit)) kn => pRelease_L20 window c r6 v_0.2.1.1 v_0.2.1.2.1 v_0.2.1.2.2.1 v_0.2.1.2.2.2.1 v_0.2.1.2.2.2.2.1 (fun y0 y1 y2 y3 y4 => kn (((), (), (), (), ()), ((y0, y1, y2, y3, y4, ()), ())))) (((), (), (), (), ()), ((way, window.Lo, pace.Lo, pace.Hi, [], ()), ()))
def pRelease : Convoy → Int → Span → Span → Option (Int × Int) := opq (fun c way pace window => pRelease' itN c way pace window)
theorem pRelease_eq (c : Convoy) (way : Int) (pace : Span) (window : Span) : pRelease c way pace window = pRelease' itN c way pace window := by unfold pRelease; rw [opq_eq]
def E49 : FEnv iseat := ⟨⟨90, [w21, sp65, sp64, w70, sp89, sp83, sp90], [], [], [], [], [], [], true⟩, [(20, ⟨⟨[(4, .bx 4 0), (7, .bx 7 0), (11, .bx 11 0), (15, .bx 15 0)], [(11, [.v (.int .i64), .v (.int .i64), .v (.int .i64), .v (.int .i64), .v (.sl .Hold)])]⟩, [16], [4, 7, 15]⟩)]⟩
theorem e49 (it : It (Int × Int)) (c : Convoy) (way : Int) (pace : Span) (window : Span) : fnRun (ts := [.int .i64, .int .i64]) it E49 (bodyOf Tryd.f49) Tryd.f49.results.toList (encA [.Convoy, .int .i64, .Span, .Span] (c, way, pace, window, ())) = pRelease' it c way pace window := by kernel_rfl
def sp49 : FnSpec iseat.toSeat := mkSpec iseat.toSeat 49 [.Convoy, .int .i64, .Span, .Span] [.int .i64, .int .i64] true (fun a => pRelease a.1 a.2.1 a.2.2.1 a.2.2.2.1) (fun a x hx h h' => fn_contract (Z := iseat) (ats := [.Convoy, .int .i64, .Span, .Span]) (ts := [.int .i64, .int .i64]) (E := E49) (fn := Tryd.f49) (c := bodyOf Tryd.f49) Tryd.func49 (by kernel_rfl) (by kernel_rfl) (by kernel_rfl) (by kernel_rfl) rfl ((e49 itN a.1 a.2.1 a.2.2.1 a.2.2.2.1).trans ((pRelease_eq a.1 a.2.1 a.2.2.1 a.2.2.2.1).symm.trans hx)) h h') (fun _ x => rfl)
def ConvoyReleases_L9 (c : Convoy) (r5 : (Seed × Convoy)) (way : Int) (r6 : (Seed × Truck)) (pace : Span) (window : Span) (r7 : (Seed × Int)) (r8 : (Seed × Int)) (i : Int) (kn_ : Int → Option Bool) : Option Bool :=
  bif (decide (i < (([c, r5.2, r5.2] : List Convoy).length : Int))) then
    chk (decide (0 ≤ i) && decide (i < (([c, r5.2, r5.2] : List Convoy).length : Int))) <|
    chk (decide (i.toNat < ([c, r5.2, r5.2] : List Convoy).length)) <|
    (OwnConvoy (([c, r5.2, r5.2] : List Convoy).getD i.toNat dfltConvoy)).bind fun r9 =>
    chk (decide (0 ≤ i) && decide (i < ([way, r6.2.Way, way].length : Int))) <|
    chk (decide (i.toNat < [way, r6.2.Way, way].length)) <|
    chk (decide (0 ≤ i) && decide (i < (([pace, r6.2.Pace, pace] : List Span).length : Int))) <|
    chk (decide (i.toNat < ([pace, r6.2.Pace, pace] : List Span).length)) <|
    chk (decide (0 ≤ i) && decide (i < (([window, (⟨r7.2, (w64 (r7.2 + r8.2))⟩ : Span), window] : List Span).length : Int))) <|
    chk (decide (i.toNat < ([window, (⟨r7.2, (w64 (r7.2 + r8.2))⟩ : Span), window] : List Span).length)) <|
    (pRelease r9 ([way, r6.2.Way, way].getD i.toNat 0) (([pace, r6.2.Pace, pace] : List Span).getD i.toNat dfltSpan) (([window, (⟨r7.2, (w64 (r7.2 + r8.2))⟩ : Span), window] : List Span).getD i.toNat dfltSpan)).bind fun r10 =>
    chk (decide (0 ≤ i) && decide (i < (([c, r5.2, r5.2] : List Convoy).length : Int))) <|
    chk (decide (i.toNat < ([c, r5.2, r5.2] : List Convoy).length)) <|
    chk (decide (0 ≤ i) && decide (i < ([way, r6.2.Way, way].length : Int))) <|
    chk (decide (i.toNat < [way, r6.2.Way, way].length)) <|
    chk (decide (0 ≤ i) && decide (i < (([pace, r6.2.Pace, pace] : List Span).length : Int))) <|
    chk (decide (i.toNat < ([pace, r6.2.Pace, pace] : List Span).length)) <|
    chk (decide (0 ≤ i) && decide (i < (([window, (⟨r7.2, (w64 (r7.2 + r8.2))⟩ : Span), window] : List Span).length : Int))) <|
    chk (decide (i.toNat < ([window, (⟨r7.2, (w64 (r7.2 + r8.2))⟩ : Span), window] : List Span).length)) <|
    (rRelease (([c, r5.2, r5.2] : List Convoy).getD i.toNat dfltConvoy) ([way, r6.2.Way, way].getD i.toNat 0) (([pace, r6.2.Pace, pace] : List Span).getD i.toNat dfltSpan) (([window, (⟨r7.2, (w64 (r7.2 + r8.2))⟩ : Span), window] : List Span).getD i.toNat dfltSpan)).bind fun r11 =>
    bif (r10.1 != r11.1) then
      some false
    else
      bif (r10.2 != r11.2) then
        some false
      else
        chk (decide (0 ≤ i) && decide (i < (([c, r5.2, r5.2] : List Convoy).length : Int))) <|
        chk (decide (i.toNat < ([c, r5.2, r5.2] : List Convoy).length)) <|
        (SameConvoys r9 (([c, r5.2, r5.2] : List Convoy).getD i.toNat dfltConvoy)).bind fun r12 =>
        bif (!r12) then
          some false
        else
          kn_ (w64 (i + 1))
  else
    (awake).bind fun r13 =>
    some r13
def ConvoyReleases_L9__2 (c : Convoy) (r15 : (Seed × Convoy)) (way : Int) (r16 : (Seed × Truck)) (pace : Span) (window : Span) (r17 : (Seed × Int)) (r18 : (Seed × Int)) (i2 : Int) (kn_2 : Int → Option Bool) : Option Bool :=
  bif (decide (i2 < (([c, r15.2, r15.2] : List Convoy).length : Int))) then
    chk (decide (0 ≤ i2) && decide (i2 < (([c, r15.2, r15.2] : List Convoy).length : Int))) <|
    chk (decide (i2.toNat < ([c, r15.2, r15.2] : List Convoy).length)) <|
    (OwnConvoy (([c, r15.2, r15.2] : List Convoy).getD i2.toNat dfltConvoy)).bind fun r19 =>
    chk (decide (0 ≤ i2) && decide (i2 < ([way, r16.2.Way, way].length : Int))) <|
    chk (decide (i2.toNat < [way, r16.2.Way, way].length)) <|
    chk (decide (0 ≤ i2) && decide (i2 < (([pace, r16.2.Pace, pace] : List Span).length : Int))) <|
    chk (decide (i2.toNat < ([pace, r16.2.Pace, pace] : List Span).length)) <|
    chk (decide (0 ≤ i2) && decide (i2 < (([window, (⟨r17.2, (w64 (r17.2 + r18.2))⟩ : Span), window] : List Span).length : Int))) <|
    chk (decide (i2.toNat < ([window, (⟨r17.2, (w64 (r17.2 + r18.2))⟩ : Span), window] : List Span).length)) <|
    (pRelease r19 ([way, r16.2.Way, way].getD i2.toNat 0) (([pace, r16.2.Pace, pace] : List Span).getD i2.toNat dfltSpan) (([window, (⟨r17.2, (w64 (r17.2 + r18.2))⟩ : Span), window] : List Span).getD i2.toNat dfltSpan)).bind fun r20 =>
    chk (decide (0 ≤ i2) && decide (i2 < (([c, r15.2, r15.2] : List Convoy).length : Int))) <|
    chk (decide (i2.toNat < ([c, r15.2, r15.2] : List Convoy).length)) <|
    chk (decide (0 ≤ i2) && decide (i2 < ([way, r16.2.Way, way].length : Int))) <|
    chk (decide (i2.toNat < [way, r16.2.Way, way].length)) <|
    chk (decide (0 ≤ i2) && decide (i2 < (([pace, r16.2.Pace, pace] : List Span).length : Int))) <|
    chk (decide (i2.toNat < ([pace, r16.2.Pace, pace] : List Span).length)) <|
    chk (decide (0 ≤ i2) && decide (i2 < (([window, (⟨r17.2, (w64 (r17.2 + r18.2))⟩ : Span), window] : List Span).length : Int))) <|
    chk (decide (i2.toNat < ([window, (⟨r17.2, (w64 (r17.2 + r18.2))⟩ : Span), window] : List Span).length)) <|
    (rRelease (([c, r15.2, r15.2] : List Convoy).getD i2.toNat dfltConvoy) ([way, r16.2.Way, way].getD i2.toNat 0) (([pace, r16.2.Pace, pace] : List Span).getD i2.toNat dfltSpan) (([window, (⟨r17.2, (w64 (r17.2 + r18.2))⟩ : Span), window] : List Span).getD i2.toNat dfltSpan)).bind fun r21 =>
    bif (r20.1 != r21.1) then
      some false
    else
      bif (r20.2 != r21.2) then
        some false
      else
        chk (decide (0 ≤ i2) && decide (i2 < (([c, r15.2, r15.2] : List Convoy).length : Int))) <|
        chk (decide (i2.toNat < ([c, r15.2, r15.2] : List Convoy).length)) <|
        (SameConvoys r19 (([c, r15.2, r15.2] : List Convoy).getD i2.toNat dfltConvoy)).bind fun r22 =>
        bif (!r22) then
          some false
        else
          kn_2 (w64 (i2 + 1))
  else
    (awake).bind fun r23 =>
    some r23
def ConvoyReleases_L9__3 (c : Convoy) (r25 : (Seed × Convoy)) (way : Int) (r26 : (Seed × Truck)) (pace : Span) (window : Span) (r27 : (Seed × Int)) (r28 : (Seed × Int)) (i3 : Int) (kn_3 : Int → Option Bool) : Option Bool :=
  bif (decide (i3 < (([c, r25.2, r25.2] : List Convoy).length : Int))) then
    chk (decide (0 ≤ i3) && decide (i3 < (([c, r25.2, r25.2] : List Convoy).length : Int))) <|
    chk (decide (i3.toNat < ([c, r25.2, r25.2] : List Convoy).length)) <|
    (OwnConvoy (([c, r25.2, r25.2] : List Convoy).getD i3.toNat dfltConvoy)).bind fun r29 =>
    chk (decide (0 ≤ i3) && decide (i3 < ([way, r26.2.Way, way].length : Int))) <|
    chk (decide (i3.toNat < [way, r26.2.Way, way].length)) <|
    chk (decide (0 ≤ i3) && decide (i3 < (([pace, r26.2.Pace, pace] : List Span).length : Int))) <|
    chk (decide (i3.toNat < ([pace, r26.2.Pace, pace] : List Span).length)) <|
    chk (decide (0 ≤ i3) && decide (i3 < (([window, (⟨r27.2, (w64 (r27.2 + r28.2))⟩ : Span), window] : List Span).length : Int))) <|
    chk (decide (i3.toNat < ([window, (⟨r27.2, (w64 (r27.2 + r28.2))⟩ : Span), window] : List Span).length)) <|
    (pRelease r29 ([way, r26.2.Way, way].getD i3.toNat 0) (([pace, r26.2.Pace, pace] : List Span).getD i3.toNat dfltSpan) (([window, (⟨r27.2, (w64 (r27.2 + r28.2))⟩ : Span), window] : List Span).getD i3.toNat dfltSpan)).bind fun r30 =>
    chk (decide (0 ≤ i3) && decide (i3 < (([c, r25.2, r25.2] : List Convoy).length : Int))) <|
    chk (decide (i3.toNat < ([c, r25.2, r25.2] : List Convoy).length)) <|
    chk (decide (0 ≤ i3) && decide (i3 < ([way, r26.2.Way, way].length : Int))) <|
    chk (decide (i3.toNat < [way, r26.2.Way, way].length)) <|
    chk (decide (0 ≤ i3) && decide (i3 < (([pace, r26.2.Pace, pace] : List Span).length : Int))) <|
    chk (decide (i3.toNat < ([pace, r26.2.Pace, pace] : List Span).length)) <|
    chk (decide (0 ≤ i3) && decide (i3 < (([window, (⟨r27.2, (w64 (r27.2 + r28.2))⟩ : Span), window] : List Span).length : Int))) <|
    chk (decide (i3.toNat < ([window, (⟨r27.2, (w64 (r27.2 + r28.2))⟩ : Span), window] : List Span).length)) <|
    (rRelease (([c, r25.2, r25.2] : List Convoy).getD i3.toNat dfltConvoy) ([way, r26.2.Way, way].getD i3.toNat 0) (([pace, r26.2.Pace, pace] : List Span).getD i3.toNat dfltSpan) (([window, (⟨r27.2, (w64 (r27.2 + r28.2))⟩ : Span), window] : List Span).getD i3.toNat dfltSpan)).bind fun r31 =>
    bif (r30.1 != r31.1) then
      some false
    else
      bif (r30.2 != r31.2) then
        some false
      else
        chk (decide (0 ≤ i3) && decide (i3 < (([c, r25.2, r25.2] : List Convoy).length : Int))) <|
        chk (decide (i3.toNat < ([c, r25.2, r25.2] : List Convoy).length)) <|
        (SameConvoys r29 (([c, r25.2, r25.2] : List Convoy).getD i3.toNat dfltConvoy)).bind fun r32 =>
        bif (!r32) then
          some false
        else
          kn_3 (w64 (i3 + 1))
  else
    (awake).bind fun r33 =>
    some r33
def ConvoyReleases' (it : It Bool) (c : Convoy) (way : Int) (pace : Span) (window : Span) (nums : List Int) : Option Bool :=
  (big c).bind fun r =>
  bif r then
    (awake).bind fun r2 =>
    some r2
  else
    bif (decide (window.Hi > (w64 (window.Lo + 30)))) then
      bif (decide (window.Lo ≥ 0)) then
        bif (decide (window.Hi ≤ 10000)) then
          (awake).bind fun r3 =>
          some r3
        else
          (NewSeed nums).bind fun r4 =>
          (AcceptedOf r4 3).bind fun r5 =>
          (TruckOf r5.1 r5.2.Length 0).bind fun r6 =>
          (Below r6.1 150).bind fun r7 =>
          (Below r7.1 30).bind fun r8 =>
          it _ (fun (v_0 : (Unit × Unit × Unit × Unit × Int × Unit) × (Unit)) kn => ConvoyReleases_L9 c r5 way r6 pace window r7 r8 v_0.1.2.2.2.2.1 (fun y0 => kn (((), (), (), (), y0, ()), (())))) (((), (), (), (), 0, ()), (()))
      else
        (NewSeed nums).bind fun r14 =>
        (AcceptedOf r14 3).bind fun r15 =>
        (TruckOf r15.1 r15.2.Length 0).bind fun r16 =>
        (Below r16.1 150).bind fun r17 =>
        (Below r17.1 30).bind fun r18 =>
        it _ (fun (v_0 : (Unit × Unit × Unit × Unit × Int × Unit) × (Unit)) kn => ConvoyReleases_L9__2 c r15 way r16 pace window r17 r18 v_0.1.2.2.2.2.1 (fun y0 => kn (((), (), (), (), y0, ()), (())))) (((), (), (), (), 0, ()), (()))
    else
      (NewSeed nums).bind fun r24 =>
      (AcceptedOf r24 3).bind fun r25 =>
      (TruckOf r25.1 r25.2.Length 0).bind fun r26 =>
      (Below r26.1 150).bind fun r27 =>
      (Below r27.1 30).bind fun r28 =>
      it _ (fun (v_0 : (Unit × Unit × Unit × Unit × Int × Unit) × (Unit)) kn => ConvoyReleases_L9__3 c r25 way r26 pace window r27 r28 v_0.1.2.2.2.2.1 (fun y0 => kn (((), (), (), (), y0, ()), (())))) (((), (), (), (), 0, ()), (()))
def E13 : FEnv iseat := ⟨⟨145, [w18, w19, w20, sp49, sp50, w23], [sp26, sp46, sp32], [sp24], [], [], [], [], true⟩, [(9, ⟨⟨[(15, .osr 59), (16, .osr 64), (17, .osr 69), (18, .osr 78), (19, .v (.int .i64))], []⟩, [], [59, 64, 69, 78]⟩)]⟩
theorem e13 (it : It Bool) (c : Convoy) (way : Int) (pace : Span) (window : Span) (nums : List Int) : fnRun (ts := [.bool]) it E13 (bodyOf Tryd.f13) Tryd.f13.results.toList (encA [.Convoy, .int .i64, .Span, .Span, .sl (.int .i64)] (c, way, pace, window, nums, ())) = ConvoyReleases' it c way pace window nums := by kernel_rfl
end
end Go.Proofs.Plain04


/- One more truck: the program and the reference say the same. -/
namespace Go.Proofs.Plain04
open Go Go.Ab
open Go.Proofs.YtafnhieaeejlcaaDoor (hitR alongI freeT laneP ROk CR chkConvoy chkTruck chkTrucks chkTrucks_ok cr_of bI onL meetingP meeting_none NearB Near near_iff nearP laneP_bnd lane_end lane_two optM bigS COk)
set_option linter.all false
theorem pNear_sp {c : Convoy} {t u : Truck} (ht : ROk c.Length (oT t)) (hu : ROk c.Length (oT u)) {gap fails m : Int} (g0 : 0 ≤ gap) (g1 : gap ≤ 1000000) (m0 : -1000000 ≤ m) (m1 : m ≤ 1000000) :
    pNear ⟨gap, fails⟩ (trk ⟨t, c.Length⟩) (trk ⟨u, c.Length⟩) m = some (nearP gap (laneP (oT t) c.Length m) (laneP (oT u) c.Length m)) := by
  rw [pNear_eq]; apply ok_eq
  have l2 := ht.l2
  have b1 := laneP_bnd (m := m) ht
  have b2 := laneP_bnd (m := m) hu
  refine Ok.beq (trackLane_sp (r := ⟨t, c.Length⟩) ht m0 m1) (Ok.beq (trackLane_sp (r := ⟨u, c.Length⟩) hu m0 m1) ?_)
  simp only
  unfold nearP
  generalize laneP (oT t) c.Length m = x at *
  generalize laneP (oT u) c.Length m = y at *
  by_cases h1 : x.2 = 2
  · rw [if_pos (.inl h1)]; exact Ok.yes (by simp [h1]) (Ok.some rfl)
  by_cases h2 : y.2 = 2
  · rw [if_pos (.inr h2)]; exact Ok.no (by simp [h1]) (Ok.yes (by simp [h2]) (Ok.some rfl))
  rw [if_neg (fun hh => hh.elim h1 h2)]
  refine Ok.no (by simp [h1]) (Ok.no (by simp [h2]) ?_)
  simp only [nS]
  have e1 : w64 (y.1.lo - gap) = y.1.lo - gap := w64_id (by omega) (by omega)
  have e2 : w64 (y.1.lo - gap + 1) = y.1.lo - gap + 1 := w64_id (by omega) (by omega)
  simp only [e1, e2]
  have e3 : w64 (max x.1.lo (y.1.lo - gap + 1) - gap) = max x.1.lo (y.1.lo - gap + 1) - gap := w64_id (by omega) (by omega)
  have e4 : w64 (max x.1.lo (y.1.lo - gap + 1) - gap + 1) = max x.1.lo (y.1.lo - gap + 1) - gap + 1 := w64_id (by omega) (by omega)
  simp only [e3, e4]
  by_cases h3 : max x.1.lo (y.1.lo - gap + 1) ≤ x.1.hi
  · exact Ok.yes (decide_eq_true h3) (Ok.some (by simp [h3]))
  · exact Ok.no (decide_eq_false h3) (Ok.some (by simp [h3]))
def caseN (k : Nat) : Bool × Bool := if k = 0 then (false, false) else if k = 1 then (true, false) else if k = 2 then (false, true) else (true, true)
theorem caseN_all (b : Bool × Bool) : ∃ k, k < 4 ∧ caseN k = b := by
  obtain ⟨x, y⟩ := b
  cases x <;> cases y
  · exact ⟨0, by omega, rfl⟩
  · exact ⟨2, by omega, rfl⟩
  · exact ⟨1, by omega, rfl⟩
  · exact ⟨3, by omega, rfl⟩
/-- Somebody of two, failing as so many may, is too near to the other in a minute. -/
def NearM (gap fails : Int) (t u : OTr) (len m : Int) : Prop := ∃ b : Bool × Bool, bI b.1 + bI b.2 ≤ fails ∧ Near gap (freeT t b.1) (freeT u b.2) len m
theorem pMeets2_ok {c : Convoy} {t u : Truck} (ht : ROk c.Length (oT t)) (hu : ROk c.Length (oT u)) {gap fails m : Int} (g0 : 1 ≤ gap) (g1 : gap ≤ 1000000) (m0 : -1000000 ≤ m) (m1 : m ≤ 1000000) :
    Ok (fun r => r.2 = true ↔ NearM gap fails (oT t) (oT u) c.Length m) (pMeets2 ⟨gap, fails⟩ (lanesN c t) (lanesN c u) m) := by
  rw [pMeets2_eq]
  have hR : ∀ {x : Truck}, ROk c.Length (oT x) → ∀ b, ROk c.Length (oT (frN x b)) := fun h b => by rw [oT_frN]; exact h.free b
  have near : ∀ b : Bool × Bool, (nearP gap (laneP (oT (frN t b.1)) c.Length m) (laneP (oT (frN u b.2)) c.Length m)).2.2 = true ↔ Near gap (freeT (oT t) b.1) (freeT (oT u) b.2) c.Length m := fun b => by
    rw [near_iff (hR ht b.1) (hR hu b.2) g0, oT_frN, oT_frN]
  refine Ok.rounds (fun v => ∃ k : Nat, k ≤ 4 ∧ v.1.2.2.2.2.1 = (k : Int) ∧ ∀ j, j < k → ¬ (bI (caseN j).1 + bI (caseN j).2 ≤ fails ∧ Near gap (freeT (oT t) (caseN j).1) (freeT (oT u) (caseN j).2) c.Length m)) (fun v => (4 - v.1.2.2.2.2.1).toNat) ?_ ?_ ?_
  · show (4 - (0 : Int)).toNat < 18446744073709551616
    omega
  · exact ⟨0, by omega, rfl, fun j hj => absurd hj (Nat.not_lt_zero _)⟩
  rintro ⟨⟨_, _, _, _, i, _⟩, ⟨a1, a2, a3, a4, a5, a6, a7, _⟩, _⟩ kn ⟨k, k1, k2, k3⟩ hk
  simp only at k2 ⊢
  subst k2
  have ek : w64 ((k : Int) + 1) = ((k + 1 : Nat) : Int) := by rw [w64_id (by omega) (by omega)]; push_cast; rfl
  have nxt : k < 4 → ¬ (bI (caseN k).1 + bI (caseN k).2 ≤ fails ∧ Near gap (freeT (oT t) (caseN k).1) (freeT (oT u) (caseN k).2) c.Length m) → Ok (fun r : Meeting × Bool => r.2 = true ↔ NearM gap fails (oT t) (oT u) c.Length m) (kn (((), (), (), (), w64 ((k : Int) + 1), ()), ((a1, a2, a3, a4, a5, a6, a7, ()), ()))) := fun hk4 hno =>
    hk _ ⟨k + 1, by omega, ek, fun j hj => by
      by_cases e : j = k
      · rw [e]; exact hno
      · exact k3 j (by omega)⟩ (by simp only [ek]; omega)
  have hit : ∀ b : Bool × Bool, bI b.1 + bI b.2 ≤ fails → (nearP gap (laneP (oT (frN t b.1)) c.Length m) (laneP (oT (frN u b.2)) c.Length m)).2.2 = true → ∀ x : Meeting, Ok (fun r : Meeting × Bool => r.2 = true ↔ NearM gap fails (oT t) (oT u) c.Length m) (some (x, true)) := fun b h1 h2 x =>
    Ok.some ⟨fun _ => ⟨b, h1, (near b).1 h2⟩, fun _ => rfl⟩
  refine Ok.ite (fun hlt => ?_) fun hge => Ok.some ?_
  · have hlt : k < 4 := by have := of_decide_eq_true hlt; omega
    obtain rfl | rfl | rfl | rfl : k = 0 ∨ k = 1 ∨ k = 2 ∨ k = 3 := by omega
    · refine Ok.yes rfl ?_
      rw [w64_id (n := 0 + 0) (by omega) (by omega)]
      refine Ok.ite (fun h => nxt (by omega) fun hh => by have h' : _ > fails := of_decide_eq_true h; have := hh.1; simp [caseN, bI] at this; omega) fun h => ?_
      refine Ok.beq (pNear_sp (hR ht false) (hR hu false) (by omega) g1 m0 m1) (Ok.ite (fun h2 => hit (false, false) (by have h' : ¬ _ > fails := of_decide_eq_false h; simp [bI]; omega) h2 _) fun h2 => nxt (by omega) fun hh => ?_)
      have := (near (false, false)).2 hh.2
      rw [this] at h2; cases h2
    · refine Ok.no rfl (Ok.yes rfl ?_)
      rw [w64_id (n := 1 + 0) (by omega) (by omega)]
      refine Ok.ite (fun h => nxt (by omega) fun hh => by have h' : _ > fails := of_decide_eq_true h; have := hh.1; simp [caseN, bI] at this; omega) fun h => ?_
      refine Ok.beq (pNear_sp (hR ht true) (hR hu false) (by omega) g1 m0 m1) (Ok.ite (fun h2 => hit (true, false) (by have h' : ¬ _ > fails := of_decide_eq_false h; simp [bI]; omega) h2 _) fun h2 => nxt (by omega) fun hh => ?_)
      have := (near (true, false)).2 hh.2
      rw [this] at h2; cases h2
    · refine Ok.no rfl (Ok.no rfl (Ok.yes rfl ?_))
      rw [w64_id (n := 0 + 1) (by omega) (by omega)]
      refine Ok.ite (fun h => nxt (by omega) fun hh => by have h' : _ > fails := of_decide_eq_true h; have := hh.1; simp [caseN, bI] at this; omega) fun h => ?_
      refine Ok.beq (pNear_sp (hR ht false) (hR hu true) (by omega) g1 m0 m1) (Ok.ite (fun h2 => hit (false, true) (by have h' : ¬ _ > fails := of_decide_eq_false h; simp [bI]; omega) h2 _) fun h2 => nxt (by omega) fun hh => ?_)
      have := (near (false, true)).2 hh.2
      rw [this] at h2; cases h2
    · refine Ok.no rfl (Ok.no rfl (Ok.no rfl (Ok.yes rfl ?_)))
      rw [w64_id (n := 1 + 1) (by omega) (by omega)]
      refine Ok.ite (fun h => nxt (by omega) fun hh => by have h' : _ > fails := of_decide_eq_true h; have := hh.1; simp [caseN, bI] at this; omega) fun h => ?_
      refine Ok.beq (pNear_sp (hR ht true) (hR hu true) (by omega) g1 m0 m1) (Ok.ite (fun h2 => hit (true, true) (by have h' : ¬ _ > fails := of_decide_eq_false h; simp [bI]; omega) h2 _) fun h2 => nxt (by omega) fun hh => ?_)
      have := (near (true, true)).2 hh.2
      rw [this] at h2; cases h2
  · have hge : ¬ k < 4 := by have := of_decide_eq_false hge; omega
    refine ⟨fun h => (by cases h), fun ⟨b, h1, h2⟩ => ?_⟩
    obtain ⟨j, hj, rfl⟩ := caseN_all b
    exact absurd ⟨h1, h2⟩ (k3 j (by omega))
/-- Two trucks never meet. -/
def ApartP (gap fails : Int) (t u : OTr) (len : Int) : Prop := ∀ m, ¬ NearM gap fails t u len m
theorem freeT_start (t : OTr) (b : Bool) : (freeT t b).start = t.start := by cases b <;> rfl
theorem nearM_range {gap fails len m : Int} {t u : OTr} (ht : ROk len t) (hu : ROk len u) (h : NearM gap fails t u len m) : t.start ≤ m ∧ u.start ≤ m ∧ m < t.start + hitR t len t.lo ∧ m < u.start + hitR u len u.lo := by
  obtain ⟨b, _, g, g', h1, h2, _⟩ := h
  have a1 : t.start ≤ m := by have := h1.1; rw [freeT_start] at this; exact this
  have a2 : u.start ≤ m := by have := h2.1; rw [freeT_start] at this; exact this
  refine ⟨a1, a2, ?_, ?_⟩
  · exact Classical.byContradiction fun hn => lane_end ht b.1 (by omega) g h1
  · exact Classical.byContradiction fun hn => lane_end hu b.2 (by omega) g' h2
theorem apart_ok {c : Convoy} {t u : Truck} (ht : ROk c.Length (oT t)) (hu : ROk c.Length (oT u)) {gap fails : Int} (g0 : 1 ≤ gap) (g1 : gap ≤ 1000000) :
    Ok (fun b => b = true ↔ ApartP gap fails (oT t) (oT u) c.Length) (apart ⟨gap, fails⟩ (lanesN c t) (lanesN c u)) := by
  rw [apart_eq]
  have s1 : 0 ≤ t.Start := ht.s1
  have s2 : t.Start ≤ 10000 := ht.s2
  have s3 : 0 ≤ u.Start := hu.s1
  have s4 : u.Start ≤ 10000 := hu.s2
  have k1 := hitN_le (r := ⟨t, c.Length⟩) ht
  have k2 := hitN_le (r := ⟨u, c.Length⟩) hu
  simp only at k1 k2
  have ef : ∀ x : Truck, frN x false = x := fun _ => rfl
  refine Ok.rounds (fun v => max t.Start u.Start ≤ v.1.2.2.1 ∧ v.1.2.2.1 ≤ 100000 ∧ ∀ m, m < v.1.2.2.1 → ¬ NearM gap fails (oT t) (oT u) c.Length m) (fun v => (100000 - v.1.2.2.1).toNat) ?_ ?_ ?_
  · show (100000 - max t.Start u.Start).toNat < 18446744073709551616
    omega
  · refine ⟨Int.le_refl _, by show max t.Start u.Start ≤ 100000; omega, fun m hm hn => ?_⟩
    obtain ⟨a1, a2, _⟩ := nearM_range ht hu hn
    change m < max t.Start u.Start at hm
    change t.Start ≤ m at a1
    change u.Start ≤ m at a2
    omega
  rintro ⟨⟨_, _, m, _⟩, _⟩ kn ⟨i1, i2, i3⟩ hk
  simp only at i1 i2 i3 ⊢
  refine Ok.beq (trackEnd_sp (r := ⟨t, c.Length⟩) ht) (Ok.beq (trackEnd_sp (r := ⟨u, c.Length⟩) hu) (Ok.ite (fun hlt => ?_) fun hge => Ok.some ?_))
  · have hlt : m ≤ min (t.Start + (hitN t c.Length : Int)) (u.Start + (hitN u c.Length : Int)) := of_decide_eq_true hlt
    have em : w64 (m + 1) = m + 1 := w64_id (by omega) (by omega)
    refine Ok.bind (pMeets2_ok ht hu (fails := fails) g0 g1 (by omega) (by omega)) fun r3 h3 => Ok.ite (fun h => Ok.some ?_) fun h => hk _ ?_ ?_
    · exact ⟨fun hh => (by cases hh), fun hh => absurd (h3.1 h) (hh m)⟩
    · simp only [em]
      refine ⟨by omega, by omega, fun m' hm' => ?_⟩
      by_cases e : m' = m
      · rw [e]; intro hn; rw [h3.2 hn] at h; cases h
      · exact i3 m' (by omega)
    · simp only [em]; omega
  · have hge : ¬ m ≤ min (t.Start + (hitN t c.Length : Int)) (u.Start + (hitN u c.Length : Int)) := of_decide_eq_false hge
    refine ⟨fun _ m' hn => ?_, fun _ => rfl⟩
    obtain ⟨_, _, a3, a4⟩ := nearM_range ht hu hn
    change m' < t.Start + (hitN t c.Length : Int) at a3
    change m' < u.Start + (hitN u c.Length : Int) at a4
    exact i3 m' (by omega) hn
theorem lanesOf_sp {c : Convoy} (h : chkConvoy (oC c) = 0) : lanesOf c = some ((List.range c.Trucks.length).map fun i => lanesN c (c.Trucks.getD i dfltTruck)) := by
  rw [lanesOf_eq]; apply ok_eq
  have hf := few h
  refine Ok.rounds (fun v => ∃ k : Nat, k ≤ c.Trucks.length ∧ v.1.2.2.1 = (k : Int) ∧ v.1.2.1 = (List.range k).map fun i => lanesN c (c.Trucks.getD i dfltTruck)) (fun v => ((c.Trucks.length : Int) - v.1.2.2.1).toNat) ?_ ?_ ?_
  · show ((c.Trucks.length : Int) - 0).toNat < 18446744073709551616
    omega
  · exact ⟨0, Nat.zero_le _, rfl, rfl⟩
  rintro ⟨⟨_, out, i, _⟩, _⟩ kn ⟨k, k1, k2, k3⟩ hk
  simp only at k2 k3 ⊢
  subst k2 k3
  have ek : w64 ((k : Int) + 1) = ((k + 1 : Nat) : Int) := by rw [w64_id (by omega) (by omega)]; push_cast; rfl
  refine Ok.ite (fun hlt => ?_) fun hge => Ok.some ?_
  · have hlt : k < c.Trucks.length := by have := of_decide_eq_true hlt; omega
    refine Ok.beq (rideOf_sp hlt false) (Ok.beq (trackOf_sp (r := ⟨frN (c.Trucks.getD k dfltTruck) false, c.Length⟩) (rokF h hlt false)) (Ok.beq (rideOf_sp hlt true) (Ok.beq (trackOf_sp (r := ⟨frN (c.Trucks.getD k dfltTruck) true, c.Length⟩) (rokF h hlt true)) (Ok.chk (fitA_ok (by simp; omega) (by omega)) (hk _ ⟨k + 1, by omega, ek, ?_⟩ (by simp only [ek]; omega))))))
    exact range_snoc (fun i => lanesN c (c.Trucks.getD i dfltTruck)) k
  · have hge : k = c.Trucks.length := by have := of_decide_eq_false hge; omega
    rw [hge]
def withT (c : Convoy) (t : Truck) : Convoy := ⟨c.Length, c.Gap, c.Fails, c.Trucks ++ [t]⟩
theorem chkTrucks_snoc {c : OCv} {t : OTr} : ∀ {ts : List OTr}, (∀ x ∈ ts, chkTruck c x = 0) → chkTrucks c (ts ++ [t]) = chkTruck c t
  | [], _ => by
    show (if chkTruck c t ≠ 0 then chkTruck c t else 0) = _
    split
    · rfl
    · rename_i h; exact (Classical.not_not.1 h).symm
  | x :: ts, h => by
    show (if chkTruck c x ≠ 0 then chkTruck c x else chkTrucks c (ts ++ [t])) = _
    rw [if_neg (fun hh => hh (h x (List.mem_cons_self ..)))]
    exact chkTrucks_snoc fun y hy => h y (List.mem_cons_of_mem _ hy)
theorem trucks_zero {c : OCv} (h : chkConvoy c = 0) : chkTrucks c c.trucks = 0 := by
  unfold chkConvoy at h
  split at h; · cases h
  split at h; · cases h
  exact h
theorem chk_with {c : Convoy} (h : chkConvoy (oC c) = 0) (hn : c.Trucks.length ≤ 19) (t : Truck) : chkConvoy (oC (withT c t)) = chkTruck (oC c) (oT t) := by
  have hk := (cr_of h).ok
  have e : (oC (withT c t)).trucks = (oC c).trucks ++ [oT t] := by simp [oC, withT]
  have ht : ∀ x ∈ (oC c).trucks, chkTruck (oC (withT c t)) x = 0 := fun x hx => chkTrucks_ok (trucks_zero h) x hx
  have e2 := chkTrucks_snoc (t := oT t) ht
  have hl : (oC (withT c t)).trucks.length ≤ 20 := by rw [e]; simp [oC]; omega
  rw [show chkTruck (oC c) (oT t) = chkTruck (oC (withT c t)) (oT t) from rfl, ← e2, ← e]
  have a1 := hk.l1
  have a2 := hk.l2
  have a3 := hk.g1
  have a4 := hk.g2
  have a5 := hk.f1
  have a6 := hk.f2
  unfold chkConvoy
  rw [if_neg (fun hh => ?_), if_neg (by omega)]
  have b1 : (oC (withT c t)).len = (oC c).len := rfl
  have b2 : (oC (withT c t)).gap = (oC c).gap := rfl
  have b3 : (oC (withT c t)).fails = (oC c).fails := rfl
  rw [b1, b2, b3] at hh
  omega
theorem acc_with {c : Convoy} (h : chkConvoy (oC c) = 0) (hn : c.Trucks.length ≤ 19) {t : Truck} (ht : chkTruck (oC c) (oT t) = 0) : Acc (withT c t) ↔ meetingP (oC c) = none ∧ ∀ i, i < c.Trucks.length → ApartP c.Gap c.Fails (oT (c.Trucks.getD i dfltTruck)) (oT t) c.Length := by
  have hv : chkConvoy (oC (withT c t)) = 0 := by rw [chk_with h hn, ht]
  have hlen : (oC c).trucks.length = c.Trucks.length := by simp [oC]
  have hlen2 : (oC (withT c t)).trucks.length = c.Trucks.length + 1 := by simp [oC, withT]
  have hget : ∀ i, i < c.Trucks.length → (withT c t).Trucks.getD i dfltTruck = c.Trucks.getD i dfltTruck := fun i hi => by
    show (c.Trucks ++ [t]).getD i dfltTruck = _
    rw [getD_snoc, if_pos hi]
  have hgetn : (withT c t).Trucks.getD c.Trucks.length dfltTruck = t := by
    show (c.Trucks ++ [t]).getD _ dfltTruck = _
    rw [getD_snoc, if_neg (by omega), if_pos rfl]
  unfold Acc
  rw [meeting_none (cr_of hv), meeting_none (cr_of h), hlen, hlen2]
  constructor
  · rintro ⟨_, h1⟩
    refine ⟨fun i k hik hk b hb m hn => ?_, fun i hi m ⟨b, hb, hn⟩ => ?_⟩
    · refine h1 i k hik (by omega) b hb m ?_
      unfold NearB at hn ⊢
      rw [oC_getD, oC_getD] at hn ⊢
      rw [hget i (by omega), hget k hk]
      exact hn
    · refine h1 i c.Trucks.length hi (by omega) b hb m ?_
      unfold NearB
      rw [oC_getD, oC_getD, hget i hi, hgetn]
      exact hn
  · rintro ⟨h1, h2⟩
    refine ⟨hv, fun i k hik hk b hb m hn => ?_⟩
    unfold NearB at hn
    rw [oC_getD, oC_getD] at hn
    by_cases ek : k = c.Trucks.length
    · subst ek
      rw [hget i hik, hgetn] at hn
      exact h2 i hik m ⟨b, hb, hn⟩
    · rw [hget i (by omega), hget k (by omega)] at hn
      refine h1 i k hik (by omega) b hb m ?_
      unfold NearB
      rw [oC_getD, oC_getD]
      exact hn
theorem pCheckTruck_sp {c : Convoy} (h : chkConvoy (oC c) = 0) (way m : Int) (pace : Span) : pCheckTruck c ⟨way, m, pace, []⟩ = some (chkTruck (oC c) (oT ⟨way, m, pace, []⟩)) := by
  rw [pCheckTruck_eq]; apply ok_eq
  unfold chkTruck
  have e1 : (oT ⟨way, m, pace, []⟩).way = way := rfl
  have e2 : (oT ⟨way, m, pace, []⟩).start = m := rfl
  have e3 : (oT ⟨way, m, pace, []⟩).lo = pace.Lo := rfl
  have e4 : (oT ⟨way, m, pace, []⟩).hi = pace.Hi := rfl
  have e5 : (oC c).len = c.Length := rfl
  have e6 : (oC c).gap = c.Gap := rfl
  have e7 : (oT ⟨way, m, pace, []⟩).holds = [] := rfl
  rw [e1, e2, e3, e4, e5, e6, e7]
  refine Ok.beq (inp_sp _ _ _) ?_
  by_cases h1 : 1 ≤ way ∧ way ≤ 2
  rotate_left 1
  · rw [if_pos h1]; exact Ok.yes (by simp [h1]) (Ok.some rfl)
  rw [if_neg (fun hh => hh h1)]
  refine Ok.no (by simp [h1]) (Ok.beq (inp_sp _ _ _) ?_)
  by_cases h2 : 0 ≤ m ∧ m ≤ 10000
  rotate_left 1
  · rw [if_pos (.inl h2)]; exact Ok.yes (by simp [h2]) (Ok.some rfl)
  refine Ok.no (by simp [h2]) (Ok.beq (inp_sp _ _ _) ?_)
  by_cases h3 : 1 ≤ pace.Lo ∧ pace.Lo ≤ 1000
  rotate_left 1
  · rw [if_pos (.inr (.inl h3))]; exact Ok.yes (by simp [h3]) (Ok.some rfl)
  refine Ok.no (by simp [h3]) (Ok.beq (inp_sp _ _ _) ?_)
  by_cases h4 : 1 ≤ pace.Hi ∧ pace.Hi ≤ 1000
  rotate_left 1
  · rw [if_pos (.inr (.inr h4))]; exact Ok.yes (by simp [h4]) (Ok.some rfl)
  rw [if_neg (fun hh => hh.elim (fun x => x h2) (fun x => x.elim (fun x => x h3) (fun x => x h4)))]
  refine Ok.no (by simp [h4]) ?_
  have w1 : w64 (1000 * pace.Lo) = 1000 * pace.Lo := w64_id (by omega) (by omega)
  have w2 : w64 (2 * pace.Hi) = 2 * pace.Hi := w64_id (by omega) (by omega)
  by_cases h5 : pace.Lo > pace.Hi
  · rw [if_pos h5]; exact Ok.yes (decide_eq_true h5) (Ok.some rfl)
  rw [if_neg h5]
  refine Ok.no (decide_eq_false h5) ?_
  by_cases h6 : c.Length > 1000 * pace.Lo
  · rw [if_pos h6]; exact Ok.yes (decide_eq_true (by simp only [w1]; exact h6)) (Ok.some rfl)
  rw [if_neg h6]
  refine Ok.no (decide_eq_false (by simp only [w1]; exact h6)) ?_
  by_cases h7 : c.Gap < 2 * pace.Hi
  · rw [if_pos h7]; exact Ok.yes (decide_eq_true (by simp only [w2]; exact h7)) (Ok.some rfl)
  rw [if_neg h7]
  refine Ok.no (decide_eq_false (by simp only [w2]; exact h7)) (Ok.no rfl ?_)
  rw [if_neg (by simp)]
  refine Ok.rounds (fun v => v.1.2.2.2.1 = 0) (fun v => 0) (by decide) rfl ?_
  rintro ⟨⟨_, _, _, i, _⟩, _⟩ kn hi hk
  simp only at hi ⊢
  subst hi
  exact Ok.no rfl (Ok.some rfl)
/-- The truck more, at a start. -/
def moreT (way : Int) (pace : Span) (m : Int) : Truck := ⟨way, m, pace, []⟩
theorem chk_start {c : OCv} {way : Int} {pace : Span} {m : Int} (m0 : 0 ≤ m) (m1 : m ≤ 10000) : chkTruck c (oT (moreT way pace m)) = chkTruck c (oT (moreT way pace 0)) := by
  unfold chkTruck
  have e1 : ∀ x, (oT (moreT way pace x)).way = way := fun _ => rfl
  have e2 : ∀ x, (oT (moreT way pace x)).start = x := fun _ => rfl
  have e3 : ∀ x, (oT (moreT way pace x)).lo = pace.Lo := fun _ => rfl
  have e4 : ∀ x, (oT (moreT way pace x)).hi = pace.Hi := fun _ => rfl
  have e7 : ∀ x, (oT (moreT way pace x)).holds = [] := fun _ => rfl
  simp only [e1, e2, e3, e4, e7]
  have : (¬(0 ≤ m ∧ m ≤ 10000)) = (¬((0 : Int) ≤ 0 ∧ (0 : Int) ≤ 10000)) := by
    rw [eq_iff_iff]; omega
  simp only [this]
def relErr (c : Convoy) (way : Int) (pace w : Span) : Int :=
  if chkConvoy (oC c) ≠ 0 then chkConvoy (oC c) else if c.Trucks.length = 20 then 8 else if chkTruck (oC c) (oT (moreT way pace 0)) ≠ 0 then chkTruck (oC c) (oT (moreT way pace 0))
  else if ¬ (0 ≤ w.Lo ∧ w.Lo ≤ 10000) ∨ ¬ (0 ≤ w.Hi ∧ w.Hi ≤ 10000) then 2 else if w.Lo > w.Hi then 11 else 0
def accW (c : Convoy) (way : Int) (pace : Span) (m : Int) : Prop := Acc (withT c (moreT way pace m))
/-- What a release is. -/
def IsRel (c : Convoy) (way : Int) (pace w : Span) (r : Int × Int) : Prop :=
  (relErr c way pace w ≠ 0 → r = (0, relErr c way pace w)) ∧
  (relErr c way pace w = 0 → (∃ m, w.Lo ≤ m ∧ m ≤ w.Hi ∧ accW c way pace m ∧ (∀ k, w.Lo ≤ k → k < m → ¬ accW c way pace k) ∧ r = (m, 0)) ∨ ((∀ k, w.Lo ≤ k → k ≤ w.Hi → ¬ accW c way pace k) ∧ r = (0, 7)))
theorem releaseC_ok {c : Convoy} {t : Truck} {way m : Int} {pace : Span} (ht : ROk c.Length (oT t)) (hu : ROk c.Length (oT (moreT way pace m))) {gap fails : Int} (g0 : 1 ≤ gap) (g1 : gap ≤ 1000000) :
    Ok (fun b => b = true ↔ ¬ ApartP gap fails (oT t) (oT (moreT way pace m)) c.Length) (ReleaseC (lanesN c t) ⟨gap, fails⟩ (trk ⟨moreT way pace m, c.Length⟩)) := by
  rw [ReleaseC_eq]
  refine Ok.bind (apart_ok ht hu (gap := gap) (fails := fails) g0 g1) fun r hr => Ok.some ?_
  cases r with
  | true => exact ⟨fun h => (by cases h), fun h => absurd (hr.1 rfl) h⟩
  | false => exact ⟨fun _ h => (by have := hr.2 h; cases this), fun _ => rfl⟩
theorem containsLanes_ok {c : Convoy} (h : chkConvoy (oC c) = 0) {way m : Int} {pace : Span} (hu : ROk c.Length (oT (moreT way pace m))) :
    Ok (fun b => b = true ↔ ∃ i, i < c.Trucks.length ∧ ¬ ApartP c.Gap c.Fails (oT (c.Trucks.getD i dfltTruck)) (oT (moreT way pace m)) c.Length) (ContainsLanes ((List.range c.Trucks.length).map fun i => lanesN c (c.Trucks.getD i dfltTruck)) (⟨c.Gap, c.Fails⟩, trk ⟨moreT way pace m, c.Length⟩)) := by
  rw [ContainsLanes_eq]
  have hf := few h
  have g0 := (cr_of h).ok.g1
  have g1 := (cr_of h).ok.g2
  refine Ok.bind (P := fun r : Int => r ≥ 0 ↔ ∃ i, i < c.Trucks.length ∧ ¬ ApartP c.Gap c.Fails (oT (c.Trucks.getD i dfltTruck)) (oT (moreT way pace m)) c.Length) ?_ fun r hr => Ok.some ?_
  · rw [IndexLanes_eq]
    refine Ok.rounds (fun v => ∃ k : Nat, k ≤ c.Trucks.length ∧ v.1.1 = (k : Int) ∧ ∀ j, j < k → ApartP c.Gap c.Fails (oT (c.Trucks.getD j dfltTruck)) (oT (moreT way pace m)) c.Length) (fun v => ((c.Trucks.length : Int) - v.1.1).toNat) ?_ ?_ ?_
    · show ((c.Trucks.length : Int) - 0).toNat < 18446744073709551616
      omega
    · exact ⟨0, Nat.zero_le _, rfl, fun j hj => absurd hj (Nat.not_lt_zero _)⟩
    rintro ⟨⟨i, _⟩, _⟩ kn ⟨k, k1, k2, k3⟩ hk
    simp only at k2 ⊢
    subst k2
    have ek : w64 ((k : Int) + 1) = ((k + 1 : Nat) : Int) := by rw [w64_id (by omega) (by omega)]; push_cast; rfl
    refine Ok.ite (fun hlt => ?_) fun hge => Ok.some ?_
    · have hlt : k < c.Trucks.length := by have := of_decide_eq_true hlt; rw [len_range] at this; omega
      refine Ok.chk (ib (by omega) (by rw [len_range]; omega)) ?_
      rw [Int.toNat_natCast, getD_range _ _ hlt]
      refine Ok.bind (releaseC_ok (rok_ h hlt) hu (fails := c.Fails) g0 (show c.Gap ≤ 1000000 by have : c.Gap ≤ 100000 := g1; omega)) fun r hr => Ok.ite (fun h1 => Ok.some ?_) fun h1 => hk _ ⟨k + 1, by omega, ek, fun j hj => ?_⟩ (by simp only [ek]; omega)
      · exact ⟨fun _ => ⟨k, hlt, hr.1 h1⟩, fun _ => by omega⟩
      · by_cases e : j = k
        · rw [e]; exact Classical.byContradiction fun hn => by have := hr.2 hn; rw [this] at h1; cases h1
        · exact k3 j (by omega)
    · have hge : ¬ k < c.Trucks.length := by have := of_decide_eq_false hge; rw [len_range] at this; omega
      exact ⟨fun h => absurd h (by decide), fun ⟨i, hi, hn⟩ => absurd (k3 i (by omega)) hn⟩
  · rw [decide_eq_true_iff]; exact hr
theorem more_rok {c : Convoy} (h : chkConvoy (oC c) = 0) {way m : Int} {pace : Span} (ht : chkTruck (oC c) (oT (moreT way pace 0)) = 0) (m0 : 0 ≤ m) (m1 : m ≤ 10000) : ROk c.Length (oT (moreT way pace m)) :=
  Go.Proofs.YtafnhieaeejlcaaDoor.rok_of (c := oC c) (lens h).1 (lens h).2 (by rw [chk_start m0 m1]; exact ht)
theorem pRelease_ok (c : Convoy) (way : Int) (pace w : Span) : Ok (IsRel c way pace w) (pRelease c way pace w) := by
  rw [pRelease_eq]
  have bad : ∀ e, e = relErr c way pace w → e ≠ 0 → Ok (IsRel c way pace w) (some (0, e)) := fun e h1 h2 => Ok.some ⟨fun _ => by rw [h1], fun h => absurd h (h1 ▸ h2)⟩
  refine Ok.beq (pCheck_eq c) ?_
  by_cases h : chkConvoy (oC c) = 0
  rotate_left 1
  · exact Ok.yes (by simpa using h) (bad _ (by unfold relErr; rw [if_pos h]) h)
  refine Ok.no (by simpa using h) ?_
  have hf := few h
  by_cases h2 : c.Trucks.length = 20
  · exact Ok.yes (by simp [h2]) (bad 8 (by unfold relErr; rw [if_neg (fun hh => hh h), if_pos h2]) (by decide))
  refine Ok.no (by simp; omega) (Ok.beq (pCheckTruck_sp h way 0 pace) ?_)
  rw [show (⟨way, 0, pace, []⟩ : Truck) = moreT way pace 0 from rfl]
  by_cases h3 : chkTruck (oC c) (oT (moreT way pace 0)) = 0
  rotate_left 1
  · exact Ok.yes (by simpa using h3) (bad _ (by unfold relErr; rw [if_neg (fun hh => hh h), if_neg h2, if_pos h3]) h3)
  refine Ok.no (by simpa using h3) (Ok.beq (inp_sp _ _ _) ?_)
  have base : relErr c way pace w = if ¬ (0 ≤ w.Lo ∧ w.Lo ≤ 10000) ∨ ¬ (0 ≤ w.Hi ∧ w.Hi ≤ 10000) then 2 else if w.Lo > w.Hi then 11 else 0 := by
    unfold relErr; rw [if_neg (fun hh => hh h), if_neg h2, if_neg (fun hh => hh h3)]
  by_cases h4 : 0 ≤ w.Lo ∧ w.Lo ≤ 10000
  rotate_left 1
  · exact Ok.yes (by simp [h4]) (bad 2 (by rw [base, if_pos (.inl h4)]) (by decide))
  refine Ok.no (by simp [h4]) (Ok.beq (inp_sp _ _ _) ?_)
  by_cases h5 : 0 ≤ w.Hi ∧ w.Hi ≤ 10000
  rotate_left 1
  · exact Ok.yes (by simp [h5]) (bad 2 (by rw [base, if_pos (.inr h5)]) (by decide))
  refine Ok.no (by simp [h5]) ?_
  rw [if_neg (fun hh => hh.elim (fun x => x h4) (fun x => x h5))] at base
  by_cases h6 : w.Lo > w.Hi
  · exact Ok.yes (decide_eq_true h6) (bad 11 (by rw [base, if_pos h6]) (by decide))
  refine Ok.no (decide_eq_false h6) ?_
  rw [if_neg h6] at base
  have hacc : ∀ m, 0 ≤ m → m ≤ 10000 → (accW c way pace m ↔ meetingP (oC c) = none ∧ ∀ i, i < c.Trucks.length → ApartP c.Gap c.Fails (oT (c.Trucks.getD i dfltTruck)) (oT (moreT way pace m)) c.Length) := fun m m0 m1 =>
    acc_with h (by omega) (by rw [chk_start m0 m1]; exact h3)
  refine Ok.beq (a := (nM (optM (meetingP (oC c))), (meetingP (oC c)).isSome)) (by rw [meeting_eq, h]; rfl) ?_
  cases hm : meetingP (oC c) with
  | some x =>
    refine Ok.yes rfl (Ok.some ⟨fun hh => absurd base hh, fun _ => .inr ⟨fun k a b hk => ?_, rfl⟩⟩)
    have := ((hacc k (by omega) (by omega)).1 hk).1
    rw [hm] at this; cases this
  | none =>
    refine Ok.no rfl (Ok.beq (lanesOf_sp h) ?_)
    refine Ok.rounds (fun v => w.Lo ≤ v.2.1.2.1 ∧ v.2.1.2.1 ≤ w.Hi + 1 ∧ v.2.1.1 = way ∧ v.2.1.2.2.1 = pace.Lo ∧ v.2.1.2.2.2.1 = pace.Hi ∧ v.2.1.2.2.2.2.1 = [] ∧ ∀ k, w.Lo ≤ k → k < v.2.1.2.1 → ¬ accW c way pace k) (fun v => (w.Hi + 1 - v.2.1.2.1).toNat) ?_ ?_ ?_
    · show (w.Hi + 1 - w.Lo).toNat < 18446744073709551616
      omega
    · exact ⟨Int.le_refl _, by show w.Lo ≤ w.Hi + 1; omega, rfl, rfl, rfl, rfl, fun k a b => by simp only at b; omega⟩
    rintro ⟨_, ⟨a1, m, a3, a4, a5, _⟩, _⟩ kn ⟨i1, i2, i3, i4, i5, i6, i7⟩ hk
    simp only at i1 i2 i3 i4 i5 i6 i7 ⊢
    subst i3 i4 i5 i6
    have em : w64 (m + 1) = m + 1 := w64_id (by omega) (by omega)
    refine Ok.ite (fun hlt => ?_) fun hge => Ok.some ?_
    · have hlt := of_decide_eq_true hlt
      have hu := more_rok h h3 (show 0 ≤ m by omega) (show m ≤ 10000 by omega)
      refine Ok.beq (trackOf_sp (r := ⟨moreT a1 pace m, c.Length⟩) hu) (Ok.bind (containsLanes_ok h hu) fun r hr => ?_)
      have hiff : r = false ↔ accW c a1 pace m := by
        rw [hacc m (by omega) (by omega)]
        constructor
        · intro hr'
          refine ⟨hm, fun i hi => Classical.byContradiction fun hn => ?_⟩
          have := hr.2 ⟨i, hi, hn⟩
          rw [hr'] at this; cases this
        · rintro ⟨_, h2⟩
          cases hr' : r with
          | false => rfl
          | true =>
            obtain ⟨i, hi, hn⟩ := hr.1 hr'
            exact absurd (h2 i hi) hn
      refine Ok.ite (fun h1 => Ok.some ?_) fun h1 => hk _ ?_ ?_
      · have hr' : r = false := by simpa using h1
        exact ⟨fun hh => absurd base hh, fun _ => .inl ⟨m, i1, by omega, hiff.1 hr', i7, rfl⟩⟩
      · have hr' : r = true := by simpa using h1
        simp only [em]
        refine ⟨by omega, by omega, trivial, trivial, trivial, trivial, fun k a b' => ?_⟩
        by_cases e : k = m
        · rw [e]; intro hh; rw [hiff.2 hh] at hr'; cases hr'
        · exact i7 k a (by omega)
      · simp only [em]; omega
    · have hge := of_decide_eq_false hge
      exact ⟨fun hh => absurd base hh, fun _ => .inr ⟨fun k a b => i7 k a (by omega), rfl⟩⟩
end Go.Proofs.Plain04


/- Convoys of ones own. Written out by gen2.py (ours). -/
namespace Go.Proofs.Plain04
open Go Go.Ab
open Go.Proofs.YtafnhieaeejlcaaDoor (iseat)
set_option linter.all false
set_option maxRecDepth 100000
noncomputable section
def OwnConvoyO_L3 (i : Int) (c_Length : Int) (c_Gap : Int) (c_Fails : Int) (c_Trucks : List Truck) (kn_ : Int → Int → Int → Int → (List Truck) → Option Convoy) : Option Convoy :=
  bif (decide (i < (c_Trucks.length : Int))) then
    chk (decide (0 ≤ i) && decide (i < (c_Trucks.length : Int))) <|
    chk (decide (i.toNat < c_Trucks.length)) <|
    chk (fitA (([] : List Hold).length + ((c_Trucks.getD i.toNat dfltTruck).Holds).length) 16) <|
    chk (decide (0 ≤ i) && decide (i < (c_Trucks.length : Int))) <|
    chk (decide (i.toNat < c_Trucks.length)) <|
    chk (decide (i.toNat < c_Trucks.length)) <|
    kn_ (w64 (i + 1)) c_Length c_Gap c_Fails (c_Trucks.set i.toNat (⟨(c_Trucks.getD i.toNat dfltTruck).Way, (c_Trucks.getD i.toNat dfltTruck).Start, (c_Trucks.getD i.toNat dfltTruck).Pace, (([] : List Hold) ++ (c_Trucks.getD i.toNat dfltTruck).Holds)⟩ : Truck))
  else
    some (⟨c_Length, c_Gap, c_Fails, c_Trucks⟩ : Convoy)
def OwnConvoyO' (it : It Convoy) (c : Convoy) : Option Convoy :=
  chk (fitA (([] : List Truck).length + c.Trucks.length) 56) <|
  it _ (fun (v_0 : (Unit × Unit × Int × Unit) × ((Int × Int × Int × (List Truck) × Unit) × Unit)) kn => OwnConvoyO_L3 v_0.1.2.2.1 v_0.2.1.1 v_0.2.1.2.1 v_0.2.1.2.2.1 v_0.2.1.2.2.2.1 (fun y0 y1 y2 y3 y4 => kn (((), (), y0, ()), ((y1, y2, y3, y4, ()), ())))) (((), (), 0, ()), ((c.Length, c.Gap, c.Fails, (([] : List Truck) ++ c.Trucks), ()), ()))
def OwnConvoyO : Convoy → Option Convoy := opq (fun c => OwnConvoyO' itN c)
theorem OwnConvoyO_eq (c : Convoy) : OwnConvoyO c = OwnConvoyO' itN c := by unfold OwnConvoyO; rw [opq_eq]
def E20 : FEnv iseat := ⟨⟨30, [], [], [], [], [], [], [], true⟩, [(3, ⟨⟨[(1, .bx 1 0), (2, .bx 2 0), (3, .v (.int .i64))], [(1, [.v (.int .i64), .v (.int .i64), .v (.int .i64), .os 4 50 .Truck])]⟩, [], [2]⟩)]⟩
theorem e20 (it : It Convoy) (c : Convoy) : fnRunO .Convoy 3 50 .Truck it E20 (bodyOf Tryd.f20) Tryd.f20.results.toList (encA [.Convoy] (c, ())) = OwnConvoyO' it c := by kernel_rfl
def sp20 : FnSpecO iseat.toSeat := mkSpecO iseat.toSeat 20 [.Convoy] .Convoy 3 50 .Truck (fun a => OwnConvoyO a.1) (fun a x hx l d hd h => fn_contractO (Z := iseat) (ats := [.Convoy]) (E := E20) (fn := Tryd.f20) (c := bodyOf Tryd.f20) Tryd.func20 (by kernel_rfl) (by kernel_rfl) (by kernel_rfl) (by kernel_rfl) rfl ((e20 itN a.1).trans ((OwnConvoyO_eq a.1).symm.trans hx)) hd h)
def ConvoyLets_L10 (r6 : Span) (r7 : (Int × Int)) (r2 : (Seed × Convoy)) (m : Int) (t_Way : Int) (t_Start : Int) (t_Pace_Lo : Int) (t_Pace_Hi : Int) (t_Holds : List Hold) (kn_ : Int → Int → Int → Int → Int → (List Hold) → Option Bool) : Option Bool :=
  bif (decide (m ≤ r6.Hi)) then
    bif (r7.2 != 0) then
      (OwnConvoyO r2.2).bind fun r9 =>
      chk (fitA (r9.Trucks.length + ([(⟨t_Way, m, ⟨t_Pace_Lo, t_Pace_Hi⟩, t_Holds⟩ : Truck)] : List Truck).length) 56) <|
      (pMeets (⟨r9.Length, r9.Gap, r9.Fails, (r9.Trucks ++ ([(⟨t_Way, m, ⟨t_Pace_Lo, t_Pace_Hi⟩, t_Holds⟩ : Truck)] : List Truck))⟩ : Convoy)).bind fun r10 =>
      bif (r7.2 == 0) then
        bif (!((r10.2 == 7) == (m == r7.1))) then
          some false
        else
          kn_ (w64 (m + 1)) t_Way m t_Pace_Lo t_Pace_Hi t_Holds
      else
        bif (!((r10.2 == 7) == false)) then
          some false
        else
          kn_ (w64 (m + 1)) t_Way m t_Pace_Lo t_Pace_Hi t_Holds
    else
      bif (decide (m ≤ r7.1)) then
        (OwnConvoyO r2.2).bind fun r11 =>
        chk (fitA (r11.Trucks.length + ([(⟨t_Way, m, ⟨t_Pace_Lo, t_Pace_Hi⟩, t_Holds⟩ : Truck)] : List Truck).length) 56) <|
        (pMeets (⟨r11.Length, r11.Gap, r11.Fails, (r11.Trucks ++ ([(⟨t_Way, m, ⟨t_Pace_Lo, t_Pace_Hi⟩, t_Holds⟩ : Truck)] : List Truck))⟩ : Convoy)).bind fun r12 =>
        bif (r7.2 == 0) then
          bif (!((r12.2 == 7) == (m == r7.1))) then
            some false
          else
            kn_ (w64 (m + 1)) t_Way m t_Pace_Lo t_Pace_Hi t_Holds
        else
          bif (!((r12.2 == 7) == false)) then
            some false
          else
            kn_ (w64 (m + 1)) t_Way m t_Pace_Lo t_Pace_Hi t_Holds
      else
        (awake).bind fun r13 =>
        some r13
  else
    (awake).bind fun r14 =>
    some r14
def ConvoyLets_L10__2 (r6 : Span) (r7 : (Int × Int)) (r2 : (Seed × Convoy)) (m2 : Int) (t_Way2 : Int) (t_Start2 : Int) (t_Pace_Lo2 : Int) (t_Pace_Hi2 : Int) (t_Holds2 : List Hold) (kn_2 : Int → Int → Int → Int → Int → (List Hold) → Option Bool) : Option Bool :=
  bif (decide (m2 ≤ r6.Hi)) then
    bif (r7.2 != 0) then
      (OwnConvoyO r2.2).bind fun r15 =>
      chk (fitA (r15.Trucks.length + ([(⟨t_Way2, m2, ⟨t_Pace_Lo2, t_Pace_Hi2⟩, t_Holds2⟩ : Truck)] : List Truck).length) 56) <|
      (pMeets (⟨r15.Length, r15.Gap, r15.Fails, (r15.Trucks ++ ([(⟨t_Way2, m2, ⟨t_Pace_Lo2, t_Pace_Hi2⟩, t_Holds2⟩ : Truck)] : List Truck))⟩ : Convoy)).bind fun r16 =>
      bif (r7.2 == 0) then
        bif (!((r16.2 == 7) == (m2 == r7.1))) then
          some false
        else
          kn_2 (w64 (m2 + 1)) t_Way2 m2 t_Pace_Lo2 t_Pace_Hi2 t_Holds2
      else
        bif (!((r16.2 == 7) == false)) then
          some false
        else
          kn_2 (w64 (m2 + 1)) t_Way2 m2 t_Pace_Lo2 t_Pace_Hi2 t_Holds2
    else
      bif (decide (m2 ≤ r7.1)) then
        (OwnConvoyO r2.2).bind fun r17 =>
        chk (fitA (r17.Trucks.length + ([(⟨t_Way2, m2, ⟨t_Pace_Lo2, t_Pace_Hi2⟩, t_Holds2⟩ : Truck)] : List Truck).length) 56) <|
        (pMeets (⟨r17.Length, r17.Gap, r17.Fails, (r17.Trucks ++ ([(⟨t_Way2, m2, ⟨t_Pace_Lo2, t_Pace_Hi2⟩, t_Holds2⟩ : Truck)] : List Truck))⟩ : Convoy)).bind fun r18 =>
        bif (r7.2 == 0) then
          bif (!((r18.2 == 7) == (m2 == r7.1))) then
            some false
          else
            kn_2 (w64 (m2 + 1)) t_Way2 m2 t_Pace_Lo2 t_Pace_Hi2 t_Holds2
        else
          bif (!((r18.2 == 7) == false)) then
            some false
          else
            kn_2 (w64 (m2 + 1)) t_Way2 m2 t_Pace_Lo2 t_Pace_Hi2 t_Holds2
      else
        (awake).bind fun r19 =>
        some r19
  else
    (awake).bind fun r20 =>
    some r20
def ConvoyLets_L10__3 (r6 : Span) (r7 : (Int × Int)) (r2 : (Seed × Convoy)) (m3 : Int) (t_Way3 : Int) (t_Start3 : Int) (t_Pace_Lo3 : Int) (t_Pace_Hi3 : Int) (t_Holds3 : List Hold) (kn_3 : Int → Int → Int → Int → Int → (List Hold) → Option Bool) : Option Bool :=
  bif (decide (m3 ≤ r6.Hi)) then
    bif (r7.2 != 0) then
      (OwnConvoyO r2.2).bind fun r22 =>
      chk (fitA (r22.Trucks.length + ([(⟨t_Way3, m3, ⟨t_Pace_Lo3, t_Pace_Hi3⟩, t_Holds3⟩ : Truck)] : List Truck).length) 56) <|
      (pMeets (⟨r22.Length, r22.Gap, r22.Fails, (r22.Trucks ++ ([(⟨t_Way3, m3, ⟨t_Pace_Lo3, t_Pace_Hi3⟩, t_Holds3⟩ : Truck)] : List Truck))⟩ : Convoy)).bind fun r23 =>
      bif (r7.2 == 0) then
        bif (!((r23.2 == 7) == (m3 == r7.1))) then
          some false
        else
          kn_3 (w64 (m3 + 1)) t_Way3 m3 t_Pace_Lo3 t_Pace_Hi3 t_Holds3
      else
        bif (!((r23.2 == 7) == false)) then
          some false
        else
          kn_3 (w64 (m3 + 1)) t_Way3 m3 t_Pace_Lo3 t_Pace_Hi3 t_Holds3
    else
      bif (decide (m3 ≤ r7.1)) then
        (OwnConvoyO r2.2).bind fun r24 =>
        chk (fitA (r24.Trucks.length + ([(⟨t_Way3, m3, ⟨t_Pace_Lo3, t_Pace_Hi3⟩, t_Holds3⟩ : Truck)] : List Truck).length) 56) <|
        (pMeets (⟨r24.Length, r24.Gap, r24.Fails, (r24.Trucks ++ ([(⟨t_Way3, m3, ⟨t_Pace_Lo3, t_Pace_Hi3⟩, t_Holds3⟩ : Truck)] : List Truck))⟩ : Convoy)).bind fun r25 =>
        bif (r7.2 == 0) then
          bif (!((r25.2 == 7) == (m3 == r7.1))) then
            some false
          else
            kn_3 (w64 (m3 + 1)) t_Way3 m3 t_Pace_Lo3 t_Pace_Hi3 t_Holds3
        else
          bif (!((r25.2 == 7) == false)) then
            some false
          else
            kn_3 (w64 (m3 + 1)) t_Way3 m3 t_Pace_Lo3 t_Pace_Hi3 t_Holds3
      else
        (awake).bind fun r26 =>
        some r26
  else
    (awake).bind fun r27 =>
    some r27
def ConvoyLets_L10__4 (r6 : Span) (r7 : (Int × Int)) (r2 : (Seed × Convoy)) (m4 : Int) (t_Way4 : Int) (t_Start4 : Int) (t_Pace_Lo4 : Int) (t_Pace_Hi4 : Int) (t_Holds4 : List Hold) (kn_4 : Int → Int → Int → Int → Int → (List Hold) → Option Bool) : Option Bool :=
  bif (decide (m4 ≤ r6.Hi)) then
    bif (r7.2 != 0) then
      (OwnConvoyO r2.2).bind fun r28 =>
      chk (fitA (r28.Trucks.length + ([(⟨t_Way4, m4, ⟨t_Pace_Lo4, t_Pace_Hi4⟩, t_Holds4⟩ : Truck)] : List Truck).length) 56) <|
      (pMeets (⟨r28.Length, r28.Gap, r28.Fails, (r28.Trucks ++ ([(⟨t_Way4, m4, ⟨t_Pace_Lo4, t_Pace_Hi4⟩, t_Holds4⟩ : Truck)] : List Truck))⟩ : Convoy)).bind fun r29 =>
      bif (r7.2 == 0) then
        bif (!((r29.2 == 7) == (m4 == r7.1))) then
          some false
        else
          kn_4 (w64 (m4 + 1)) t_Way4 m4 t_Pace_Lo4 t_Pace_Hi4 t_Holds4
      else
        bif (!((r29.2 == 7) == false)) then
          some false
        else
          kn_4 (w64 (m4 + 1)) t_Way4 m4 t_Pace_Lo4 t_Pace_Hi4 t_Holds4
    else
      bif (decide (m4 ≤ r7.1)) then
        (OwnConvoyO r2.2).bind fun r30 =>
        chk (fitA (r30.Trucks.length + ([(⟨t_Way4, m4, ⟨t_Pace_Lo4, t_Pace_Hi4⟩, t_Holds4⟩ : Truck)] : List Truck).length) 56) <|
        (pMeets (⟨r30.Length, r30.Gap, r30.Fails, (r30.Trucks ++ ([(⟨t_Way4, m4, ⟨t_Pace_Lo4, t_Pace_Hi4⟩, t_Holds4⟩ : Truck)] : List Truck))⟩ : Convoy)).bind fun r31 =>
        bif (r7.2 == 0) then
          bif (!((r31.2 == 7) == (m4 == r7.1))) then
            some false
          else
            kn_4 (w64 (m4 + 1)) t_Way4 m4 t_Pace_Lo4 t_Pace_Hi4 t_Holds4
        else
          bif (!((r31.2 == 7) == false)) then
            some false
          else
            kn_4 (w64 (m4 + 1)) t_Way4 m4 t_Pace_Lo4 t_Pace_Hi4 t_Holds4
      else
        (awake).bind fun r32 =>
        some r32
  else
    (awake).bind fun r33 =>
    some r33
def ConvoyLets' (it : It Bool) (nums : List Int) : Option Bool :=
  (NewSeed nums).bind fun r =>
  (AcceptedOf r 3).bind fun r2 =>
  (TruckOf r2.1 r2.2.Length 0).bind fun r3 =>
  (Below r3.1 200).bind fun r4 =>
  (Below r4.1 31).bind fun r5 =>
  (span r4.2 (w64 (r4.2 + r5.2))).bind fun r6 =>
  (pRelease r2.2 r3.2.Way r3.2.Pace r6).bind fun r7 =>
  bif (r7.2 != 0) then
    bif (r7.2 != 7) then
      some false
    else
      bif (r7.2 == 0) then
        (Has r6 r7.1).bind fun r8 =>
        bif (!r8) then
          some false
        else
          it _ (fun (v_0 : (Unit × Unit × Unit × Int × Unit) × ((Int × Int × Int × Int × (List Hold) × Unit) × Unit)) kn => ConvoyLets_L10 r6 r7 r2 v_0.1.2.2.2.1 v_0.2.1.1 v_0.2.1.2.1 v_0.2.1.2.2.1 v_0.2.1.2.2.2.1 v_0.2.1.2.2.2.2.1 (fun y0 y1 y2 y3 y4 y5 => kn (((), (), (), y0, ()), ((y1, y2, y3, y4, y5, ()), ())))) (((), (), (), r6.Lo, ()), ((r3.2.Way, r3.2.Start, r3.2.Pace.Lo, r3.2.Pace.Hi, r3.2.Holds, ()), ()))
      else
        it _ (fun (v_0 : (Unit × Unit × Unit × Int × Unit) × ((Int × Int × Int × Int × (List Hold) × Unit) × Unit)) kn => ConvoyLets_L10__2 r6 r7 r2 v_0.1.2.2.2.1 v_0.2.1.1 v_0.2.1.2.1 v_0.2.1.2.2.1 v_0.2.1.2.2.2.1 v_0.2.1.2.2.2.2.1 (fun y0 y1 y2 y3 y4 y5 => kn (((), (), (), y0, ()), ((y1, y2, y3, y4, y5, ()), ())))) (((), (), (), r6.Lo, ()), ((r3.2.Way, r3.2.Start, r3.2.Pace.Lo, r3.2.Pace.Hi, r3.2.Holds, ()), ()))
  else
    bif (r7.2 == 0) then
      (Has r6 r7.1).bind fun r21 =>
      bif (!r21) then
        some false
      else
        it _ (fun (v_0 : (Unit × Unit × Unit × Int × Unit) × ((Int × Int × Int × Int × (List Hold) × Unit) × Unit)) kn => ConvoyLets_L10__3 r6 r7 r2 v_0.1.2.2.2.1 v_0.2.1.1 v_0.2.1.2.1 v_0.2.1.2.2.1 v_0.2.1.2.2.2.1 v_0.2.1.2.2.2.2.1 (fun y0 y1 y2 y3 y4 y5 => kn (((), (), (), y0, ()), ((y1, y2, y3, y4, y5, ()), ())))) (((), (), (), r6.Lo, ()), ((r3.2.Way, r3.2.Start, r3.2.Pace.Lo, r3.2.Pace.Hi, r3.2.Holds, ()), ()))
    else
      it _ (fun (v_0 : (Unit × Unit × Unit × Int × Unit) × ((Int × Int × Int × Int × (List Hold) × Unit) × Unit)) kn => ConvoyLets_L10__4 r6 r7 r2 v_0.1.2.2.2.1 v_0.2.1.1 v_0.2.1.2.1 v_0.2.1.2.2.1 v_0.2.1.2.2.2.1 v_0.2.1.2.2.2.2.1 (fun y0 y1 y2 y3 y4 y5 => kn (((), (), (), y0, ()), ((y1, y2, y3, y4, y5, ()), ())))) (((), (), (), r6.Lo, ()), ((r3.2.Way, r3.2.Start, r3.2.Pace.Lo, r3.2.Pace.Hi, r3.2.Holds, ()), ()))
def ConvoyLets : (List Int) → Option Bool := opq (fun nums => ConvoyLets' itN nums)
theorem ConvoyLets_eq (nums : List Int) : ConvoyLets nums = ConvoyLets' itN nums := by unfold ConvoyLets; rw [opq_eq]
def E14 : FEnv iseat := ⟨⟨99, [sp41, sp49, sp40, w27, w19], [sp26, sp46, sp32], [sp24], [sp20], [], [80], [], true⟩, [(10, ⟨⟨[(4, .bx 4 0), (5, .bx 5 0), (7, .bx 7 0), (10, .v (.int .i64))], [(5, [.v (.int .i64), .v (.int .i64), .v (.int .i64), .v (.int .i64), .v (.sl .Hold)])]⟩, [8, 9], [4, 7]⟩)]⟩
theorem e14 (it : It Bool) (nums : List Int) : fnRun (ts := [.bool]) it E14 (bodyOf Tryd.f14) Tryd.f14.results.toList (encA [.sl (.int .i64)] (nums, ())) = ConvoyLets' it nums := by kernel_rfl
end
end Go.Proofs.Plain04


/- Releases, minute by minute. -/
namespace Go.Proofs.Plain04
open Go Go.Ab
open Go.Proofs.YtafnhieaeejlcaaDoor (chkConvoy chkTruck cr_of bI)
set_option linter.all false
theorem set_self {l : List Truck} {i : Nat} (hi : i < l.length) : l.set i (⟨(l.getD i dfltTruck).Way, (l.getD i dfltTruck).Start, (l.getD i dfltTruck).Pace, ([] : List Hold) ++ (l.getD i dfltTruck).Holds⟩ : Truck) = l := by
  have e : (⟨(l.getD i dfltTruck).Way, (l.getD i dfltTruck).Start, (l.getD i dfltTruck).Pace, ([] : List Hold) ++ (l.getD i dfltTruck).Holds⟩ : Truck) = l.getD i dfltTruck := rfl
  rw [e, List.getD_eq_getElem?_getD, List.getElem?_eq_getElem hi]
  simp
theorem OwnConvoyO_sp {c : Convoy} (h : fit25 c = true) : OwnConvoyO c = some c := by
  rw [OwnConvoyO_eq]; apply ok_eq
  simp only [fit25, Bool.and_eq_true, decide_eq_true_eq, List.all_eq_true] at h
  obtain ⟨h1, h2⟩ := h
  refine Ok.chk (fitA_ok (by simp; omega) (by omega)) ?_
  refine Ok.rounds (fun v => 0 ≤ v.1.2.2.1 ∧ v.1.2.2.1 ≤ c.Trucks.length ∧ v.2.1.1 = c.Length ∧ v.2.1.2.1 = c.Gap ∧ v.2.1.2.2.1 = c.Fails ∧ v.2.1.2.2.2.1 = c.Trucks) (fun v => ((c.Trucks.length : Int) - v.1.2.2.1).toNat) ?_ ?_ ?_
  · show ((c.Trucks.length : Int) - 0).toNat < 18446744073709551616
    omega
  · exact ⟨Int.le_refl _, by show (0 : Int) ≤ _; omega, rfl, rfl, rfl, rfl⟩
  rintro ⟨⟨_, _, i, _⟩, ⟨a1, a2, a3, a4, _⟩, _⟩ kn ⟨i1, i2, i3, i4, i5, i6⟩ hk
  simp only at i1 i2 i3 i4 i5 i6 ⊢
  subst i3 i4 i5 i6
  have e : w64 (i + 1) = i + 1 := w64_id (by omega) (by omega)
  refine Ok.ite (fun hlt => ?_) fun _ => Ok.some rfl
  have hlt := of_decide_eq_true hlt
  have hi : i.toNat < c.Trucks.length := by omega
  have hh := h2 _ (getD_mem (d := dfltTruck) hi)
  have b1 := ib i1 hlt
  have b2 : decide (i.toNat < c.Trucks.length) = true := decide_eq_true hi
  refine Ok.chk b1 (Ok.chk b2 (Ok.chk (fitA_ok (n := 0 + (c.Trucks.getD i.toNat dfltTruck).Holds.length) (by omega) (by omega)) (Ok.chk b1 (Ok.chk b2 (Ok.chk b2 (hk _ ?_ ?_))))))
  · simp only [e]
    exact ⟨by omega, by omega, trivial, trivial, trivial, set_self hi⟩
  · simp only [e]; omega
theorem lets_b : @ConvoyLets_L10__2 = @ConvoyLets_L10 := rfl
theorem lets_c : @ConvoyLets_L10__3 = @ConvoyLets_L10 := rfl
theorem meets_acc (c : Convoy) : Ok (fun r => r.2 = 7 ↔ Acc c) (pMeets c) := by
  refine Ok.mono (P := fun m => m = meetS c) (by rw [pMeets_eq]; exact Ok.some rfl) fun r hr => ?_
  rw [hr]; exact ⟨meetS_seven, meetS_acc⟩
theorem ConvoyLets_true {nums : List Int} (hn : nums.length ≤ 9223372036854775807) : ConvoyLets nums = some true := by
  rw [ConvoyLets_eq]; apply ok_eq
  have hawake : Ok (fun b => b = true) ((awake).bind fun r7 => some r7) := by rw [awake_eq]; exact Ok.bind (Ok.some (P := fun b => b = true) rfl) fun b hb => Ok.some hb
  refine Ok.bind (NewSeed_ok hn) fun r _ => ?_
  refine Ok.bind (P := fun r => (Acc r.2 ∧ 60 ≤ r.2.Length ∧ r.2.Length ≤ 300 ∧ (r.2.Trucks.length : Int) ≤ 3 ∧ r.2.Gap = 70) ∧ fit25 r.2 = true) ?_ fun r2 h2 => ?_
  · obtain ⟨x, e1, p1⟩ := AcceptedOf_acc r (most := 3) (by omega) (by omega)
    obtain ⟨y, e2, p2⟩ := AcceptedOf_ok r (most := 3) (by omega) (by omega)
    rw [e1] at e2
    cases e2
    exact ⟨x, e1, ⟨p1.1, p1.2.1, p1.2.2.1, p1.2.2.2.1, p1.2.2.2.2.1⟩, fit25_of (by omega) fun t ht => by have := p2.2 t ht; omega⟩
  obtain ⟨⟨hacc, l1, l2, hn3, hg⟩, hfit⟩ := h2
  have hv := hacc.1
  refine Ok.bind (TruckOf_made _ (length := r2.2.Length) (holds := 0) (by omega) (by omega) (by omega) (by omega)) fun r3 h3 => ?_
  refine Ok.bind (Below_ok _ (by omega)) fun r4 h4 => Ok.bind (Below_ok _ (by omega)) fun r5 h5 => ?_
  have ew : w64 (r4.2 + r5.2) = r4.2 + r5.2 := w64_id (by omega) (by omega)
  rw [ew]
  refine Ok.beq (a := ⟨r4.2, r4.2 + r5.2⟩) (by rw [span_eq]; rfl) ?_
  have hholds : r3.2.Holds = [] := List.eq_nil_of_length_eq_zero (by have := h3.n; omega)
  have hchk : chkTruck (oC r2.2) (oT (moreT r3.2.Way r3.2.Pace 0)) = 0 := by
    have hw := h3.way
    have p1 := h3.p1
    have p2 := h3.p2
    have p3 := h3.p3
    refine chk_truck (c := r2.2) (t := moreT r3.2.Way r3.2.Pace 0) (n := 0) ⟨hw, Int.le_refl _, by show (0 : Int) ≤ 199; omega, p1, p2, p3, Int.le_refl _, fun h hh => by simp [moreT] at hh, List.Pairwise.nil⟩ (by omega) (by omega) ?_
    show 2 * r3.2.Pace.Hi ≤ r2.2.Gap
    omega
  have herr : relErr r2.2 r3.2.Way r3.2.Pace ⟨r4.2, r4.2 + r5.2⟩ = 0 := by
    unfold relErr
    rw [if_neg (fun hh => hh hv), if_neg (by omega), if_neg (fun hh => hh hchk), if_neg (by simp only; omega), if_neg (by simp only; omega)]
  refine Ok.bind (pRelease_ok _ _ _ _) fun r7 h7 => ?_
  have hrel := h7.2 herr
  simp only at hrel
  -- the rounds
  have loop : Ok (fun b => b = true) (itN _ (fun (v_0 : (Unit × Unit × Unit × Int × Unit) × ((Int × Int × Int × Int × (List Hold) × Unit) × Unit)) kn => ConvoyLets_L10 ⟨r4.2, r4.2 + r5.2⟩ r7 r2 v_0.1.2.2.2.1 v_0.2.1.1 v_0.2.1.2.1 v_0.2.1.2.2.1 v_0.2.1.2.2.2.1 v_0.2.1.2.2.2.2.1 (fun y0 y1 y2 y3 y4 y5 => kn (((), (), (), y0, ()), ((y1, y2, y3, y4, y5, ()), ())))) (((), (), (), r4.2, ()), ((r3.2.Way, r3.2.Start, r3.2.Pace.Lo, r3.2.Pace.Hi, r3.2.Holds, ()), ()))) := by
    refine Ok.rounds (fun v => r4.2 ≤ v.1.2.2.2.1 ∧ v.1.2.2.2.1 ≤ r4.2 + r5.2 + 1 ∧ v.2.1.1 = r3.2.Way ∧ v.2.1.2.2.1 = r3.2.Pace.Lo ∧ v.2.1.2.2.2.1 = r3.2.Pace.Hi ∧ v.2.1.2.2.2.2.1 = []) (fun v => (r4.2 + r5.2 + 1 - v.1.2.2.2.1).toNat) ?_ ?_ ?_
    · show (r4.2 + r5.2 + 1 - r4.2).toNat < 18446744073709551616
      omega
    · exact ⟨Int.le_refl _, by show r4.2 ≤ r4.2 + r5.2 + 1; omega, rfl, rfl, rfl, hholds⟩
    rintro ⟨⟨_, _, _, m, _⟩, ⟨a1, a2, a3, a4, a5, _⟩, _⟩ kn ⟨i1, i2, i3, i4, i5, i6⟩ hk
    simp only at i1 i2 i3 i4 i5 i6 ⊢
    subst i3 i4 i5 i6
    have em : w64 (m + 1) = m + 1 := w64_id (by omega) (by omega)
    refine Ok.ite (fun hlt => ?_) fun _ => hawake
    have hlt : m ≤ r4.2 + r5.2 := of_decide_eq_true hlt
    have nxt : Ok (fun b => b = true) (kn (((), (), (), w64 (m + 1), ()), ((r3.2.Way, m, r3.2.Pace.Lo, r3.2.Pace.Hi, [], ()), ()))) := hk _ (by simp only [em]; exact ⟨by omega, by omega, trivial, trivial, trivial, trivial⟩) (by simp only [em]; omega)
    have hfitm : fitA (r2.2.Trucks.length + ([(⟨r3.2.Way, m, ⟨r3.2.Pace.Lo, r3.2.Pace.Hi⟩, []⟩ : Truck)] : List Truck).length) 56 = true := fitA_ok (by simp; omega) (by omega)
    rcases hrel with ⟨n, b1, b2, b3, b4, b5⟩ | ⟨b1, b2⟩
    · have e1 : r7.1 = n := by rw [b5]
      have e2 : r7.2 = 0 := by rw [b5]
      refine Ok.no (by rw [e2]; rfl) (Ok.ite (fun hle => ?_) fun _ => hawake)
      have hle : m ≤ r7.1 := of_decide_eq_true hle
      refine Ok.beq (OwnConvoyO_sp hfit) (Ok.chk hfitm (Ok.bind (meets_acc _) fun r12 h12 => Ok.yes (by rw [e2]; rfl) ?_))
      have hw : Acc (⟨r2.2.Length, r2.2.Gap, r2.2.Fails, r2.2.Trucks ++ ([(⟨r3.2.Way, m, ⟨r3.2.Pace.Lo, r3.2.Pace.Hi⟩, []⟩ : Truck)] : List Truck)⟩ : Convoy) ↔ m = n := by
        constructor
        · intro h
          refine Classical.byContradiction fun hne => b4 m i1 (by omega) h
        · intro h; subst h; exact b3
      refine Ok.no ?_ nxt
      have : ((r12.2 == 7) == (m == r7.1)) = true := by
        rw [beq_iff_eq, Bool.eq_iff_iff]
        simp only [beq_iff_eq]
        rw [h12, hw, e1]
      rw [this]; rfl
    · have e2 : r7.2 = 7 := by rw [b2]
      refine Ok.yes (by rw [e2]; rfl) (Ok.beq (OwnConvoyO_sp hfit) (Ok.chk hfitm (Ok.bind (meets_acc _) fun r12 h12 => Ok.no (by rw [e2]; rfl) ?_)))
      refine Ok.no ?_ nxt
      have : ((r12.2 == 7) == false) = true := by
        rw [beq_iff_eq]
        simp only [beq_eq_false_iff_ne, ne_eq]
        rw [h12]
        exact b1 m i1 hlt
      rw [this]; rfl
  rcases hrel with ⟨n, b1, b2, b3, b4, b5⟩ | ⟨b1, b2⟩
  · have e1 : r7.1 = n := by rw [b5]
    have e2 : r7.2 = 0 := by rw [b5]
    refine Ok.no (by rw [e2]; rfl) (Ok.yes (by rw [e2]; rfl) (Ok.beq (Has_sp _ _) (Ok.no ?_ ?_)))
    · rw [decide_eq_true (by rw [e1]; exact ⟨b1, b2⟩)]; rfl
    · rw [lets_c]; exact loop
  · have e2 : r7.2 = 7 := by rw [b2]
    refine Ok.yes (by rw [e2]; rfl) (Ok.no (by rw [e2]; rfl) (Ok.no (by rw [e2]; rfl) ?_))
    rw [lets_b]; exact loop
end Go.Proofs.Plain04


/- How the arguments of a law are read as plain data of Lean, what the table of the four cases holds, and what a law that writes nothing older than itself leaves: its arguments read as they did. -/
namespace Go.Proofs.YtafnhieaeejlcaaDoor
open Go Go.Ab Go.ChangeShapes Go.WideShapes Go.ChangeAt Go.RowKit
set_option maxRecDepth 100000

/-- All that a world's memory holds. -/
def allK (w : World) : Nat → Nat → Option Value := fun b o => w.cell? ⟨b, o, none⟩
theorem allK_fits (w : World) : Fits (allK w) w := fun _ _ _ h => h

theorem cells3 : Tryd.prog.cellsOf 3 = 1 := by kernel_rfl
theorem cells102 : Tryd.prog.cellsOf 102 = 2 := by kernel_rfl
theorem cells103 : Tryd.prog.cellsOf 103 = 8 := by kernel_rfl

section
variable {H : Type} {enc : TypeId × Value → H} {W : World}

/-- Whatever reads as the type, stands for a datum of Lean. -/
def Rd {α : Type} (enc : TypeId × Value → H) (W : World) (t : TypeId) (ec : α → List D) : Prop :=
  ∀ n cs x, DataW.trod enc Tryd.prog W 0 (fun _ => true) true n t cs = some x → ∃ a : α, RepL (allK W) γ0 sv0 (ec a) cs

theorem fld {fs : Array Field} {xs : List (DataW H × List MemPlace)} {cs : List Value} {n : Nat}
    (hf : ∀ (i : Nat) (f : Field), fs[i]? = some f → DataW.trod enc Tryd.prog W 0 (fun _ => true) true n f.type ((cs.drop f.offset).take (Tryd.prog.cellsOf f.type)) = xs[i]?)
    (hl : xs.length = fs.size) (i : Nat) (f : Field) (hi : fs[i]? = some f) : ∃ y, DataW.trod enc Tryd.prog W 0 (fun _ => true) true n f.type ((cs.drop f.offset).take (Tryd.prog.cellsOf f.type)) = some y := by
  have h1 := (Array.getElem?_eq_some_iff.1 hi).1
  rw [← hl] at h1
  exact ⟨xs[i], by rw [hf i f hi]; exact List.getElem?_eq_getElem h1⟩

theorem rd_int : Rd enc W 3 encI := by
  intro n cs x h
  obtain ⟨a, rfl, _⟩ := DataW.trod_int Tryd.underlying3 h
  exact ⟨a, .cons _ _ _ _ (.int _ _) .nil⟩

theorem rd_slice {α : Type} [Inhabited α] {t e z : Nat} {ec : α → List D} (ht : Tryd.prog.underlying t = some (.slice e)) (hz : Tryd.prog.cellsOf e = z) (hz0 : 0 < z) (hl : ∀ a, (ec a).length = z)
    (hc : ∀ a, allCell (ec a) = true) (hr : Rd enc W e ec) : Rd enc W t (fun l : List α => [slOf z ec l]) := by
  intro n cs x h
  rcases Deep.open_slice ht h with ⟨rfl, rfl⟩ | ⟨a, len, cap, m, n', D, Pl, rfl, _, hlc, _, hm, rfl, hx⟩
  · exact ⟨[], .cons _ _ _ _ (.sl0 _ _) .nil⟩
  · simp only [if_true] at hm
    subst hm
    rw [hz] at hx
    rcases Nat.eq_zero_or_pos len with rfl | hpos
    · exact ⟨[], .cons _ _ _ _ (.slE _ _ _ _) .nil⟩
    · have hx' : ∀ i, i < len → ∃ p : α × List Value, W.cells? 0 (a.add (i * z)) z = some p.2 ∧ RepL (allK W) γ0 sv0 (ec p.1) p.2 := fun i hi => by
        obtain ⟨cs', h1, h2⟩ := hx i (by omega)
        obtain ⟨b, hb⟩ := hr _ _ _ h2
        exact ⟨(b, cs'), h1, hb⟩
      obtain ⟨F, hF⟩ := Deep.choose_lt hx'
      have hsp : a.spot = none := by
        obtain ⟨_, h1, h2⟩ := World.cells?_some (hF 0 hpos).1
        have h3 := h2 0 hz0
        rw [List.getElem?_eq_getElem (by omega)] at h3
        simpa [Addr.add] using World.cell?_spot h3
      obtain ⟨b, off, sp⟩ := a
      simp only at hsp
      subst hsp
      refine ⟨(List.range len).map (fun i => (F i).1), .cons _ _ _ _ ?_ .nil⟩
      have hlen : ((List.range len).map (fun i => (F i).1)).length = len := by simp
      have hg : ∀ i, i < len → ((List.range len).map (fun i => (F i).1)).getD i default = (F i).1 := fun i hi => by simp [List.getD, hi]
      unfold slOf
      rw [hlen]
      refine .sl z len _ b off m (fun i => (F i).2) hlc (fun i _ => hl _) (fun i _ => hc _) (fun i hi => by rw [hg i hi]; exact (hF i hi).2) (fun i j v hi hj => ?_)
      obtain ⟨_, h1, h2⟩ := World.cells?_some (hF i hi).1
      have hjl := (List.getElem?_eq_some_iff.1 hj).1
      have h3 := h2 j (by omega)
      rw [add_plain, add_plain, hj] at h3
      exact h3

/-- An argument that is a list of numbers. -/
theorem arg_ints {v : Value} {d : DataW H} {ps : List MemPlace} {base : Nat} (hv : Value.okWide Tryd.prog W .any base 31 v) (h : DataW.Trod enc Tryd.prog W 0 (fun _ => true) true 31 v d ps) :
    ∃ l : List Int, Rep (allK W) γ0 sv0 (slOf 1 encI l) v := by
  obtain ⟨n, hn⟩ := h
  obtain ⟨l, hl⟩ := rd_slice (ec := encI) Tryd.underlying31 cells3 (by decide) (fun _ => rfl) (fun _ => rfl) rd_int _ _ _ hn
  obtain ⟨a0, len, cap, rfl⟩ := okWide_slice Tryd.underlying31 hv
  cases hl with
  | cons _ _ _ _ k _ => exact ⟨l, k⟩
end

/-- What the row's list gives: the cells of the table. -/
theorem glob_of {W : World} (h : laidMetH Tryd.prog [("sastrugi/convoy.cases", Rows.laid_sastrugi_convoy_cases)] W) : GlobOk seat (allK W) := by
  have h' : laidMet Tryd.prog [("sastrugi/convoy.cases", Rows.laid_sastrugi_convoy_cases)] W := h
  obtain ⟨ps, ⟨g, t, cs, fuel, p, q, hg, ht, hvar, hd, _, _⟩, _⟩ := h'
  have hg0 : Tryd.prog.globalNamed "sastrugi/convoy.cases" = some 0 := by kernel_rfl
  have ht0 : (Tryd.prog.globals[0]?).map (·.type) = some 103 := by kernel_rfl
  obtain rfl := Option.some.inj (hg0.symm.trans hg)
  obtain rfl := Option.some.inj (ht0.symm.trans ht)
  obtain ⟨xs, m, rfl, hx, hlen, hxl, he⟩ := DataW.trod_array Tryd.underlying103 hd
  have hx1 := congrArg Prod.fst hx
  simp only [Rows.laid_sastrugi_convoy_cases, DataW.agg.injEq] at hx1
  rw [cells103] at hlen
  rw [cells102] at he
  have row : ∀ i a b, i < 4 → (xs.map (·.1))[i]? = some (.agg [.lit (.int .i64 a), .lit (.int .i64 b)]) → (cs.toList.drop (i * 2)).take 2 = [Value.int .i64 a, Value.int .i64 b] := fun i a b hi hi2 => by
    rw [List.getElem?_map] at hi2
    obtain ⟨y, hy, hy2⟩ := Option.map_eq_some_iff.1 hi2
    have h1 := he i hi
    rw [hy] at h1
    obtain ⟨d, p'⟩ := y
    simp only at hy2
    subst hy2
    exact Lib.cells_of_tab (zs := [a, b]) Tryd.underlying102 Tryd.underlying3 cells3 cells102 h1
  rw [← hx1] at row
  have r0 := row 0 0 0 (by decide) rfl
  have r1 := row 1 1 0 (by decide) rfl
  have r2 := row 2 0 1 (by decide) rfl
  have r3 := row 3 1 1 (by decide) rfl
  have hcell : ∀ j, W.cell? ⟨0, j, none⟩ = cs.toList[j]? := fun j => by rw [World.var?_cell hg hvar j]; simp
  generalize cs.toList = l at hlen r0 r1 r2 r3 hcell
  rcases l with _ | ⟨c0, _ | ⟨c1, _ | ⟨c2, _ | ⟨c3, _ | ⟨c4, _ | ⟨c5, _ | ⟨c6, _ | ⟨c7, _ | ⟨c8, l⟩⟩⟩⟩⟩⟩⟩⟩⟩ <;> simp at hlen
  simp at r0 r1 r2 r3
  obtain ⟨rfl, rfl⟩ := r0
  obtain ⟨rfl, rfl⟩ := r1
  obtain ⟨rfl, rfl⟩ := r2
  obtain ⟨rfl, rfl⟩ := r3
  intro g l hl
  show _
  have hl' : globs g = some l := hl
  unfold globs at hl'
  split at hl'
  · simp only [Option.some.injEq] at hl'
    subst hl'
    refine ⟨rfl, _, ?_, fun j v hj => by rw [show allK W 0 j = _ from hcell j]; exact hj⟩
    exact .cons _ _ _ _ (.int _ _) (.cons _ _ _ _ (.int _ _) (.cons _ _ _ _ (.int _ _) (.cons _ _ _ _ (.int _ _) (.cons _ _ _ _ (.int _ _) (.cons _ _ _ _ (.int _ _) (.cons _ _ _ _ (.int _ _) (.cons _ _ _ _ (.int _ _) .nil)))))))
  · cases hl'

theorem laidOut : laidOutB Tryd.prog = true := by kernel_rfl
theorem own : ownKnob Tryd.prog.godebug = none := by kernel_rfl

theorem trodAll_stays {H : Type} {enc : TypeId × Value → H} {W W' : World} {sp' : Nat → Bool} (hb : Below W.heap.size W W') : ∀ {ts : List TypeId} {vs : List Value} {ds : List (DataW H)} {ps : List MemPlace},
    (∀ t ∈ ts, Tryd.prog.readableRec t = true ∧ t < Tryd.prog.types.size) → DataW.TrodAll enc Tryd.prog W 0 (fun _ => true) true ts vs ds ps → (∀ p ∈ ps, p.block < W.heap.size) → (∀ p ∈ ps, sp' p.block = true) →
    DataW.TrodAll enc Tryd.prog W' 0 sp' true ts vs ds ps
  | [], [], [], _, _, h, _, _ => h
  | _ :: _, _ :: _, _ :: _, _, hT, ⟨p, q, h1, h2, e⟩, hlt, hs => ⟨p, q,
      WideElems.Trod_stays laidOut (hT _ (List.mem_cons_self ..)).1 (hT _ (List.mem_cons_self ..)).2 h1 (fun x hx => hb.same (hlt x (by rw [e]; exact List.mem_append_left _ hx))) (fun x hx => hs x (by rw [e]; exact List.mem_append_left _ hx)),
      trodAll_stays hb (fun t ht => hT t (List.mem_cons_of_mem _ ht)) h2 (fun x hx => hlt x (by rw [e]; exact List.mem_append_right _ hx)) (fun x hx => hs x (by rw [e]; exact List.mem_append_right _ hx)), e⟩

/-- A law that says yes and writes nothing older than itself. -/
theorem post_yes {H : Type} {enc : TypeId × Value → H} {f : Func} {s : ChangeSpec} {W W' : World} {args : Array Value} {ds gs : List (DataW H)} {before : List MemPlace}
    (hW : DataW.Whole enc Tryd.prog f.params.toList s.vars false W args.toList ds gs before) (hv : s.vars = []) (hb : Below W.heap.size W W')
    (hT : ∀ t ∈ f.params.toList, Tryd.prog.readableRec t = true ∧ t < Tryd.prog.types.size) (hrt : f.resultTypes = #[4])
    (hr : (s.fn H (ds ++ gs)).results = [.lit (.bool true)]) (ha : (s.fn H (ds ++ gs)).args = ds) (hvs : (s.fn H (ds ++ gs)).vars = []) :
    s.post enc Tryd.prog f false true false false W args (.bool true) W' := by
  have hlt := hW.lt
  have hW2 := hW
  obtain ⟨p, q, hA, hV, rfl, _, _⟩ := hW
  rw [hv] at hV
  obtain ⟨rfl, rfl⟩ := trodVars_none hV
  refine ⟨ds, [], p ++ [], [], p, [], hW2, ?_, ?_, ?_, hb.frame _, fun h => by cases h⟩
  · rw [hr, hrt]
    exact trodAll_mk1 (shut_bool Tryd.underlying4 _)
  · rw [ha]
    exact trodAll_stays hb hT hA (fun x hx => hlt x (by simpa using hx)) (fun x hx => by simpa using hlt x (by simpa using hx))
  · rw [hvs, hv]; rfl

/-- A world for the witness: the settled one, the table holding what its initialiser lays. -/
noncomputable def laidWorld (os : Os) : World :=
  { World.holding Tryd.prog os ⟨#[], #[], []⟩ with heap := (World.holding Tryd.prog os ⟨#[], #[], []⟩).heap.modify 0 fun
      | .cells _ t frozen => .cells #[.int .i64 0, .int .i64 0, .int .i64 1, .int .i64 0, .int .i64 0, .int .i64 1, .int .i64 1, .int .i64 1] t frozen
      | o => o }
end Go.Proofs.YtafnhieaeejlcaaDoor


/- Further readers of arguments; convoys of the two kinds of typed data. -/
namespace Go.Proofs.YtafnhieaeejlcaaDoor
open Go Go.Ab Go.ChangeShapes Go.WideShapes Go.ChangeAt Go.RowKit
set_option linter.all false
set_option maxRecDepth 100000
theorem ints_len {κ : Nat → Nat → Option Value} {γ : Nat → Nat} {sv : Nat → Value} {W : World} {base : Nat} {v : Value} {l : List Int} (hv : Value.okWide Tryd.prog W .any base 31 v) (h : Rep κ γ sv (slOf 1 encI l) v) : l.length ≤ 9223372036854775807 := by
  unfold slOf at h
  generalize hn : l.length = n at h
  cases h with
  | sl0 => omega
  | slE => omega
  | sl _ _ _ b off cap u hc =>
    simp only [Value.okWide, Cell.okWide, Cell.ok, Tryd.underlying31] at hv
    have h1 := hv.2.1
    have h2 : IntKind.i64.max = 9223372036854775807 := by decide
    rw [h2] at h1
    omega
section
variable {H : Type} {enc : TypeId × Value → H} {W : World}
end
end Go.Proofs.YtafnhieaeejlcaaDoor

