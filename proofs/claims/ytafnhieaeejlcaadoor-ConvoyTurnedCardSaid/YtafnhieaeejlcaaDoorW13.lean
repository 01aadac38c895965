/- Walks by computing: what each function of the program that the laws reach gives for what it gets, as plain Lean, and that it is so; without a condition but those that stand in each theorem. -/
import Derived.Test.YtafnhieaeejlcaaDoorCards
import Derived.Test.YtafnhieaeejlcaaDoorTie
import Derived.WalkKit
import Derived.ProofKit
import Derived.OpenShut
import Derived.Deep.Slices
import Derived.Deep.DeepHandedRow
import Derived.Lib.LaidTab
import Derived.Test.YtafnhieaeejlcaaDoorW1
import Derived.Test.YtafnhieaeejlcaaDoorW2
import Derived.Test.YtafnhieaeejlcaaDoorW3
import Derived.Test.YtafnhieaeejlcaaDoorW4
import Derived.Test.YtafnhieaeejlcaaDoorW5
import Derived.Test.YtafnhieaeejlcaaDoorW6
import Derived.Test.YtafnhieaeejlcaaDoorW7
import Derived.Test.YtafnhieaeejlcaaDoorW8
import Derived.Test.YtafnhieaeejlcaaDoorW9
import Derived.Test.YtafnhieaeejlcaaDoorW10
import Derived.Test.YtafnhieaeejlcaaDoorW11
import Derived.Test.YtafnhieaeejlcaaDoorW12
set_option linter.all false
namespace Go.Proofs.Plain04
open Go Go.Ab
open Go.Proofs.YtafnhieaeejlcaaDoor (HSort alongI chkConvoy chkHolds chkHolds_cons chkTruck chkTrucks)
set_option linter.all false
set_option maxRecDepth 100000
theorem u64_bnd (n : Int) : 0 ≤ IntKind.u64.wrap n ∧ IntKind.u64.wrap n < 18446744073709551616 := by
  unfold IntKind.wrap
  simp [IntKind.bits, IntKind.signed]
  omega
theorem u64_id {n : Int} (h1 : 0 ≤ n) (h2 : n < 18446744073709551616) : IntKind.u64.wrap n = n := by
  unfold IntKind.wrap
  simp [IntKind.bits, IntKind.signed]
  omega
theorem next_ok (s : Seed) : Ok (fun r => 0 ≤ r.2 ∧ r.2 < 18446744073709551616) (next s) := by
  rw [next_eq]
  exact ⟨_, rfl, u64_bnd _⟩
theorem Below_ok (s : Seed) {n : Int} (hn : n ≤ 1000000000) : Ok (fun r => 0 ≤ r.2 ∧ (r.2 < n ∨ r.2 = 0)) (Below s n) := by
  rw [Below_eq]
  refine Ok.ite (fun h => Ok.some ⟨Int.le_refl _, .inr rfl⟩) fun h => ?_
  have hn2 : ¬ n < 2 := by simpa using h
  refine Ok.bind (next_ok s) fun r hr => ?_
  have hu : IntKind.u64.wrap n = n := u64_id (by omega) (by omega)
  refine Ok.chk (by rw [hu]; simp; omega) (Ok.some ?_)
  rw [hu]
  have e : shrI .u64 r.2 1 = r.2 / 2 := by
    unfold shrI
    rw [Int.fdiv_eq_ediv_of_nonneg _ (by decide)]
    simp [IntKind.bits]
  rw [e, Int.tmod_eq_emod_of_nonneg (by omega)]
  have h1 := Int.emod_nonneg (r.2 / 2) (show n ≠ 0 by omega)
  have h2 := Int.emod_lt_of_pos (r.2 / 2) (show 0 < n by omega)
  rw [w64_id (by omega) (by omega)]
  exact ⟨h1, .inl h2⟩
theorem From_ok (s : Seed) {low high : Int} (h1 : -1000000 ≤ low) (h2 : low ≤ 1000000) (h3 : -1000000 ≤ high) (h4 : high ≤ 1000000) : Ok (fun r => low ≤ r.2 ∧ (r.2 ≤ high ∨ r.2 = low)) (From s low high) := by
  rw [From_eq]
  refine Ok.bind (Below_ok s (n := w64 (w64 (high - low) + 1)) ?_) fun r hr => Ok.some ?_
  · rw [w64_id (n := high - low) (by omega) (by omega), w64_id (by omega) (by omega)]; omega
  · rw [w64_id (n := high - low) (by omega) (by omega), w64_id (n := high - low + 1) (by omega) (by omega)] at hr
    simp only
    rw [w64_id (by omega) (by omega)]
    omega
theorem Of_ok (s : Seed) {l : List Int} (h0 : l ≠ []) (hl : l.length ≤ 1000) : Ok (fun r => r.2 ∈ l) (Of s l) := by
  rw [Of_eq]
  have hp : 0 < l.length := List.length_pos_iff.2 h0
  refine Ok.ite (fun h => ?_) fun h => Ok.bind (Below_ok s (n := (l.length : Int)) (by omega)) fun r hr => Ok.chk ?_ (Ok.some ?_)
  · simp at h; exact absurd h h0
  · simp; omega
  · simp only
    rw [List.getD_eq_getElem?_getD, List.getElem?_eq_getElem (by omega)]
    exact List.getElem_mem _
theorem NewSeed_ok {nums : List Int} (hn : nums.length ≤ 9223372036854775807) : Ok (fun _ => True) (NewSeed nums) := by
  rw [NewSeed_eq]
  refine Ok.rounds (fun v => 0 ≤ v.1.2.1 ∧ v.1.2.1 ≤ nums.length) (fun v => ((nums.length : Int) - v.1.2.1).toNat) ?_ ?_ ?_
  · show ((nums.length : Int) - 0).toNat < 18446744073709551616
    omega
  · simp
  · rintro ⟨⟨_, i, _⟩, ⟨w, _⟩, _⟩ kn hi' hk
    simp only at hi'
    refine Ok.ite (fun hlt => ?_) fun _ => Ok.some trivial
    simp only [decide_eq_true_eq] at hlt
    have e : w64 (i + 1) = i + 1 := w64_id (by omega) (by omega)
    refine Ok.chk (by simp; omega) (Ok.bind (next_ok _) fun r _ => hk _ ?_ ?_)
    · simp [e]; omega
    · simp [e]; omega
def nH (h : Go.Proofs.YtafnhieaeejlcaaDoor.Hold) : Hold := ⟨h.a, h.u⟩
def nT (t : Go.Proofs.YtafnhieaeejlcaaDoor.Truck) : Truck := ⟨t.way, t.start, ⟨t.lo, t.hi⟩, t.holds.map nH⟩
def nC (c : Go.Proofs.YtafnhieaeejlcaaDoor.Convoy) : Convoy := ⟨c.len, c.gap, c.fails, c.trucks.map nT⟩
theorem oT_nT (t : Go.Proofs.YtafnhieaeejlcaaDoor.Truck) : oT (nT t) = t := by
  obtain ⟨a, b, c, d, hs⟩ := t
  simp only [oT, nT, List.map_map]
  have : hs.map (oH ∘ nH) = hs := (List.map_congr_left fun x _ => rfl).trans (List.map_id hs)
  rw [this]
theorem oC_nC (c : Go.Proofs.YtafnhieaeejlcaaDoor.Convoy) : oC (nC c) = c := by
  obtain ⟨a, b, d, ts⟩ := c
  simp only [oC, nC, List.map_map]
  have : ts.map (oT ∘ nT) = ts := (List.map_congr_left fun x _ => oT_nT x).trans (List.map_id ts)
  rw [this]
theorem fitA_ok {n b : Nat} (hn : n ≤ 1000000) (hb : b ≤ 1000000) : fitA n b = true := by
  unfold fitA
  have : n * b ≤ 1000000 * 1000000 := Nat.mul_le_mul hn hb
  simp; omega
theorem ok_eq {α : Type} {x : Option α} {a : α} (h : Ok (fun b => b = a) x) : x = some a := by obtain ⟨b, h1, rfl⟩ := h; exact h1
theorem Ok.beq {α β : Type} {Q : β → Prop} {x : Option α} {a : α} {f : α → Option β} (hx : x = some a) (hf : Ok Q (f a)) : Ok Q (x.bind f) := by subst hx; exact hf
theorem Ok.yes {α : Type} {b : Bool} {x y : Option α} {P : α → Prop} (h : b = true) (hx : Ok P x) : Ok P (bif b then x else y) := by subst h; exact hx
theorem ib {i : Int} {n : Nat} (h1 : 0 ≤ i) (h2 : i < n) : (decide (0 ≤ i) && decide (i < (n : Int))) = true := by simp; omega
theorem getD_mem {α : Type} {l : List α} {d : α} {i : Nat} (h : i < l.length) : l.getD i d ∈ l := by
  rw [List.getD_eq_getElem?_getD, List.getElem?_eq_getElem h]
  exact List.getElem_mem h
abbrev OTr := Go.Proofs.YtafnhieaeejlcaaDoor.Truck
theorem chkHolds_zero {way len : Int} : ∀ {hs : List Go.Proofs.YtafnhieaeejlcaaDoor.Hold} {p : Option Int}, (∀ h ∈ hs, 1 ≤ h.a ∧ h.a ≤ len - 1 ∧ 0 ≤ h.u ∧ h.u ≤ 10000) → HSort way len hs → (∀ q, p = some q → ∀ h ∈ hs, q < alongI way len h.a) → chkHolds way len p hs = 0
  | [], _, _, _, _ => rfl
  | h :: hs, p, h1, h2, h3 => by
    obtain ⟨h4, h5⟩ := List.pairwise_cons.1 h2
    have b := h1 h (List.mem_cons_self ..)
    have rest := chkHolds_zero (p := some (alongI way len h.a)) (fun x hx => h1 x (List.mem_cons_of_mem _ hx)) h5 (fun q hq x hx => by cases hq; exact h4 x hx)
    rw [chkHolds_cons, if_neg (by omega)]
    cases p with
    | none => exact rest
    | some q =>
      have := h3 q rfl h (List.mem_cons_self ..)
      simp only
      rw [if_neg (by omega)]; exact rest
structure TMade (len : Int) (n : Int) (t : Truck) : Prop where
  way : t.Way = 1 ∨ t.Way = 2
  s1 : 0 ≤ t.Start
  s2 : t.Start ≤ 199
  p1 : 5 ≤ t.Pace.Lo
  p2 : t.Pace.Lo ≤ t.Pace.Hi
  p3 : t.Pace.Hi ≤ 32
  n : (t.Holds.length : Int) ≤ n
  h : ∀ h ∈ t.Holds.map oH, 1 ≤ h.a ∧ h.a ≤ len - 1 ∧ 0 ≤ h.u ∧ h.u ≤ 149
  so : HSort t.Way len (t.Holds.map oH)
theorem hsort_snoc {way len : Int} {hs : List Go.Proofs.YtafnhieaeejlcaaDoor.Hold} {h : Go.Proofs.YtafnhieaeejlcaaDoor.Hold} (h1 : HSort way len hs) (h2 : ∀ x ∈ hs, alongI way len x.a < alongI way len h.a) : HSort way len (hs ++ [h]) := by
  refine List.pairwise_append.2 ⟨h1, List.pairwise_singleton _ _, fun a ha b hb => ?_⟩
  obtain rfl := List.mem_singleton.1 hb
  exact h2 a ha
theorem TruckOf_made (s : Seed) {length holds : Int} (h1 : 1 ≤ length) (h2 : length ≤ 1000000) (h3 : 0 ≤ holds) (h4 : holds ≤ 100) : Ok (fun r => TMade length holds r.2) (TruckOf s length holds) := by
  rw [TruckOf_eq]
  refine Ok.bind (From_ok s (by omega) (by omega) (by omega) (by omega)) fun r hr => ?_
  refine Ok.bind (Below_ok _ (by omega)) fun r2 hr2 => ?_
  refine Ok.bind (Below_ok _ (by omega)) fun r3 hr3 => ?_
  refine Ok.bind (Of_ok _ (by simp) (by simp)) fun r4 hr4 => ?_
  refine Ok.bind (From_ok _ (by omega) (by omega) (by omega) (by omega)) fun r5 hr5 => ?_
  refine Ok.bind (Below_ok _ (by omega)) fun r6 hr6 => ?_
  refine Ok.bind (Of_ok _ (by simp) (by simp)) fun r7 hr7 => ?_
  refine Ok.bind (Below_ok _ (by rw [w64_id (by omega) (by omega)]; omega)) fun r8 hr8 => ?_
  rw [w64_id (n := holds + 1) (by omega) (by omega)] at hr8
  have hst : 0 ≤ r4.2 ∧ r4.2 ≤ 199 := by
    simp only [List.mem_cons, List.not_mem_nil, or_false] at hr4
    omega
  have hph : 0 ≤ r7.2 ∧ r7.2 ≤ 7 := by
    simp only [List.mem_cons, List.not_mem_nil, or_false] at hr7
    omega
  have eh : w64 (r5.2 + r7.2) = r5.2 + r7.2 := w64_id (by omega) (by omega)
  refine Ok.rounds (fun v => 0 ≤ v.1.2.2.2.2.1 ∧ v.1.2.2.2.2.1 ≤ holds ∧ (v.2.2.1.2.2.2.2.1.length : Int) + v.1.2.2.2.2.1 ≤ holds ∧ 0 ≤ v.1.2.2.2.1 ∧ v.1.2.2.2.1 ≤ 1000000 ∧
      TMade length (v.2.2.1.2.2.2.2.1.length : Int) ⟨v.2.2.1.1, v.2.2.1.2.1, ⟨v.2.2.1.2.2.1, v.2.2.1.2.2.2.1⟩, v.2.2.1.2.2.2.2.1⟩ ∧ ∀ x ∈ v.2.2.1.2.2.2.2.1.map oH, alongI v.2.2.1.1 length x.a ≤ v.1.2.2.2.1) (fun v => v.1.2.2.2.2.1.toNat) ?_ ?_ ?_
  · show r8.2.toNat < 18446744073709551616
    omega
  · simp only [eh]
    refine ⟨by omega, by omega, by simp; omega, by omega, by omega, ⟨by simp only; omega, hst.1, hst.2, by simp only; omega, by simp only; omega, by simp only; omega, by simp, fun h hh => by simp at hh, List.Pairwise.nil⟩, fun x hx => by simp at hx⟩
  · rintro ⟨⟨_, _, _, at_, i, _⟩, ⟨w, _⟩, ⟨way, st, lo, hi, hs, _⟩, _⟩ kn ⟨i1, i2, i3, i4, i5, i6, i7⟩ hk
    simp only at i1 i2 i3 i4 i5 i6 i7 ⊢
    have i6' : TMade length holds ⟨way, st, ⟨lo, hi⟩, hs⟩ := ⟨i6.way, i6.s1, i6.s2, i6.p1, i6.p2, i6.p3, by show (hs.length : Int) ≤ holds; omega, i6.h, i6.so⟩
    refine Ok.ite (fun hc => Ok.ite (fun hc2 => ?_) fun _ => Ok.some i6') fun _ => Ok.some i6'
    simp only [decide_eq_true_eq] at hc hc2
    have e1 : w64 (at_ + 1) = at_ + 1 := w64_id (by omega) (by omega)
    have e2 : w64 (length - 1) = length - 1 := w64_id (by omega) (by omega)
    rw [e2] at hc2
    refine Ok.bind (From_ok _ (low := w64 (at_ + 1)) (high := w64 (length - 1)) (by omega) (by omega) (by omega) (by omega)) fun r9 hr9 => ?_
    rw [e1, e2] at hr9
    refine Ok.bind (Below_ok _ (by omega)) fun r10 hr10 => ?_
    have hi1 : w64 (i - 1) = i - 1 := w64_id (by omega) (by omega)
    have hi2 : w64 (length - r9.2) = length - r9.2 := w64_id (by omega) (by omega)
    have fin : ∀ A : Int, 1 ≤ A → A ≤ length - 1 → alongI way length A = r9.2 → Ok (fun r => TMade length holds r.2) (kn (((), (), (), r9.2, w64 (i - 1), ()), ((r10.1.word, ()), (way, st, lo, hi, hs ++ [⟨A, r10.2⟩], ()), ()))) := fun A a1 a2 a3 => by
      refine hk _ ?_ ?_
      · simp only [hi1]
        refine ⟨by omega, by omega, by simp; omega, by omega, by omega, ⟨i6.way, i6.s1, i6.s2, i6.p1, i6.p2, i6.p3, Int.le_refl _, ?_, ?_⟩, ?_⟩
        · simp only [List.map_append, List.map_cons, List.map_nil]
          intro h hh
          rcases List.mem_append.1 hh with hh | hh
          · exact i6.h h hh
          · obtain rfl := List.mem_singleton.1 hh
            simp only [oH]; omega
        · simp only [List.map_append, List.map_cons, List.map_nil]
          exact hsort_snoc i6.so fun x hx => by
            have := i7 x hx
            show alongI way length x.a < alongI way length (oH ⟨A, r10.2⟩).a
            simp only [oH]; omega
        · simp only [List.map_append, List.map_cons, List.map_nil]
          intro x hx
          rcases List.mem_append.1 hx with hx | hx
          · have := i7 x hx; omega
          · obtain rfl := List.mem_singleton.1 hx
            simp only [oH]; omega
      · simp only [hi1]; omega
    refine Ok.ite (fun hw => ?_) fun hw => ?_
    · refine Ok.chk (fitA_ok (by simp; omega) (by omega)) ?_
      rw [hi2]
      refine fin _ (by omega) (by omega) ?_
      have : way = 2 := by simpa using hw
      unfold alongI; rw [if_pos this]; omega
    · refine Ok.chk (fitA_ok (by simp; omega) (by omega)) (fin _ (by omega) (by omega) ?_)
      have : ¬ way = 2 := by simpa using hw
      unfold alongI; rw [if_neg this]
structure CMade (most : Int) (c : Convoy) : Prop where
  l1 : 20 ≤ c.Length
  l2 : c.Length ≤ 400
  g1 : 1 ≤ c.Gap
  g2 : c.Gap ≤ 100
  f1 : 0 ≤ c.Fails
  f2 : c.Fails ≤ 2
  n : (c.Trucks.length : Int) ≤ most
  t : ∀ t ∈ c.Trucks, TMade c.Length 3 t
  g : ∀ t ∈ c.Trucks, 2 * t.Pace.Hi ≤ c.Gap
abbrev OCv := Go.Proofs.YtafnhieaeejlcaaDoor.Convoy
theorem chkTruck_zero {c : OCv} {t : OTr} (w1 : 1 ≤ t.way) (w2 : t.way ≤ 2) (s1 : 0 ≤ t.start) (s2 : t.start ≤ 10000) (p1 : 1 ≤ t.lo) (p2 : t.lo ≤ t.hi) (p3 : t.hi ≤ 1000) (d : c.len ≤ 1000 * t.lo) (g : 2 * t.hi ≤ c.gap) (n : t.holds.length ≤ 8)
    (h : chkHolds t.way c.len none t.holds = 0) : chkTruck c t = 0 := by
  unfold chkTruck
  rw [if_neg (by omega), if_neg (by omega), if_neg (by omega), if_neg (by omega), if_neg (by omega), if_neg (by omega)]; exact h
theorem chk_truck {c : Convoy} {t : Truck} {n : Int} (h : TMade c.Length n t) (hn : n ≤ 8) (l2 : c.Length ≤ 1000) (g : 2 * t.Pace.Hi ≤ c.Gap) : chkTruck (oC c) (oT t) = 0 := by
  obtain ⟨w, s1, s2, p1, p2, p3, n1, h1, so⟩ := h
  refine chkTruck_zero ?_ ?_ s1 ?_ ?_ p2 ?_ ?_ g ?_ (chkHolds_zero (fun x hx => ?_) so (fun q hq => by cases hq))
  · show 1 ≤ t.Way; omega
  · show t.Way ≤ 2; omega
  · show t.Start ≤ 10000; omega
  · show 1 ≤ t.Pace.Lo; omega
  · show t.Pace.Hi ≤ 1000; omega
  · show c.Length ≤ 1000 * t.Pace.Lo; omega
  · show (t.Holds.map oH).length ≤ 8; rw [List.length_map]; omega
  · have := h1 x hx
    show 1 ≤ x.a ∧ x.a ≤ c.Length - 1 ∧ 0 ≤ x.u ∧ x.u ≤ 10000
    omega
theorem chkTrucks_zero {c : Go.Proofs.YtafnhieaeejlcaaDoor.Convoy} : ∀ {ts : List OTr}, (∀ t ∈ ts, chkTruck c t = 0) → chkTrucks c ts = 0
  | [], _ => rfl
  | t :: ts, h => by
    have a := h t (List.mem_cons_self ..)
    unfold chkTrucks
    rw [if_neg (fun hh => hh a)]
    exact chkTrucks_zero fun x hx => h x (List.mem_cons_of_mem _ hx)
theorem chkConvoy_zero {c : OCv} (l1 : 1 ≤ c.len) (l2 : c.len ≤ 100000) (g1 : 1 ≤ c.gap) (g2 : c.gap ≤ 100000) (f1 : 0 ≤ c.fails) (f2 : c.fails ≤ 20) (n : c.trucks.length ≤ 20) (h : ∀ t ∈ c.trucks, chkTruck c t = 0) : chkConvoy c = 0 := by
  unfold chkConvoy
  rw [if_neg (by omega), if_neg (by omega)]
  exact chkTrucks_zero h
theorem made_valid {most : Int} {c : Convoy} (h : CMade most c) (hm : most ≤ 20) : chkConvoy (oC c) = 0 := by
  obtain ⟨l1, l2, g1, g2, f1, f2, n, t, g⟩ := h
  refine chkConvoy_zero (by show 1 ≤ c.Length; omega) (by show c.Length ≤ 100000; omega) g1 (by show c.Gap ≤ 100000; omega) f1 (by show c.Fails ≤ 20; omega) (by show (c.Trucks.map oT).length ≤ 20; rw [List.length_map]; omega) fun x hx => ?_
  obtain ⟨y, hy, rfl⟩ := List.mem_map.1 hx
  exact chk_truck (c := c) (t y hy) (by omega) (by omega) (g y hy)
theorem wide_made (s : Seed) {c : Convoy} {most : Int} (hm : most ≤ 1000) (l1 : 20 ≤ c.Length) (l2 : c.Length ≤ 400) (f1 : 0 ≤ c.Fails) (f2 : c.Fails ≤ 2) (n : (c.Trucks.length : Int) ≤ most) (ht : ∀ t ∈ c.Trucks, TMade c.Length 3 t) : Ok (fun r => CMade most r.2) (wide s c) := by
  rw [wide_eq]
  refine Ok.rounds (fun v => v.2.1.1 = c.Length ∧ v.2.1.2.2.1 = c.Fails ∧ v.2.1.2.2.2.1 = c.Trucks ∧ 0 ≤ v.1.2.2.2.1 ∧ v.1.2.2.2.1 ≤ c.Trucks.length ∧ 1 ≤ v.2.1.2.1 ∧ v.2.1.2.1 ≤ 64 ∧ ∀ j, j < v.1.2.2.2.1.toNat → 2 * (c.Trucks.getD j dfltTruck).Pace.Hi ≤ v.2.1.2.1) (fun v => ((c.Trucks.length : Int) - v.1.2.2.2.1).toNat) ?_ ?_ ?_
  · show ((c.Trucks.length : Int) - 0).toNat < 18446744073709551616
    omega
  · simp
  · rintro ⟨⟨_, _, _, i, _⟩, ⟨len, gap, fails, ts, _⟩, _⟩ kn hi' hk
    simp only at hi' ⊢
    obtain ⟨rfl, rfl, rfl, h1, h2, h3, h4, h5⟩ := hi'
    refine Ok.ite (fun hlt => ?_) fun hge => ?_
    · simp only [decide_eq_true_eq] at hlt
      have e : w64 (i + 1) = i + 1 := w64_id (by omega) (by omega)
      have hm := ht _ (getD_mem (d := dfltTruck) (show i.toNat < c.Trucks.length by omega))
      have e2 : w64 (2 * (c.Trucks.getD i.toNat dfltTruck).Pace.Hi) = 2 * (c.Trucks.getD i.toNat dfltTruck).Pace.Hi := by
        have := hm.p1; have := hm.p2; have := hm.p3
        exact w64_id (by omega) (by omega)
      refine Ok.chk (ib h1 hlt) (hk _ ?_ ?_)
      · simp only [e, e2]
        have := hm.p3
        refine ⟨trivial, trivial, trivial, by omega, by omega, by omega, by omega, fun j hj => ?_⟩
        by_cases hl : j < i.toNat
        · have := h5 j hl; omega
        · obtain rfl : j = i.toNat := by omega
          omega
      · simp only [e]; omega
    · simp only [decide_eq_false_iff_not] at hge
      refine Ok.bind (Below_ok _ (by omega)) fun r hr => Ok.bind (Of_ok _ (by simp) (by simp)) fun r2 hr2 => Ok.some ?_
      simp only [List.mem_cons, List.not_mem_nil, or_false] at hr2
      have e3 : w64 (gap + r2.2) = gap + r2.2 := w64_id (by omega) (by omega)
      rw [e3]
      refine ⟨l1, l2, by show 1 ≤ gap + r2.2; omega, by show gap + r2.2 ≤ 100; omega, f1, f2, n, ht, fun t htm => ?_⟩
      obtain ⟨k, hk2, rfl⟩ := List.mem_iff_getElem.1 htm
      have hk3 : k < c.Trucks.length := hk2
      have := h5 k (by omega)
      rw [List.getD_eq_getElem?_getD, List.getElem?_eq_getElem hk3] at this
      simp only [Option.getD_some] at this
      show 2 * (c.Trucks[k]).Pace.Hi ≤ gap + r2.2
      omega
theorem ConvoyOf_made (s : Seed) {most : Int} (h0 : 0 ≤ most) (h1 : most ≤ 20) : Ok (fun r => CMade most r.2) (ConvoyOf s most) := by
  rw [ConvoyOf_eq]
  refine Ok.bind (From_ok s (by omega) (by omega) (by omega) (by omega)) fun r hr => ?_
  refine Ok.bind (Below_ok _ (by omega)) fun r2 hr2 => ?_
  refine Ok.bind (Below_ok _ (by rw [w64_id (by omega) (by omega)]; omega)) fun r3 hr3 => ?_
  rw [w64_id (n := most + 1) (by omega) (by omega)] at hr3
  refine Ok.rounds (fun v => 0 ≤ v.1.2.2.2.1 ∧ v.1.2.2.2.1 ≤ most ∧ (v.2.2.1.2.2.2.1.length : Int) + v.1.2.2.2.1 ≤ most ∧ (∀ t ∈ v.2.2.1.2.2.2.1, TMade r.2 3 t) ∧ v.2.2.1.1 = r.2 ∧ v.2.2.1.2.2.1 = r2.2) (fun v => v.1.2.2.2.1.toNat) ?_ ?_ ?_
  · show r3.2.toNat < 18446744073709551616
    omega
  · simp; omega
  · rintro ⟨⟨_, _, _, i, _⟩, ⟨w, _⟩, ⟨len, gap, fails, ts, _⟩, _⟩ kn hi' hk
    simp only at hi' ⊢
    obtain ⟨a1, a2, a3, a4, rfl, rfl⟩ := hi'
    have e : w64 (i - 1) = i - 1 := w64_id (by omega) (by omega)
    refine Ok.ite (fun hlt => ?_) fun _ => ?_
    · simp only [decide_eq_true_eq] at hlt
      refine Ok.bind (TruckOf_made _ (length := r.2) (by omega) (by omega) (by omega) (by omega)) fun r4 hr4 => ?_
      refine Ok.chk (fitA_ok (by simp; omega) (by omega)) (hk _ ?_ ?_)
      · simp only [e, List.length_append, List.length_singleton]
        refine ⟨by omega, by omega, by push_cast; omega, fun t ht => ?_, trivial, trivial⟩
        rcases List.mem_append.1 ht with ht | ht
        · exact a4 t ht
        · simp only [List.mem_singleton] at ht; subst ht; exact hr4
      · simp [e]; omega
    · exact Ok.bind (wide_made _ (c := ⟨r.2, gap, r2.2, ts⟩) (most := most) (by omega) (by simp only; omega) (by simp only; omega) (by simp only; omega) (by simp only; omega) (by simp only; omega) a4) fun r5 hr5 => Ok.some hr5
end Go.Proofs.Plain04
namespace Go.Proofs.Plain04
open Go Go.Ab
open Go.Proofs.YtafnhieaeejlcaaDoor (iseat seat chkConvoy meetingP optM offP turnC turnT turnH Bnd c19 c27 c36 c42)
set_option linter.all false
set_option maxRecDepth 100000
def fitT (c : Convoy) : Bool := decide (c.Trucks.length ≤ 25) && decide (-1000000000 ≤ c.Length) && decide (c.Length ≤ 1000000000) && c.Trucks.all fun t => decide (t.Holds.length ≤ 12) && decide (-1000000000 ≤ t.Way) && decide (t.Way ≤ 1000000000) && t.Holds.all fun h => decide (-1000000000 ≤ h.At) && decide (h.At ≤ 1000000000)
theorem fitT_bnd {c : Convoy} (h : fitT c = true) : Bnd (oC c) := by
  simp only [fitT, Bool.and_eq_true, decide_eq_true_eq, List.all_eq_true] at h
  obtain ⟨⟨⟨h1, h2⟩, h3⟩, h4⟩ := h
  refine ⟨by simpa [oC] using h1, h2, h3, fun k hk => ?_⟩
  have hk' : k < c.Trucks.length := by simpa [oC] using hk
  have e : (oC c).trucks.getD k default = oT (c.Trucks.getD k dfltTruck) := by
    show (c.Trucks.map oT).getD k default = _
    rw [show (default : Go.Proofs.YtafnhieaeejlcaaDoor.Truck) = oT dfltTruck from rfl, getD_map]
  obtain ⟨⟨⟨q1, q2⟩, q3⟩, q4⟩ := h4 _ (getD_mem (d := dfltTruck) hk')
  rw [e]
  refine ⟨by simpa [oT] using q1, q2, q3, fun j hj => ?_⟩
  have hj' : j < (c.Trucks.getD k dfltTruck).Holds.length := by simpa [oT] using hj
  have e2 : (oT (c.Trucks.getD k dfltTruck)).holds.getD j default = oH ((c.Trucks.getD k dfltTruck).Holds.getD j dfltHold) := by
    show ((c.Trucks.getD k dfltTruck).Holds.map oH).getD j default = _
    rw [show (default : Go.Proofs.YtafnhieaeejlcaaDoor.Hold) = oH dfltHold from rfl, getD_map]
  rw [e2]
  exact q4 _ (getD_mem (d := dfltHold) hj')
noncomputable section
def awake : Option Bool := opq (some true)
theorem awake_eq : awake = some true := by unfold awake; rw [opq_eq]
def pMeets : Convoy → Option (Meeting × Int) := opq fun c => some (meetS c)
theorem pMeets_eq (c : Convoy) : pMeets c = some (meetS c) := by unfold pMeets; rw [opq_eq]
def pOff : Convoy → Option (Span × Int) := opq fun c => some (nS (if chkConvoy (oC c) = 0 then offP (oC c) else default), chkConvoy (oC c))
theorem pOff_eq (c : Convoy) : pOff c = some (nS (if chkConvoy (oC c) = 0 then offP (oC c) else default), chkConvoy (oC c)) := by unfold pOff; rw [opq_eq]
def Turned : Convoy → Option Convoy := opq fun c => chk (fitT c) (some (nC (turnC (oC c))))
theorem Turned_eq (c : Convoy) : Turned c = chk (fitT c) (some (nC (turnC (oC c)))) := by unfold Turned; rw [opq_eq]
def w19 : FnSpec iseat.toSeat := mkSpec iseat.toSeat 19 [] [.bool] true (fun _ => awake) (fun a x hx h h' => by
  replace hx : awake = some x := hx; rw [awake_eq] at hx
  simp only [Option.some.injEq] at hx; subst hx
  exact c19) (fun _ x => rfl)
def w27 : FnSpec iseat.toSeat := mkSpec iseat.toSeat 27 [.Convoy] [.Meeting, .int .i64] true (fun a => pMeets a.1) (fun a x hx h h' => by
  replace hx : pMeets a.1 = some x := hx; rw [pMeets_eq] at hx
  simp only [Option.some.injEq] at hx; subst hx
  show Contract iseat.toSeat 27 [(encV .Convoy a.1).toD h] _
  rw [argC, resM]; exact c27 _) (fun _ x => rfl)
def w36 : FnSpec iseat.toSeat := mkSpec iseat.toSeat 36 [.Convoy] [.Span, .int .i64] true (fun a => pOff a.1) (fun a x hx h h' => by
  replace hx : pOff a.1 = some x := hx; rw [pOff_eq] at hx
  simp only [Option.some.injEq] at hx; subst hx
  show Contract iseat.toSeat 36 [(encV .Convoy a.1).toD h] (.tup [.agg (Go.Proofs.YtafnhieaeejlcaaDoor.encSpan (if chkConvoy (oC a.1) = 0 then offP (oC a.1) else default)), .int .i64 (chkConvoy (oC a.1))])
  rw [argC]; exact c36 _) (fun _ x => rfl)
def w42 : FnSpec iseat.toSeat := mkSpec iseat.toSeat 42 [.Convoy] [.Convoy] false (fun a => Turned a.1) (fun a x hx h h' => by
  replace hx : Turned a.1 = some x := hx; rw [Turned_eq] at hx
  obtain ⟨hc, hx⟩ := chk_some hx
  simp only [Option.some.injEq] at hx; subst hx
  show Contract iseat.toSeat 42 [(encV .Convoy a.1).toD h] ((encV .Convoy (nC (turnC (oC a.1)))).toD h')
  rw [argC, argC, oC_nC]
  exact c42 _ (fitT_bnd hc)) (fun h => nomatch h)
end
end Go.Proofs.Plain04
namespace Go.Proofs.Plain04
open Go Go.Ab
open Go.Proofs.YtafnhieaeejlcaaDoor (iseat)
set_option linter.all false
set_option maxRecDepth 100000
noncomputable section
def ConvoyTurned' (it : It Bool) (nums : List Int) : Option Bool :=
 (NewSeed nums).bind fun r =>
 (ConvoyOf r 4).bind fun r2 =>
 (Turned r2.2).bind fun r3 =>
 (pMeets r2.2).bind fun r4 =>
 (pMeets r3).bind fun r5 =>
 (pOff r2.2).bind fun r6 =>
 (pOff r3).bind fun r7 =>
 bif (r4.2 == r5.2) then
 bif (r4.1.Minute == r5.1.Minute) then
 bif (r4.1.First == r5.1.First) then
 bif (r4.1.Second == r5.1.Second) then
 bif (r4.1.FirstFails == r5.1.FirstFails) then
 bif (r4.1.SecondFails == r5.1.SecondFails) then
 bif (r6.2 == 0) then
 bif (r7.2 == 0) then
 bif (decide (r6.1.Lo = r7.1.Lo) && (decide (r6.1.Hi = r7.1.Hi) && true)) then
 (awake).bind fun r8 =>
 some r8
 else
 some false
 else
 some false
 else
 some false
 else
 some false
 else
 some false
 else
 some false
 else
 some false
 else
 some false
 else
 some false
def ConvoyTurned : (List Int) → Option Bool := opq (fun nums => ConvoyTurned' itN nums)
theorem ConvoyTurned_eq (nums : List Int) : ConvoyTurned nums = ConvoyTurned' itN nums := by unfold ConvoyTurned; rw [opq_eq]
def E8 : FEnv iseat := ⟨⟨92, [w42, w27, w36, w19], [sp25], [sp24], [], [], [], [], [], [], [], [], [], true⟩, []⟩
theorem e8 (it : It Bool) (nums : List Int) : fnRun (ts := [.bool]) it E8 (bodyOf Tryd.f8) Tryd.f8.results.toList (encA [.sl (.int .i64)] (nums, ())) = ConvoyTurned' it nums := by kernel_rfl
end
end Go.Proofs.Plain04
namespace Go.Proofs.Plain04
open Go Go.Ab
open Go.Proofs.YtafnhieaeejlcaaDoor (chkConvoy meetingP optM offP turnC turnT WayOk WaysOk strip optM_turn offP_turn chkConvoy_turn meetingP_turn)
set_option linter.all false
theorem made_fit {most : Int} {c : Convoy} (h : CMade most c) (hm : most ≤ 20) : fitT c = true := by
  simp only [fitT, Bool.and_eq_true, decide_eq_true_eq, List.all_eq_true]
  refine ⟨⟨⟨by have := h.n; omega, by have := h.l1; omega⟩, by have := h.l2; omega⟩, fun t ht => ?_⟩
  have q := h.t t ht
  refine ⟨⟨⟨by have := q.n; omega, by rcases q.way with e | e <;> omega⟩, by rcases q.way with e | e <;> omega⟩, fun x hx => ?_⟩
  have := q.h (oH x) (List.mem_map_of_mem hx)
  have l2 := h.l2
  exact ⟨by have h1 : 1 ≤ x.At := this.1; omega, by have h1 : x.At ≤ c.Length - 1 := this.2.1; omega⟩
theorem made_ways {most : Int} {c : Convoy} (h : CMade most c) : ∀ t ∈ (oC c).trucks, WayOk t.way := fun x hx => by
  obtain ⟨y, hy, rfl⟩ := List.mem_map.1 hx
  exact (h.t y hy).way
theorem ways_of {c : OCv} (h : ∀ t ∈ c.trucks, WayOk t.way) : WaysOk c := fun k hk => h _ (getD_mem hk)
theorem ConvoyTurned_true {nums : List Int} (hn : nums.length ≤ 9223372036854775807) : ConvoyTurned nums = some true := by
  rw [ConvoyTurned_eq]; apply ok_eq
  refine Ok.bind (NewSeed_ok hn) fun r _ => ?_
  refine Ok.bind (ConvoyOf_made _ (by omega) (by omega)) fun r2 h2 => ?_
  have hv := made_valid h2 (by omega)
  have hw := made_ways h2
  have ho := ways_of hw
  have hg : 1 ≤ (oC r2.2).gap := h2.g1
  have hv2 : chkConvoy (turnC (oC r2.2)) = 0 := (chkConvoy_turn hw).trans hv
  have hm := meetingP_turn hg ho
  have hs := optM_turn hg ho
  refine Ok.beq (a := nC (turnC (oC r2.2))) (by rw [Turned_eq, made_fit h2 (by omega)]; rfl) ?_
  refine Ok.beq (pMeets_eq _) (Ok.beq (pMeets_eq _) (Ok.beq (pOff_eq _) (Ok.beq (pOff_eq _) ?_)))
  unfold meetS
  rw [oC_nC, hv, hv2, offP_turn ho]
  simp only [if_true]
  simp only [strip, Prod.mk.injEq] at hs
  have hi : (meetingP (turnC (oC r2.2))).isSome = (meetingP (oC r2.2)).isSome := by
    revert hm
    cases meetingP (turnC (oC r2.2)) <;> cases meetingP (oC r2.2) <;> intro e <;> first | rfl | cases e
  obtain ⟨e1, e2, e3, e4, e5⟩ := hs
  refine Ok.yes (by rw [hi]; exact beq_self_eq_true _) (Ok.yes ?_ (Ok.yes ?_ (Ok.yes ?_ (Ok.yes ?_ (Ok.yes ?_ (Ok.yes rfl (Ok.yes rfl (Ok.yes ?_ ?_))))))))
  · show ((optM (meetingP (oC r2.2))).m == (optM (meetingP (turnC (oC r2.2)))).m) = true
    rw [e1]; exact beq_self_eq_true _
  · show ((optM (meetingP (oC r2.2))).i == (optM (meetingP (turnC (oC r2.2)))).i) = true
    rw [e2]; exact beq_self_eq_true _
  · show ((optM (meetingP (oC r2.2))).k == (optM (meetingP (turnC (oC r2.2)))).k) = true
    rw [e3]; exact beq_self_eq_true _
  · show ((optM (meetingP (oC r2.2))).fi == (optM (meetingP (turnC (oC r2.2)))).fi) = true
    rw [e4]; exact beq_self_eq_true _
  · show ((optM (meetingP (oC r2.2))).fk == (optM (meetingP (turnC (oC r2.2)))).fk) = true
    rw [e5]; exact beq_self_eq_true _
  · simp
  · rw [awake_eq]; exact Ok.beq rfl (Ok.some rfl)
end Go.Proofs.Plain04
namespace Go.Proofs.YtafnhieaeejlcaaDoor
open Go Go.Ab Go.ChangeShapes Go.WideShapes Go.ChangeAt Go.RowKit
set_option maxRecDepth 100000
def allK (w : World) : Nat → Nat → Option Value := fun b o => w.cell? ⟨b, o, none⟩
theorem allK_fits (w : World) : Fits (allK w) w := fun _ _ _ h => h
theorem cells3 : Tryd.prog.cellsOf 3 = 1 := by kernel_rfl
theorem cells102 : Tryd.prog.cellsOf 102 = 2 := by kernel_rfl
theorem cells103 : Tryd.prog.cellsOf 103 = 8 := by kernel_rfl
section
variable {H : Type} {enc : TypeId × Value → H} {W : World}
def Rd {α : Type} (enc : TypeId × Value → H) (W : World) (t : TypeId) (ec : α → List D) : Prop :=
  ∀ n cs x, DataW.trod enc Tryd.prog W 0 (fun _ => true) true n t cs = some x → ∃ a : α, RepL (allK W) γ0 sv0 (ec a) cs
theorem fld {fs : Array Field} {xs : List (DataW H × List MemPlace)} {cs : List Value} {n : Nat}
    (hf : ∀ (i : Nat) (f : Field), fs[i]? = some f → DataW.trod enc Tryd.prog W 0 (fun _ => true) true n f.type ((cs.drop f.offset).take (Tryd.prog.cellsOf f.type)) = xs[i]?)
    (hl : xs.length = fs.size) (i : Nat) (f : Field) (hi : fs[i]? = some f) : ∃ y, DataW.trod enc Tryd.prog W 0 (fun _ => true) true n f.type ((cs.drop f.offset).take (Tryd.prog.cellsOf f.type)) = some y := by
  have h1 := (Array.getElem?_eq_some_iff.1 hi).1
  rw [← hl] at h1
  exact ⟨xs[i], by rw [hf i f hi]; exact List.getElem?_eq_getElem h1⟩
theorem rd_int : Rd enc W 3 encI := by
  intro n cs x h
  obtain ⟨a, rfl, _⟩ := DataW.trod_int Tryd.underlying3 h
  exact ⟨a, .cons _ _ _ _ (.int _ _) .nil⟩
theorem rd_slice {α : Type} [Inhabited α] {t e z : Nat} {ec : α → List D} (ht : Tryd.prog.underlying t = some (.slice e)) (hz : Tryd.prog.cellsOf e = z) (hz0 : 0 < z) (hl : ∀ a, (ec a).length = z)
    (hc : ∀ a, allCell (ec a) = true) (hr : Rd enc W e ec) : Rd enc W t (fun l : List α => [slOf z ec l]) := by
  intro n cs x h
  rcases Deep.open_slice ht h with ⟨rfl, rfl⟩ | ⟨a, len, cap, m, n', D, Pl, rfl, _, hlc, _, hm, rfl, hx⟩
  · exact ⟨[], .cons _ _ _ _ (.sl0 _ _) .nil⟩
  · simp only [if_true] at hm
    subst hm
    rw [hz] at hx
    rcases Nat.eq_zero_or_pos len with rfl | hpos
    · exact ⟨[], .cons _ _ _ _ (.slE _ _ _ _) .nil⟩
    · have hx' : ∀ i, i < len → ∃ p : α × List Value, W.cells? 0 (a.add (i * z)) z = some p.2 ∧ RepL (allK W) γ0 sv0 (ec p.1) p.2 := fun i hi => by
        obtain ⟨cs', h1, h2⟩ := hx i (by omega)
        obtain ⟨b, hb⟩ := hr _ _ _ h2
        exact ⟨(b, cs'), h1, hb⟩
      obtain ⟨F, hF⟩ := Deep.choose_lt hx'
      have hsp : a.spot = none := by
        obtain ⟨_, h1, h2⟩ := World.cells?_some (hF 0 hpos).1
        have h3 := h2 0 hz0
        rw [List.getElem?_eq_getElem (by omega)] at h3
        simpa [Addr.add] using World.cell?_spot h3
      obtain ⟨b, off, sp⟩ := a
      simp only at hsp
      subst hsp
      refine ⟨(List.range len).map (fun i => (F i).1), .cons _ _ _ _ ?_ .nil⟩
      have hlen : ((List.range len).map (fun i => (F i).1)).length = len := by simp
      have hg : ∀ i, i < len → ((List.range len).map (fun i => (F i).1)).getD i default = (F i).1 := fun i hi => by simp [List.getD, hi]
      unfold slOf
      rw [hlen]
      refine .sl z len _ b off m (fun i => (F i).2) hlc (fun i _ => hl _) (fun i _ => hc _) (fun i hi => by rw [hg i hi]; exact (hF i hi).2) (fun i j v hi hj => ?_)
      obtain ⟨_, h1, h2⟩ := World.cells?_some (hF i hi).1
      have hjl := (List.getElem?_eq_some_iff.1 hj).1
      have h3 := h2 j (by omega)
      rw [add_plain, add_plain, hj] at h3
      exact h3
theorem arg_ints {v : Value} {d : DataW H} {ps : List MemPlace} {base : Nat} (hv : Value.okWide Tryd.prog W .any base 31 v) (h : DataW.Trod enc Tryd.prog W 0 (fun _ => true) true 31 v d ps) :
    ∃ l : List Int, Rep (allK W) γ0 sv0 (slOf 1 encI l) v := by
  obtain ⟨n, hn⟩ := h
  obtain ⟨l, hl⟩ := rd_slice (ec := encI) Tryd.underlying31 cells3 (by decide) (fun _ => rfl) (fun _ => rfl) rd_int _ _ _ hn
  obtain ⟨a0, len, cap, rfl⟩ := okWide_slice Tryd.underlying31 hv
  cases hl with
  | cons _ _ _ _ k _ => exact ⟨l, k⟩
end
theorem glob_of {W : World} (h : laidMetH Tryd.prog [("sastrugi/convoy.cases", Rows.laid_sastrugi_convoy_cases)] W) : GlobOk seat (allK W) W := by
  refine ⟨?_, fun g n hn => by cases hn⟩
  have h' : laidMet Tryd.prog [("sastrugi/convoy.cases", Rows.laid_sastrugi_convoy_cases)] W := h
  obtain ⟨ps, ⟨g, t, cs, fuel, p, q, hg, ht, hvar, hd, _, _⟩, _⟩ := h'
  have hg0 : Tryd.prog.globalNamed "sastrugi/convoy.cases" = some 0 := by kernel_rfl
  have ht0 : (Tryd.prog.globals[0]?).map (·.type) = some 103 := by kernel_rfl
  obtain rfl := Option.some.inj (hg0.symm.trans hg)
  obtain rfl := Option.some.inj (ht0.symm.trans ht)
  obtain ⟨xs, m, rfl, hx, hlen, hxl, he⟩ := DataW.trod_array Tryd.underlying103 hd
  have hx1 := congrArg Prod.fst hx
  simp only [Rows.laid_sastrugi_convoy_cases, DataW.agg.injEq] at hx1
  rw [cells103] at hlen
  rw [cells102] at he
  have row : ∀ i a b, i < 4 → (xs.map (·.1))[i]? = some (.agg [.lit (.int .i64 a), .lit (.int .i64 b)]) → (cs.toList.drop (i * 2)).take 2 = [Value.int .i64 a, Value.int .i64 b] := fun i a b hi hi2 => by
    rw [List.getElem?_map] at hi2
    obtain ⟨y, hy, hy2⟩ := Option.map_eq_some_iff.1 hi2
    have h1 := he i hi
    rw [hy] at h1
    obtain ⟨d, p'⟩ := y
    simp only at hy2
    subst hy2
    exact Lib.cells_of_tab (zs := [a, b]) Tryd.underlying102 Tryd.underlying3 cells3 cells102 h1
  rw [← hx1] at row
  have r0 := row 0 0 0 (by decide) rfl
  have r1 := row 1 1 0 (by decide) rfl
  have r2 := row 2 0 1 (by decide) rfl
  have r3 := row 3 1 1 (by decide) rfl
  have hcell : ∀ j, W.cell? ⟨0, j, none⟩ = cs.toList[j]? := fun j => by rw [World.var?_cell hg hvar j]; simp
  generalize cs.toList = l at hlen r0 r1 r2 r3 hcell
  rcases l with _ | ⟨c0, _ | ⟨c1, _ | ⟨c2, _ | ⟨c3, _ | ⟨c4, _ | ⟨c5, _ | ⟨c6, _ | ⟨c7, _ | ⟨c8, l⟩⟩⟩⟩⟩⟩⟩⟩⟩ <;> simp at hlen
  simp at r0 r1 r2 r3
  obtain ⟨rfl, rfl⟩ := r0
  obtain ⟨rfl, rfl⟩ := r1
  obtain ⟨rfl, rfl⟩ := r2
  obtain ⟨rfl, rfl⟩ := r3
  intro g l hl
  show _
  have hl' : globs g = some l := hl
  unfold globs at hl'
  split at hl'
  · simp only [Option.some.injEq] at hl'
    subst hl'
    refine ⟨rfl, _, ?_, fun j v hj => by rw [show allK W 0 j = _ from hcell j]; exact hj⟩
    exact .cons _ _ _ _ (.int _ _) (.cons _ _ _ _ (.int _ _) (.cons _ _ _ _ (.int _ _) (.cons _ _ _ _ (.int _ _) (.cons _ _ _ _ (.int _ _) (.cons _ _ _ _ (.int _ _) (.cons _ _ _ _ (.int _ _) (.cons _ _ _ _ (.int _ _) .nil)))))))
  · cases hl'
theorem laidOut : laidOutB Tryd.prog = true := by kernel_rfl
theorem own : ownKnob Tryd.prog.godebug = none := by kernel_rfl
theorem trodAll_stays {H : Type} {enc : TypeId × Value → H} {W W' : World} {sp' : Nat → Bool} (hb : Below W.heap.size W W') : ∀ {ts : List TypeId} {vs : List Value} {ds : List (DataW H)} {ps : List MemPlace},
    (∀ t ∈ ts, Tryd.prog.readableRec t = true ∧ t < Tryd.prog.types.size) → DataW.TrodAll enc Tryd.prog W 0 (fun _ => true) true ts vs ds ps → (∀ p ∈ ps, p.block < W.heap.size) → (∀ p ∈ ps, sp' p.block = true) →
    DataW.TrodAll enc Tryd.prog W' 0 sp' true ts vs ds ps
  | [], [], [], _, _, h, _, _ => h
  | _ :: _, _ :: _, _ :: _, _, hT, ⟨p, q, h1, h2, e⟩, hlt, hs => ⟨p, q,
      WideElems.Trod_stays laidOut (hT _ (List.mem_cons_self ..)).1 (hT _ (List.mem_cons_self ..)).2 h1 (fun x hx => hb.same (hlt x (by rw [e]; exact List.mem_append_left _ hx))) (fun x hx => hs x (by rw [e]; exact List.mem_append_left _ hx)),
      trodAll_stays hb (fun t ht => hT t (List.mem_cons_of_mem _ ht)) h2 (fun x hx => hlt x (by rw [e]; exact List.mem_append_right _ hx)) (fun x hx => hs x (by rw [e]; exact List.mem_append_right _ hx)), e⟩
theorem post_yes {H : Type} {enc : TypeId × Value → H} {f : Func} {s : ChangeSpec} {W W' : World} {args : Array Value} {ds gs : List (DataW H)} {before : List MemPlace}
    (hW : DataW.Whole enc Tryd.prog f.params.toList s.vars false W args.toList ds gs before) (hv : s.vars = []) (hb : Below W.heap.size W W')
    (hT : ∀ t ∈ f.params.toList, Tryd.prog.readableRec t = true ∧ t < Tryd.prog.types.size) (hrt : f.resultTypes = #[4])
    (hr : (s.fn H (ds ++ gs)).results = [.lit (.bool true)]) (ha : (s.fn H (ds ++ gs)).args = ds) (hvs : (s.fn H (ds ++ gs)).vars = []) :
    s.post enc Tryd.prog f false true false false W args (.bool true) W' := by
  have hlt := hW.lt
  have hW2 := hW
  obtain ⟨p, q, hA, hV, rfl, _, _⟩ := hW
  rw [hv] at hV
  obtain ⟨rfl, rfl⟩ := trodVars_none hV
  refine ⟨ds, [], p ++ [], [], p, [], hW2, ?_, ?_, ?_, hb.frame _, fun h => by cases h⟩
  · rw [hr, hrt]
    exact trodAll_mk1 (shut_bool Tryd.underlying4 _)
  · rw [ha]
    exact trodAll_stays hb hT hA (fun x hx => hlt x (by simpa using hx)) (fun x hx => by simpa using hlt x (by simpa using hx))
  · rw [hvs, hv]; rfl
noncomputable def laidWorld (os : Os) : World :=
  { World.holding Tryd.prog os ⟨#[], #[], []⟩ with heap := (World.holding Tryd.prog os ⟨#[], #[], []⟩).heap.modify 0 fun
      | .cells _ t frozen => .cells #[.int .i64 0, .int .i64 0, .int .i64 1, .int .i64 0, .int .i64 0, .int .i64 1, .int .i64 1, .int .i64 1] t frozen
      | o => o }
end Go.Proofs.YtafnhieaeejlcaaDoor
namespace Go.Proofs.YtafnhieaeejlcaaDoor
open Go Go.Ab Go.ChangeShapes Go.WideShapes Go.ChangeAt Go.RowKit
set_option linter.all false
set_option maxRecDepth 100000
theorem ints_len {κ : Nat → Nat → Option Value} {γ : Nat → Nat} {sv : Nat → Value} {W : World} {base : Nat} {v : Value} {l : List Int} (hv : Value.okWide Tryd.prog W .any base 31 v) (h : Rep κ γ sv (slOf 1 encI l) v) : l.length ≤ 9223372036854775807 := by
  unfold slOf at h
  generalize hn : l.length = n at h
  cases h with
  | sl0 => omega
  | slE => omega
  | sl _ _ _ b off cap u hc =>
    simp only [Value.okWide, Cell.okWide, Cell.ok, Tryd.underlying31] at hv
    have h1 := hv.2.1
    have h2 : IntKind.i64.max = 9223372036854775807 := by decide
    rw [h2] at h1
    omega
end Go.Proofs.YtafnhieaeejlcaaDoor
