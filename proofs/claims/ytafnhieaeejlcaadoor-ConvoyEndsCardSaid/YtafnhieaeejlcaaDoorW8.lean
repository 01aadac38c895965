/- Walks by computing: what each function of the program that the laws reach gives for what it gets, as plain Lean, and that it is so; without a condition but those that stand in each theorem. -/
import Derived.Test.YtafnhieaeejlcaaDoorCards
import Derived.Test.YtafnhieaeejlcaaDoorTie
import Derived.WalkKit
import Derived.ProofKit
import Derived.OpenShut
import Derived.Deep.Slices
import Derived.Deep.DeepHandedRow
import Derived.Lib.LaidTab
import Derived.Test.YtafnhieaeejlcaaDoorW1
import Derived.Test.YtafnhieaeejlcaaDoorW2
import Derived.Test.YtafnhieaeejlcaaDoorW3
import Derived.Test.YtafnhieaeejlcaaDoorW4
import Derived.Test.YtafnhieaeejlcaaDoorW5
import Derived.Test.YtafnhieaeejlcaaDoorW6
import Derived.Test.YtafnhieaeejlcaaDoorW7
set_option linter.all false
/- When the last truck is off: plain law. Those fail that would be the last ones, and the least number for which as many have to fail as may: the same. -/
namespace Go.Proofs.YtafnhieaeejlcaaDoor
open Go Go.Ab
set_option linter.all false
def cnt (p : Nat → Bool) : Nat → Int
  | 0 => 0
  | n + 1 => cnt p n + (if p n then 1 else 0)
theorem cnt_t {p : Nat → Bool} {n : Nat} (h : p n = true) : cnt p (n + 1) = cnt p n + 1 := by simp only [cnt, if_pos h]
theorem cnt_f {p : Nat → Bool} {n : Nat} (h : p n = false) : cnt p (n + 1) = cnt p n := by simp only [cnt, h]; simp
theorem cnt_le {p q : Nat → Bool} : ∀ {n}, (∀ i, i < n → p i = true → q i = true) → cnt p n ≤ cnt q n
  | 0, _ => Int.le_refl _
  | n + 1, h => by
    have ih := cnt_le (p := p) (q := q) (n := n) fun i hi => h i (by omega)
    have := h n (by omega)
    simp only [cnt]
    cases hp : p n <;> cases hq : q n <;> simp_all <;> omega
theorem cnt_lt {p q : Nat → Bool} : ∀ {n}, (∀ i, i < n → p i = true → q i = true) → (∃ a, a < n ∧ q a = true ∧ p a = false) → cnt p n + 1 ≤ cnt q n
  | 0, _, ⟨a, h, _⟩ => by omega
  | n + 1, h, ⟨a, h1, h2, h3⟩ => by
    have hn := h n (by omega)
    simp only [cnt]
    by_cases e : a = n
    · subst e
      have ih := cnt_le (p := p) (q := q) (n := a) fun i hi => h i (by omega)
      rw [h2, h3]; simp; omega
    · have ih := cnt_lt (p := p) (q := q) (n := n) (fun i hi => h i (by omega)) ⟨a, by omega, h2, h3⟩
      cases hp : p n <;> cases hq : q n <;> simp_all <;> omega
theorem cnt_upd {p q : Nat → Bool} {j : Nat} (h : ∀ i, i ≠ j → q i = p i) (hp : p j = false) (hq : q j = true) : ∀ n, cnt q n = cnt p n + (if j < n then 1 else 0)
  | 0 => rfl
  | n + 1 => by
    have ih := cnt_upd h hp hq n
    simp only [cnt]
    rw [ih]
    by_cases e : n = j
    · subst e; rw [hp, hq]; simp
    · rw [h n e]
      by_cases e2 : j < n
      · rw [if_pos e2, if_pos (show j < n + 1 by omega)]; omega
      · rw [if_neg e2, if_neg (show ¬ j < n + 1 by omega)]; omega
theorem cnt_none {p : Nat → Bool} (h : ∀ i, p i = false) : ∀ n, cnt p n = 0
  | 0 => rfl
  | n + 1 => by simp only [cnt, cnt_none h n, h n]; rfl
theorem cnt_max (p : Nat → Bool) : ∀ n, cnt p n ≤ n
  | 0 => Int.le_refl _
  | n + 1 => by have := cnt_max p n; simp only [cnt]; split <;> omega
theorem mayC_iff {keep fail : Nat → Int} {m : Int} : ∀ {n : Nat} {c : Int}, mayC keep fail m n = some c ↔ (∀ i, i < n → keep i ≤ m ∨ fail i ≤ m) ∧ c = cnt (fun i => decide (keep i > m)) n
  | 0, c => by simp [mayC, cnt, eq_comm]
  | n + 1, c => by
    simp only [mayC]
    cases e : mayC keep fail m n with
    | none =>
      refine ⟨fun h => by simp at h, fun ⟨h1, h2⟩ => ?_⟩
      have := (mayC_iff (c := cnt (fun i => decide (keep i > m)) n)).2 ⟨fun i hi => h1 i (by omega), rfl⟩
      rw [e] at this; cases this
    | some d =>
      obtain ⟨h1, h2⟩ := mayC_iff.1 e
      simp only
      by_cases a : keep n ≤ m
      · rw [if_pos a, cnt_f (decide_eq_false (show ¬ keep n > m by omega))]
        constructor
        · intro h
          cases h
          exact ⟨fun i hi => by
            by_cases ei : i = n
            · subst ei; exact .inl a
            · exact h1 i (by omega), by omega⟩
        · rintro ⟨_, h⟩; rw [h, h2]
      · rw [if_neg a, cnt_t (decide_eq_true (show keep n > m by omega))]
        by_cases b : fail n > m
        · rw [if_pos b]
          exact ⟨fun h => by simp at h, fun ⟨h, _⟩ => by have := h n (by omega); omega⟩
        · rw [if_neg b]
          constructor
          · intro h
            cases h
            exact ⟨fun i hi => by
              by_cases ei : i = n
              · subst ei; right; omega
              · exact h1 i (by omega), by omega⟩
          · rintro ⟨_, h⟩; rw [h, h2]
theorem mayF_iff {keep fail : Nat → Int} {n : Nat} {fails m : Int} : mayF keep fail n fails m = true ↔ (∀ i, i < n → keep i ≤ m ∨ fail i ≤ m) ∧ cnt (fun i => decide (keep i > m)) n ≤ fails := by
  unfold mayF
  cases e : mayC keep fail m n with
  | none =>
    refine ⟨fun h => by simp at h, fun ⟨h1, h2⟩ => ?_⟩
    have := mayC_iff.2 ⟨h1, rfl⟩
    rw [e] at this; cases this
  | some d =>
    obtain ⟨h1, h2⟩ := mayC_iff.1 e
    simp only [decide_eq_true_eq]
    rw [h2]; exact ⟨fun h => ⟨h1, h⟩, fun h => h.2⟩
section
variable {s fast : Nat → Int} {n : Nat}
/-- Who fails behind m rounds. -/
def inR (s : Nat → Int) (n m : Nat) : Nat → Bool := fun i => decide (soonP s n m i = -1)
theorem greedy (hs : ∀ i, 0 ≤ s i) : ∀ m, m ≤ n → cnt (inR s n m) n = m ∧ (∀ i, soonP s n m i = -1 ∨ soonP s n m i = s i) ∧ (∀ r a, r < n → a < n → inR s n m r = true → inR s n m a = false → s a ≤ s r) ∧
    ∀ M, (loP s fast n m ≤ M ↔ 0 ≤ M ∧ ∀ i, i < n → inR s n m i = true → fast i ≤ M)
  | 0, _ => by
    have hz : ∀ i, inR s n 0 i = false := fun i => by
      have := hs i
      unfold inR; rw [soonP_zero]; simp; omega
    refine ⟨cnt_none hz n, fun i => .inr rfl, fun r a _ _ h => ?_, fun M => ⟨fun h => ⟨h, fun i _ hi => ?_⟩, fun h => h.1⟩⟩
    · rw [hz r] at h; cases h
    · rw [hz i] at hi; cases hi
  | m + 1, hm => by
    obtain ⟨h1, h2, h3, h4⟩ := greedy hs m (by omega)
    obtain ⟨w1, w2, _⟩ := worst_spec (soonP s n m) (n := n) (by omega)
    generalize hw : worst (soonP s n m) n = w at *
    have hmax : ∀ i, i < n → soonP s n m i ≤ soonP s n m w := fun i hi => by rw [w2]; exact maxN_ge _ _ _ (by omega)
    -- somebody is left
    have hleft : inR s n m w = false := by
      cases hb : inR s n m w with
      | false => rfl
      | true =>
        have hall : ∀ i, i < n → inR s n m i = true := fun i hi => by
          have a := hmax i hi
          have b : soonP s n m w = -1 := by simpa [inR] using hb
          have d := h2 i
          have e := hs i
          simp only [inR, decide_eq_true_eq]; omega
        have : cnt (fun _ => true) n ≤ cnt (inR s n m) n := cnt_le fun i hi _ => hall i hi
        have hfull : ∀ k, cnt (fun _ => true) k = k := fun k => by
          induction k with
          | zero => rfl
          | succ k ih => simp only [cnt, ih]; simp
        rw [hfull, h1] at this; omega
    have hsw : soonP s n m w = s w := (h2 w).resolve_left (by simpa [inR] using hleft)
    have hR : ∀ i, inR s n (m + 1) i = if i = w then true else inR s n m i := fun i => by
      unfold inR
      rw [soonP_succ, hw]
      by_cases e : i = w
      · rw [if_pos e, if_pos e]; rfl
      · rw [if_neg e, if_neg e]
    refine ⟨?_, fun i => ?_, fun r a hr ha hr' ha' => ?_, fun M => ?_⟩
    · rw [cnt_upd (p := inR s n m) (q := inR s n (m + 1)) (j := w) (fun i hi => by rw [hR, if_neg hi]) hleft (by rw [hR, if_pos rfl]) n, h1, if_pos w1]; push_cast; rfl
    · rw [soonP_succ, hw]
      by_cases e : i = w
      · rw [if_pos e]; exact .inl rfl
      · rw [if_neg e]; exact h2 i
    · rw [hR] at hr' ha'
      by_cases ea : a = w
      · rw [if_pos ea] at ha'; cases ha'
      · rw [if_neg ea] at ha'
        by_cases er : r = w
        · subst er
          have := hmax a ha
          have e2 : soonP s n m a = s a := (h2 a).resolve_left (by simpa [inR] using ha')
          omega
        · rw [if_neg er] at hr'; exact h3 r a hr ha hr' ha'
    · rw [loP_succ, hw]
      have := h4 M
      constructor
      · intro h
        obtain ⟨a, b⟩ := this.1 (by omega)
        refine ⟨a, fun i hi hi' => ?_⟩
        rw [hR] at hi'
        by_cases e : i = w
        · subst e; omega
        · rw [if_neg e] at hi'; exact b i hi hi'
      · rintro ⟨a, b⟩
        have h5 := this.2 ⟨a, fun i hi hi' => b i hi (by rw [hR]; split <;> first | rfl | exact hi')⟩
        have h6 := b w w1 (by rw [hR, if_pos rfl])
        omega
theorem maxL_le (lo : Int) (f : Nat → Int) (M : Int) : ∀ k, maxL lo f k ≤ M ↔ lo ≤ M ∧ ∀ i, i < k → f i ≤ M
  | 0 => by rw [maxL_zero]; exact ⟨fun h => ⟨h, fun i hi => by omega⟩, fun h => h.1⟩
  | k + 1 => by
    have ih := maxL_le lo f M k
    rw [maxL_succ]
    constructor
    · intro h
      obtain ⟨a, b⟩ := ih.1 (by omega)
      refine ⟨a, fun i hi => ?_⟩
      by_cases e : i = k
      · subst e; omega
      · exact b i (by omega)
    · rintro ⟨a, b⟩
      have := ih.2 ⟨a, fun i hi => b i (by omega)⟩
      have := b k (by omega)
      omega
theorem greedy_may {fails : Int} (hs : ∀ i, 0 ≤ s i) (hf : 0 ≤ fails) (hle : ∀ i, i < n → fast i ≤ s i) (M : Int) :
    maxL (loP s fast n (min fails.toNat n)) (soonP s n (min fails.toNat n)) n ≤ M ↔ 0 ≤ M ∧ mayF s fast n fails M = true := by
  generalize hm : min fails.toNat n = m
  obtain ⟨h1, h2, h3, h4⟩ := greedy (fast := fast) (n := n) hs m (by omega)
  rw [maxL_le, h4, mayF_iff]
  have hsoon : ∀ i, inR s n m i = false → soonP s n m i = s i := fun i hi => (h2 i).resolve_left (by simpa [inR] using hi)
  constructor
  · rintro ⟨⟨a, b⟩, d⟩
    have key : ∀ i, i < n → s i > M → inR s n m i = true := fun i hi hgt => by
      cases hb : inR s n m i with
      | true => rfl
      | false =>
        have := d i hi
        rw [hsoon i hb] at this; omega
    refine ⟨a, fun i hi => ?_, ?_⟩
    · by_cases hgt : s i > M
      · exact .inr (b i hi (key i hi hgt))
      · left; omega
    · have : cnt (fun i => decide (s i > M)) n ≤ cnt (inR s n m) n := cnt_le fun i hi hp => key i hi (by simpa using hp)
      omega
  · rintro ⟨a, b, d⟩
    have key : ∀ i, i < n → s i > M → inR s n m i = true := fun i hi hgt => by
      cases hb : inR s n m i with
      | true => rfl
      | false =>
        exfalso
        have : cnt (inR s n m) n + 1 ≤ cnt (fun i => decide (s i > M)) n := cnt_lt (fun r hr hr' => by
          have := h3 r i hr hi hr' hb
          simp only [decide_eq_true_eq]; omega) ⟨i, hi, by simpa using hgt, hb⟩
        have h5 := cnt_max (fun i => decide (s i > M)) n
        omega
    refine ⟨⟨a, fun i hi hi' => ?_⟩, fun i hi => ?_⟩
    · by_cases hgt : s i > M
      · exact (b i hi).resolve_left (by omega)
      · have := hle i hi; omega
    · rcases h2 i with e | e
      · omega
      · rw [e]
        by_cases hgt : s i > M
        · have := key i hi hgt
          simp only [inR, decide_eq_true_eq] at this
          have := hs i
          omega
        · omega
end
theorem hit_free {t : Truck} {len p : Int} (h : ROk len t) (hp : t.lo ≤ p) : hitR (freeT t true) len p ≤ hitR t len p := by
  obtain ⟨e1, e2, _⟩ := hitR_ok h hp
  obtain ⟨f1, f2, _⟩ := hitR_ok (h.free true) (pace := p) hp
  refine Classical.byContradiction fun hn => ?_
  have h1 := free_ahead h (by have := h.p1; omega) (hitR t len p) (p := p)
  have hb := (posR_le (h.free true).l1 (h.free true).ho (pace := p) (by have := h.p1; omega) (hitR t len p)).2
  exact f2 (hitR t len p) (by omega) (by omega)
def kF (c : Convoy) (i : Nat) : Int := if i < c.trucks.length then keepF c i else 0
theorem idxF_congr {p q : Nat → Bool} : ∀ f k, (∀ i, k ≤ i → i < k + f → p i = q i) → idxF p f k = idxF q f k
  | 0, _, _ => rfl
  | f + 1, k, h => by
    simp only [idxF]
    rw [h k (Nat.le_refl _) (by omega), idxF_congr f (k + 1) fun i a b => h i (by omega) (by omega)]
theorem soon_congr {s s' : Nat → Int} {n : Nat} (h : ∀ i, i < n → s i = s' i) : ∀ m, m ≤ n → (∀ i, i < n → soonP s n m i = soonP s' n m i) ∧ (0 < n → ∀ k, k < m → worst (soonP s n k) n = worst (soonP s' n k) n)
  | 0, _ => ⟨h, fun _ k hk => by omega⟩
  | m + 1, hm => by
    obtain ⟨h1, h2⟩ := soon_congr h m (by omega)
    have hw : worst (soonP s n m) n = worst (soonP s' n m) n := by
      have hN : ∀ k, k < n → maxN (soonP s n m) k = maxN (soonP s' n m) k := fun k hk => by
        induction k with
        | zero => exact h1 0 hk
        | succ k ih => simp only [maxN]; rw [ih (by omega), h1 (k + 1) hk]
      unfold worst
      rw [idxF_congr (q := fun i => decide (maxN (soonP s' n m) (n - 1) = soonP s' n m i)) n 0 fun i _ hi => by
        have e1 := hN (n - 1) (by omega)
        have e2 := h1 i (by omega)
        simp only [e1, e2]]
    refine ⟨fun i hi => ?_, fun hn k hk => ?_⟩
    · rw [soonP_succ, soonP_succ, hw, h1 i hi]
    · by_cases e : k = m
      · subst e; exact hw
      · exact h2 hn k (by omega)
theorem lo_congr {s s' f f' : Nat → Int} {n : Nat} (h : ∀ i, i < n → s i = s' i) (hf : ∀ i, i < n → f i = f' i) : ∀ m, m ≤ n → loP s f n m = loP s' f' n m
  | 0, _ => rfl
  | m + 1, hm => by
    rw [loP_succ, loP_succ, lo_congr h hf m (by omega), (soon_congr h (m + 1) hm).2 (by omega) m (by omega)]
    rw [hf _ (worst_spec (soonP s' n m) (n := n) (by omega)).1]
theorem maxL_congr {a b : Int} {f g : Nat → Int} (hab : a = b) : ∀ k, (∀ i, i < k → f i = g i) → maxL a f k = maxL b g k
  | 0, _ => hab
  | k + 1, h => by rw [maxL_succ, maxL_succ, maxL_congr hab k fun i hi => h i (by omega), h k (by omega)]
theorem mayF_congr {s s' f f' : Nat → Int} {n : Nat} {fails m : Int} (h : ∀ i, i < n → s i = s' i) (hf : ∀ i, i < n → f i = f' i) : mayF s f n fails m = mayF s' f' n fails m := by
  have : ∀ k, k ≤ n → mayC s f m k = mayC s' f' m k := fun k => by
    induction k with
    | zero => intro _; rfl
    | succ k ih => intro hk; simp only [mayC]; rw [ih (by omega), h k (by omega), hf k (by omega)]
  unfold mayF
  rw [this n (Nat.le_refl _)]
theorem keep_nonneg {c : Convoy} (hc : CR c) {i : Nat} (hi : i < c.trucks.length) : 0 ≤ keepF c i := by
  rw [keepF_eq hc hi]; have := (hc.r i hi).s1; omega
theorem fail_keep {c : Convoy} (hc : CR c) {i : Nat} (hi : i < c.trucks.length) : failF c i ≤ keepF c i := by
  rw [keepF_eq hc hi, failF_eq hc hi]
  have := hit_free (hc.r i hi) (hc.r i hi).p2
  omega
/-- The program's least number is the least for which as many have to fail as may. -/
theorem offP_iff {c : Convoy} (hc : CR c) (M : Int) : offPLo c ≤ M ↔ 0 ≤ M ∧ mayF (keepF c) (failF c) c.trucks.length c.fails M = true := by
  have hk : ∀ i, i < c.trucks.length → keepF c i = kF c i := fun i hi => by unfold kF; rw [if_pos hi]
  have hk0 : ∀ i, 0 ≤ kF c i := fun i => by
    unfold kF; split
    · exact keep_nonneg hc (by assumption)
    · exact Int.le_refl _
  have := greedy_may (s := kF c) (fast := failF c) (n := c.trucks.length) (fails := c.fails) hk0 hc.ok.f1 (fun i hi => by rw [← hk i hi]; exact fail_keep hc hi) M
  rw [← mayF_congr hk (fun i _ => rfl)] at this
  rw [← this]
  unfold offPLo failsP
  rw [lo_congr hk (fun i _ => rfl) _ (by omega), maxL_congr rfl _ fun i hi => (soon_congr hk _ (by omega)).1 i hi]
end Go.Proofs.YtafnhieaeejlcaaDoor


/- Both ends of arrivals. -/
namespace Go.Proofs.Plain04
open Go Go.Ab
open Go.Proofs.YtafnhieaeejlcaaDoor (posR nextR stopR stopP hitR alongI freeT ROk CR chkConvoy cr_of loI hiI loI_bnd hiI_bnd bI posR_le stopR_late hitR_ok keepF failF endF keepF_eq failF_eq endF_eq maxUp offP offPLo offP_iff mayF mayF_iff cnt cnt_le cnt_t cnt_f hit_free hit_lohi fail_keep keep_nonneg maxUp_bnd)
set_option linter.all false
set_option maxRecDepth 100000
theorem stopped_sp {c : Convoy} {t : Truck} (h : ROk c.Length (oT t)) {g m d : Int} (h1 : -1000000 ≤ g) (h2 : g ≤ 1000000) (h3 : -1000000 ≤ d) (h4 : d ≤ 1000000) : stopped c t g m d = some (nextR (oT t) c.Length g m d) := by
  rw [stopped_eq]; apply ok_eq
  have hl := holds_len h
  have l1 := h.l1
  have l2 := h.l2
  have ed : w64 (g + d) = g + d := w64_id (by omega) (by omega)
  unfold nextR
  refine Ok.rounds (fun v => 0 ≤ v.1.2.2.1 ∧ v.1.2.2.1 ≤ t.Holds.length ∧ stopR t.Way c.Length g m ((t.Holds.map oH).drop v.1.2.2.1.toNat) = stopR t.Way c.Length g m (t.Holds.map oH)) (fun v => ((t.Holds.length : Int) - v.1.2.2.1).toNat) ?_ ?_ ?_
  · show ((t.Holds.length : Int) - 0).toNat < 18446744073709551616
    omega
  · exact ⟨Int.le_refl _, by show (0 : Int) ≤ _; omega, rfl⟩
  · rintro ⟨⟨_, _, i, _⟩, _⟩ kn ⟨i1, i2, i3⟩ hk
    simp only at i1 i2 i3 ⊢
    have e : w64 (i + 1) = i + 1 := w64_id (by omega) (by omega)
    refine Ok.ite (fun hlt => ?_) fun hge => Ok.some ?_
    · simp only [decide_eq_true_eq] at hlt
      have hi : i.toNat < t.Holds.length := by omega
      obtain ⟨b1, b2, b3, b4⟩ := hold_mem h hi
      rw [dropm (d := dfltHold) hi, stopR_oH] at i3
      have nxt : ¬ ((alongI t.Way c.Length (t.Holds.getD i.toNat dfltHold).At ≥ g) ∧ (t.Holds.getD i.toNat dfltHold).Until > m) → Ok (fun b => b = min (g + d) (stopR (oT t).way c.Length g m (oT t).holds)) (kn (((), (), w64 (i + 1), ()), ())) := fun hn => by
        rw [if_neg hn] at i3
        refine hk _ ⟨by simp only [e]; omega, by simp only [e]; omega, ?_⟩ (by simp only [e]; omega)
        simp only [e]; rw [toNat_succ i1]; exact i3
      refine Ok.chk (ib i1 hlt) ?_
      by_cases hw : t.Way = 2
      · have ea : alongI t.Way c.Length (t.Holds.getD i.toNat dfltHold).At = c.Length - (t.Holds.getD i.toNat dfltHold).At := by unfold alongI; rw [if_pos hw]
        have ew : w64 (c.Length - (t.Holds.getD i.toNat dfltHold).At) = c.Length - (t.Holds.getD i.toNat dfltHold).At := w64_id (by omega) (by omega)
        rw [ea] at nxt i3
        rw [ew, ed]
        refine Ok.yes (beq_iff_eq.2 hw) (Ok.ite (fun hc => Ok.chk (ib i1 hlt) ?_) fun hc => nxt fun hh => ?_)
        · simp only [decide_eq_true_eq] at hc
          refine Ok.ite (fun hc2 => Ok.some ?_) fun hc2 => nxt fun hh => ?_
          · simp only [decide_eq_true_eq] at hc2
            rw [if_pos ⟨hc, hc2⟩] at i3
            exact congrArg (min (g + d)) i3
          · simp only [decide_eq_false_iff_not] at hc2; exact hc2 hh.2
        · simp only [decide_eq_false_iff_not] at hc; exact hc hh.1
      · have ea : alongI t.Way c.Length (t.Holds.getD i.toNat dfltHold).At = (t.Holds.getD i.toNat dfltHold).At := by unfold alongI; rw [if_neg hw]
        rw [ea] at nxt i3
        rw [ed]
        refine Ok.no (beq_eq_false_iff_ne.2 hw) (Ok.ite (fun hc => Ok.chk (ib i1 hlt) ?_) fun hc => nxt fun hh => ?_)
        · simp only [decide_eq_true_eq] at hc
          refine Ok.ite (fun hc2 => Ok.some ?_) fun hc2 => nxt fun hh => ?_
          · simp only [decide_eq_true_eq] at hc2
            rw [if_pos ⟨hc, hc2⟩] at i3
            exact congrArg (min (g + d)) i3
          · simp only [decide_eq_false_iff_not] at hc2; exact hc2 hh.2
        · simp only [decide_eq_false_iff_not] at hc; exact hc hh.1
    · simp only [decide_eq_false_iff_not] at hge
      rw [List.drop_eq_nil_of_le (by simp; omega)] at i3
      rw [ed]; exact congrArg (min (g + d)) i3
theorem late_pos {t : OTr} {len p : Int} (h : ROk len t) (hp : 1 ≤ p) {k0 : Nat} (hU : ∀ x ∈ t.holds, x.u ≤ t.start + k0) : ∀ j : Nat, min ((j : Int) * p) len ≤ posR t len p (k0 + j)
  | 0 => by have := (posR_le h.l1 h.ho hp k0).1; simp only [Nat.add_zero]; omega
  | j + 1 => by
    have h1 := late_pos h hp hU j
    show _ ≤ posR t len p (k0 + j + 1)
    simp only [posR, nextR]
    rw [stopR_late fun x hx => by have := hU x hx; omega]
    have h3 : ((j + 1 : Nat) : Int) * p = j * p + p := by push_cast; rw [Int.add_mul, Int.one_mul]
    rw [h3]; omega
theorem hit_le {t : OTr} {len p : Int} (h : ROk len t) (hp : t.lo ≤ p) {k0 j : Nat} (hU : ∀ x ∈ t.holds, x.u ≤ t.start + k0) (hj : len ≤ (j : Int) * p) : hitR t len p ≤ k0 + j := by
  obtain ⟨e1, e2, _⟩ := hitR_ok h hp
  have hp1 : 1 ≤ p := by have := h.p1; omega
  have h1 := late_pos h hp1 hU j
  have h2 := (posR_le h.l1 h.ho hp1 (k0 + j)).2
  refine Classical.byContradiction fun hn => e2 (k0 + j) (by omega) (by omega)
theorem made_hit {c : Convoy} {t : Truck} {n : Int} (h : ROk c.Length (oT t)) (hm : TMade c.Length n t) (l2 : c.Length ≤ 400) (b : Bool) {p : Int} (hp : t.Pace.Lo ≤ p) : t.Start + (hitR (oT (frN t b)) c.Length p : Int) ≤ 300 := by
  have hr : ROk c.Length (oT (frN t b)) := by rw [oT_frN]; exact h.free b
  have s1 := hm.s1
  have s2 := hm.s2
  have p1 := hm.p1
  have e1 : (oT (frN t b)).start = t.Start := frN_start t b
  have e2 : (oT (frN t b)).lo = t.Pace.Lo := by show (frN t b).Pace.Lo = _; rw [frN_pace]
  have hU : ∀ x ∈ (oT (frN t b)).holds, x.u ≤ (oT (frN t b)).start + ((149 - t.Start).toNat : Int) := fun x hx => by
    rw [e1]
    cases b with
    | true => simp [frN, oT] at hx
    | false => have := hm.h x hx; omega
  have := hit_le (p := p) (j := 80) hr (by rw [e2]; exact hp) hU (by omega)
  omega
theorem by_sp {c : Convoy} {t : Truck} (h : ROk c.Length (oT t)) {p last : Int} (p1 : t.Pace.Lo ≤ p) (p2 : p ≤ t.Pace.Hi) (hl : t.Start + (hitR (oT t) c.Length p : Int) < last) (hl2 : last ≤ 100000) : by_ c t p last = some (t.Start + (hitR (oT t) c.Length p : Int)) := by
  rw [by__eq]; apply ok_eq
  obtain ⟨e1, e2, e3⟩ := hitR_ok h (pace := p) p1
  have q1 : 1 ≤ t.Pace.Lo := h.p1
  have q3 : t.Pace.Hi ≤ 1000 := h.p3
  have s1 : 0 ≤ t.Start := h.s1
  have l2 := h.l2
  refine Ok.rounds (fun v => ∃ k : Nat, k ≤ hitR (oT t) c.Length p ∧ v.1.2.2.2.1 = t.Start + (k : Int) ∧ v.1.2.2.1 = posR (oT t) c.Length p k) (fun v => (last - v.1.2.2.2.1).toNat) ?_ ?_ ?_
  · show (last - t.Start).toNat < 18446744073709551616
    omega
  · exact ⟨0, Nat.zero_le _, by simp, rfl⟩
  · rintro ⟨⟨_, _, g, m, _⟩, _⟩ kn ⟨k, h1, h2, h3⟩ hk
    simp only at h2 h3 ⊢
    subst h2 h3
    have b := posR_le h.l1 h.ho (pace := p) (by omega) k
    have em : w64 (t.Start + (k : Int) + 1) = t.Start + ((k + 1 : Nat) : Int) := by rw [w64_id (by omega) (by omega)]; push_cast; omega
    refine Ok.yes (decide_eq_true (by omega)) (Ok.ite (fun hc => Ok.some ?_) fun hc => ?_)
    · have hc : posR (oT t) c.Length p k = c.Length := beq_iff_eq.1 hc
      have : ¬ k < hitR (oT t) c.Length p := fun hlt => e2 k hlt hc
      have : k = hitR (oT t) c.Length p := by omega
      rw [this]
    · have hc : posR (oT t) c.Length p k ≠ c.Length := beq_eq_false_iff_ne.1 hc
      have hlt : k < hitR (oT t) c.Length p := by
        refine Classical.byContradiction fun hn => hc ?_
        rw [show k = hitR (oT t) c.Length p by omega]; exact e1
      refine Ok.beq (stopped_sp h (by omega) (by omega) (by omega) (by omega)) (hk _ ⟨k + 1, by omega, em, rfl⟩ (by simp only [em]; omega))
theorem first_ok {l : List Int} {length : Int} (hl : l.length ≤ 1000000) {K : Nat} (hK : K < l.length) (hK2 : l.getD K 0 ≥ length) : Ok (fun f : Int => 0 ≤ f ∧ f ≤ K ∧ l.getD f.toNat 0 ≥ length) (first l length) := by
  rw [first_eq]
  refine Ok.rounds (fun v => 0 ≤ v.1.1 ∧ v.1.1 ≤ K) (fun v => ((l.length : Int) - v.1.1).toNat) ?_ ?_ ?_
  · show ((l.length : Int) - 0).toNat < 18446744073709551616
    omega
  · exact ⟨Int.le_refl _, by show (0 : Int) ≤ K; omega⟩
  · rintro ⟨⟨m, _⟩, _⟩ kn ⟨h1, h2⟩ hk
    simp only at h1 h2 ⊢
    have e : w64 (m + 1) = m + 1 := w64_id (by omega) (by omega)
    refine Ok.yes (decide_eq_true (by omega)) (Ok.chk (ib h1 (by omega)) (Ok.ite (fun hc => Ok.some ⟨h1, h2, of_decide_eq_true hc⟩) fun hc => hk _ ?_ ?_))
    · have hc := of_decide_eq_false hc
      have : m ≠ K := fun e => by
        rw [e, Int.toNat_natCast] at hc; exact hc hK2
      simp only [e]; omega
    · simp only [e]; omega
theorem keep_is {c : Convoy} (h : chkConvoy (oC c) = 0) {i : Nat} (hi : i < c.Trucks.length) : keepF (oC c) i = (c.Trucks.getD i dfltTruck).Start + (hitR (oT (frN (c.Trucks.getD i dfltTruck) false)) c.Length (c.Trucks.getD i dfltTruck).Pace.Hi : Int) := by
  rw [keepF_eq (cr_of h) (by simpa [oC] using hi), oC_getD]; rfl
theorem fail_is {c : Convoy} (h : chkConvoy (oC c) = 0) {i : Nat} (hi : i < c.Trucks.length) : failF (oC c) i = (c.Trucks.getD i dfltTruck).Start + (hitR (oT (frN (c.Trucks.getD i dfltTruck) true)) c.Length (c.Trucks.getD i dfltTruck).Pace.Hi : Int) := by
  rw [failF_eq (cr_of h) (by simpa [oC] using hi), oC_getD]; rfl
theorem end_is (c : Convoy) (i : Nat) : endF (oC c) i = (c.Trucks.getD i dfltTruck).Start + (hitR (oT (frN (c.Trucks.getD i dfltTruck) false)) c.Length (c.Trucks.getD i dfltTruck).Pace.Lo : Int) := by
  rw [endF_eq, oC_getD]; rfl
/-- When a truck has arrived in a course. -/
theorem first_course {c : Convoy} (h : chkConvoy (oC c) = 0) {i : Nat} (hi : i < c.Trucks.length) (b : Bool) {l : List Int} (hc : Course (oT (frN (c.Trucks.getD i dfltTruck) b)) c.Length 1000 l) (hm : TMade c.Length 3 (c.Trucks.getD i dfltTruck)) (l2 : c.Length ≤ 400) :
    Ok (fun f : Int => 0 ≤ f ∧ (b = false → keepF (oC c) i ≤ f) ∧ failF (oC c) i ≤ f ∧ f ≤ endF (oC c) i) (first l c.Length) := by
  obtain ⟨c1, c2, _⟩ := hc
  have hr := rokF h hi b
  have hr0 := rok_ h hi
  have e1 : (oT (frN (c.Trucks.getD i dfltTruck) b)).start = (c.Trucks.getD i dfltTruck).Start := frN_start _ b
  have e2 : (oT (frN (c.Trucks.getD i dfltTruck) b)).lo = (c.Trucks.getD i dfltTruck).Pace.Lo := by show (frN _ b).Pace.Lo = _; rw [frN_pace]
  have e3 : (oT (frN (c.Trucks.getD i dfltTruck) b)).hi = (c.Trucks.getD i dfltTruck).Pace.Hi := by show (frN _ b).Pace.Hi = _; rw [frN_pace]
  have s1 := hr0.s1
  change 0 ≤ (c.Trucks.getD i dfltTruck).Start at s1
  have hK := made_hit hr0 hm l2 b (Int.le_refl _)
  obtain ⟨f1, f2, _⟩ := hitR_ok hr (Int.le_refl (oT (frN (c.Trucks.getD i dfltTruck) b)).lo)
  obtain ⟨g1, g2, _⟩ := hitR_ok hr hr.p2
  rw [e2] at f1
  rw [e3] at g2
  have l1 := hr.l1
  obtain ⟨K, hKe⟩ : ∃ K : Nat, (K : Int) = (c.Trucks.getD i dfltTruck).Start + (hitR (oT (frN (c.Trucks.getD i dfltTruck) b)) c.Length (c.Trucks.getD i dfltTruck).Pace.Lo : Int) := ⟨((c.Trucks.getD i dfltTruck).Start + (hitR (oT (frN (c.Trucks.getD i dfltTruck) b)) c.Length (c.Trucks.getD i dfltTruck).Pace.Lo : Int)).toNat, by omega⟩
  have hge : l.getD K 0 ≥ c.Length := by
    have := (c2 K (by omega)).1
    unfold loI at this
    rw [e1, e2, show ((K : Int) - (c.Trucks.getD i dfltTruck).Start).toNat = hitR (oT (frN (c.Trucks.getD i dfltTruck) b)) c.Length (c.Trucks.getD i dfltTruck).Pace.Lo by omega, f1] at this
    exact this
  refine (first_ok (K := K) (by omega) (by omega) hge).mono fun f ⟨h0, h1, h2⟩ => ?_
  have hlow : (c.Trucks.getD i dfltTruck).Start + (hitR (oT (frN (c.Trucks.getD i dfltTruck) b)) c.Length (c.Trucks.getD i dfltTruck).Pace.Hi : Int) ≤ f := by
    have := (c2 f.toNat (by omega)).2
    have hb := (hiI_bnd (m := (f.toNat : Int)) hr).2
    have hx : hiI (oT (frN (c.Trucks.getD i dfltTruck) b)) c.Length (f.toNat : Int) = c.Length := by omega
    unfold hiI at hx
    rw [e1, e3] at hx
    refine Classical.byContradiction fun hn => ?_
    by_cases hz : f < (c.Trucks.getD i dfltTruck).Start
    · rw [show ((f.toNat : Int) - (c.Trucks.getD i dfltTruck).Start).toNat = 0 by omega] at hx
      have : (0 : Int) = c.Length := hx
      omega
    · exact g2 _ (by omega) hx
  have hhi : f ≤ endF (oC c) i := by
    rw [end_is]
    have : hitR (oT (frN (c.Trucks.getD i dfltTruck) b)) c.Length (c.Trucks.getD i dfltTruck).Pace.Lo ≤ hitR (oT (frN (c.Trucks.getD i dfltTruck) false)) c.Length (c.Trucks.getD i dfltTruck).Pace.Lo := by
      cases b with
      | false => exact Nat.le_refl _
      | true => rw [oT_frN]; exact hit_free hr0 (Int.le_refl _)
    omega
  have hk := keep_is h hi
  have hf := fail_is h hi
  have hfk := fail_keep (cr_of h) (i := i) (by simpa [oC] using hi)
  cases b with
  | false => exact ⟨h0, fun _ => by omega, by omega, hhi⟩
  | true =>
    refine ⟨h0, fun hh => ?_, by omega, hhi⟩
    cases hh

def bitB (S i : Nat) : Bool := decide (S / 2 ^ i % 2 = 1)
theorem bit_is : ∀ S : Fin 16, ∀ i : Fin 4, (andI .i64 (shrI .i64 ((S.val : Nat) : Int) ((i.val : Nat) : Int)) 1 == 1) = bitB S.val i.val := by decide +kernel
theorem shl_is : ∀ n : Fin 5, shlI .i64 1 ((n.val : Nat) : Int) = ((2 ^ n.val : Nat) : Int) := by decide +kernel
theorem bits_ex : ∀ n : Fin 5, ∀ b0 b1 b2 b3 : Bool, ∃ S : Fin 16, S.val < 2 ^ n.val ∧ (0 < n.val → bitB S.val 0 = b0) ∧ (1 < n.val → bitB S.val 1 = b1) ∧ (2 < n.val → bitB S.val 2 = b2) ∧ (3 < n.val → bitB S.val 3 = b3) := by decide +kernel
theorem bits_of {n : Nat} (hn : n ≤ 4) (p : Nat → Bool) : ∃ S, S < 2 ^ n ∧ S < 16 ∧ ∀ i, i < n → bitB S i = p i := by
  obtain ⟨S, h0, h1, h2, h3, h4⟩ := bits_ex ⟨n, by omega⟩ (p 0) (p 1) (p 2) (p 3)
  refine ⟨S.val, h0, S.isLt, fun i hi => ?_⟩
  obtain rfl | rfl | rfl | rfl : i = 0 ∨ i = 1 ∨ i = 2 ∨ i = 3 := by omega
  · exact h1 hi
  · exact h2 hi
  · exact h3 hi
  · exact h4 hi
theorem maxUp_le {f : Nat → Int} {M : Int} : ∀ {n}, maxUp f n ≤ M ↔ 0 ≤ M ∧ ∀ i, i < n → f i ≤ M
  | 0 => ⟨fun h => ⟨h, fun i hi => absurd hi (Nat.not_lt_zero _)⟩, fun h => h.1⟩
  | n + 1 => by
    have ih := maxUp_le (f := f) (M := M) (n := n)
    have e : maxUp f (n + 1) = max (maxUp f n) (f n) := rfl
    rw [e]
    constructor
    · intro h
      obtain ⟨a, b⟩ := ih.1 (by omega)
      refine ⟨a, fun i hi => ?_⟩
      by_cases e : i = n
      · subst e; omega
      · exact b i (by omega)
    · rintro ⟨a, b⟩
      have := ih.2 ⟨a, fun i hi => b i (by omega)⟩
      have := b n (by omega)
      omega
/-- The least end over the first sets. -/
def fastF (E N : Nat → Int) (fails : Int) : Nat → Int
  | 0 => 1000
  | S + 1 => if N S ≤ fails then min (fastF E N fails S) (E S) else fastF E N fails S
theorem fastF_le {E N : Nat → Int} {fails M : Int} : ∀ {K}, fastF E N fails K ≤ M ↔ 1000 ≤ M ∨ ∃ S, S < K ∧ N S ≤ fails ∧ E S ≤ M
  | 0 => ⟨fun h => .inl h, fun h => h.elim id fun ⟨S, h, _⟩ => absurd h (Nat.not_lt_zero _)⟩
  | K + 1 => by
    have ih := fastF_le (E := E) (N := N) (fails := fails) (M := M) (K := K)
    simp only [fastF]
    constructor
    · intro h
      by_cases hN : N K ≤ fails
      · rw [if_pos hN] at h
        by_cases hE : E K ≤ M
        · exact .inr ⟨K, by omega, hN, hE⟩
        · rcases ih.1 (by omega) with h | ⟨S, a, b⟩
          · exact .inl h
          · exact .inr ⟨S, by omega, b⟩
      · rw [if_neg hN] at h
        rcases ih.1 h with h | ⟨S, a, b⟩
        · exact .inl h
        · exact .inr ⟨S, by omega, b⟩
    · intro h
      by_cases hlast : N K ≤ fails ∧ E K ≤ M
      · rw [if_pos hlast.1]; omega
      · have : fastF E N fails K ≤ M := ih.2 (by
          rcases h with h | ⟨S, a, b, d⟩
          · exact .inl h
          · by_cases e : S = K
            · subst e; exact absurd ⟨b, d⟩ hlast
            · exact .inr ⟨S, by omega, b, d⟩)
        split <;> omega
theorem cntF_cnt (f : Nat → Bool) : ∀ n, cntF f n = cnt f n
  | 0 => rfl
  | n + 1 => by
    cases h : f n with
    | true => rw [cnt_t h, ← cntF_cnt f n]; simp only [cntF, h]; rfl
    | false => rw [cnt_f h, ← cntF_cnt f n]; simp only [cntF, h]; show _ + 0 = _; omega
/-- The minute in which the last is off, if just those of a set fail. -/
def setE (c : Convoy) (S i : Nat) : Int := if bitB S i then failF (oC c) i else keepF (oC c) i
theorem cnt_nn (p : Nat → Bool) : ∀ n, 0 ≤ cnt p n
  | 0 => Int.le_refl _
  | n + 1 => by
    have := cnt_nn p n
    cases h : p n with
    | true => rw [cnt_t h]; omega
    | false => rw [cnt_f h]; omega
theorem fast_is {c : Convoy} (h : chkConvoy (oC c) = 0) (hn : c.Trucks.length ≤ 4) (hoff : offPLo (oC c) ≤ 1000) : fastF (fun S => maxUp (setE c S) c.Trucks.length) (fun S => cnt (bitB S) c.Trucks.length) c.Fails (2 ^ c.Trucks.length) = offPLo (oC c) := by
  have hR := cr_of h
  have hlen : (oC c).trucks.length = c.Trucks.length := by simp [oC]
  have hf : (oC c).fails = c.Fails := rfl
  have hO := (offP_iff hR (offPLo (oC c))).1 (Int.le_refl _)
  rw [hlen, hf] at hO
  refine Int.le_antisymm ?_ ?_
  · rw [fastF_le]
    right
    obtain ⟨h0, h1⟩ := hO
    obtain ⟨m1, m2⟩ := mayF_iff.1 h1
    obtain ⟨S, s1, s2, s3⟩ := bits_of hn (fun i => decide (keepF (oC c) i > offPLo (oC c)))
    refine ⟨S, s1, ?_, maxUp_le.2 ⟨h0, fun i hi => ?_⟩⟩
    · exact Int.le_trans (cnt_le fun i hi hb => by rw [s3 i hi] at hb; exact hb) m2
    · unfold setE
      rw [s3 i hi]
      by_cases hk : keepF (oC c) i > offPLo (oC c)
      · simp only [hk, decide_true, if_true]
        exact (m1 i hi).resolve_left (by omega)
      · simp only [hk, decide_false, Bool.false_eq_true, if_false]
        omega
  · have hle := (fastF_le (E := fun S => maxUp (setE c S) c.Trucks.length) (N := fun S => cnt (bitB S) c.Trucks.length) (fails := c.Fails) (M := fastF (fun S => maxUp (setE c S) c.Trucks.length) (fun S => cnt (bitB S) c.Trucks.length) c.Fails (2 ^ c.Trucks.length)) (K := 2 ^ c.Trucks.length)).1 (Int.le_refl _)
    rcases hle with h1 | ⟨S, s1, s2, s3⟩
    · omega
    · obtain ⟨h0, h1⟩ := maxUp_le.1 s3
      refine (offP_iff hR _).2 ⟨h0, ?_⟩
      rw [hlen, hf, mayF_iff]
      refine ⟨fun i hi => ?_, Int.le_trans (cnt_le fun i hi hb => ?_) s2⟩
      · have := h1 i hi
        unfold setE at this
        split at this
        · exact .inr this
        · exact .inl this
      · have h5 := h1 i hi
        have h6 : keepF (oC c) i > fastF (fun S => maxUp (setE c S) c.Trucks.length) (fun S => cnt (bitB S) c.Trucks.length) c.Fails (2 ^ c.Trucks.length) := of_decide_eq_true hb
        cases hb2 : bitB S i with
        | true => rfl
        | false =>
          have h7 : setE c S i = keepF (oC c) i := by unfold setE; rw [hb2]; rfl
          omega
theorem ConvoyEnds_true {nums : List Int} (hn : nums.length ≤ 9223372036854775807) : ConvoyEnds nums = some true := by
  rw [ConvoyEnds_eq]; apply ok_eq
  refine Ok.bind (NewSeed_ok hn) fun r _ => ?_
  refine Ok.bind (ConvoyOf_made _ (by omega) (by omega)) fun r2 h2 => ?_
  have hv := made_valid h2 (by omega)
  have hR := cr_of hv
  have hlen : (oC r2.2).trucks.length = r2.2.Trucks.length := by simp [oC]
  have hl2 := h2.l2
  have hn4 := h2.n
  have hf0 := h2.f1
  refine Ok.bind (P := fun x => x = (nS (offP (oC r2.2)), 0)) (by rw [pOff_eq, if_pos hv, hv]; exact Ok.some rfl) fun r3 h3 => ?_
  have hmade : ∀ i, i < r2.2.Trucks.length → TMade r2.2.Length 3 (r2.2.Trucks.getD i dfltTruck) := fun i hi => h2.t _ (getD_mem hi)
  have hbnd : ∀ i, i < r2.2.Trucks.length → endF (oC r2.2) i ≤ 300 := fun i hi => by
    rw [end_is]; exact made_hit (rok_ hv hi) (hmade i hi) hl2 false (Int.le_refl _)
  have hhi : maxUp (endF (oC r2.2)) r2.2.Trucks.length ≤ 300 := maxUp_le.2 ⟨by omega, hbnd⟩
  have hO := (offP_iff hR (offPLo (oC r2.2))).1 (Int.le_refl _)
  have hoffle : offPLo (oC r2.2) ≤ 300 := (offP_iff hR 300).2 ⟨by omega, mayF_iff.2 ⟨fun i hi => .inl (by
      rw [hlen] at hi
      have := keep_is hv hi
      have := made_hit (p := (r2.2.Trucks.getD i dfltTruck).Pace.Hi) (rok_ hv hi) (hmade i hi) hl2 false (rok_ hv hi).p2
      omega), by
      have : cnt (fun i => decide (keepF (oC r2.2) i > 300)) (oC r2.2).trucks.length ≤ cnt (fun _ => false) (oC r2.2).trucks.length := cnt_le fun i hi hb => by
        rw [hlen] at hi
        have h1 := keep_is hv hi
        have h2 := made_hit (p := (r2.2.Trucks.getD i dfltTruck).Pace.Hi) (rok_ hv hi) (hmade i hi) hl2 false (rok_ hv hi).p2
        simp only [decide_eq_true_eq] at hb
        omega
      rw [Go.Proofs.YtafnhieaeejlcaaDoor.cnt_none (fun _ => rfl)] at this
      exact Int.le_trans this hf0⟩⟩
  have hpmade : ∀ i, i < r2.2.Trucks.length → ∀ b, (r2.2.Trucks.getD i dfltTruck).Start + (hitR (oT (frN (r2.2.Trucks.getD i dfltTruck) b)) r2.2.Length (r2.2.Trucks.getD i dfltTruck).Pace.Hi : Int) ≤ 300 := fun i hi b => made_hit (rok_ hv hi) (hmade i hi) hl2 b (rok_ hv hi).p2
  have heq : nS (offP (oC r2.2)) = ⟨offPLo (oC r2.2), maxUp (endF (oC r2.2)) r2.2.Trucks.length⟩ := by unfold offP nS; rw [hlen]
  rw [heq] at h3
  subst h3
  refine Ok.no rfl (Ok.no (decide_eq_false (by simp only; omega)) (Ok.no (decide_eq_false (by simp only; omega)) ?_))
  refine Ok.bind (drive_ok _ hv (last := 1000) (by omega) (by omega)) fun r4 h4 => ?_
  obtain ⟨d1, d2, d3, d4⟩ := h4
  refine Ok.rounds (fun v => 0 ≤ v.1.2.2.2.2.1 ∧ v.1.2.2.2.2.1 ≤ r2.2.Trucks.length ∧ v.1.2.2.2.1 = maxUp (endF (oC r2.2)) v.1.2.2.2.2.1.toNat ∧ 0 ≤ v.1.2.2.1 ∧ v.1.2.2.1 ≤ v.1.2.2.2.1 ∧
      ∀ j, j < v.1.2.2.2.2.1.toNat → (r4.2.2.getD j false = false → keepF (oC r2.2) j ≤ v.1.2.2.1) ∧ failF (oC r2.2) j ≤ v.1.2.2.1) (fun v => ((r2.2.Trucks.length : Int) - v.1.2.2.2.2.1).toNat) ?_ ?_ ?_
  · show ((r2.2.Trucks.length : Int) - 0).toNat < 18446744073709551616
    omega
  · exact ⟨Int.le_refl _, by show (0 : Int) ≤ _; omega, rfl, Int.le_refl _, Int.le_refl _, fun j hj => absurd hj (Nat.not_lt_zero _)⟩
  rintro ⟨⟨_, _, when, slow, i, _⟩, _⟩ kn1 ⟨i1, i2, i3, i4, i5, i6⟩ hk1
  simp only at i1 i2 i3 i4 i5 i6 ⊢
  have e1 : w64 (i + 1) = i + 1 := w64_id (by omega) (by omega)
  refine Ok.ite (fun hlt => ?_) fun hge => ?_
  · simp only [decide_eq_true_eq] at hlt
    obtain ⟨i, rfl⟩ : ∃ n : Nat, i = n := ⟨i.toNat, by omega⟩
    simp only [Int.toNat_natCast] at *
    have hi : i < r2.2.Trucks.length := by omega
    refine Ok.chk (ib (by omega) (by omega)) (Ok.chk (ib (by omega) (by omega)) ?_)
    refine Ok.bind (first_course hv hi _ (d4 i hi) (hmade i hi) hl2) fun f ⟨f0, f1, f2, f3⟩ => ?_
    have hby := by_sp (t := r2.2.Trucks.getD i dfltTruck) (p := (r2.2.Trucks.getD i dfltTruck).Pace.Lo) (last := 1000) (rok_ hv hi) (Int.le_refl _) (rok_ hv hi).p2 (by have := hbnd i hi; rw [end_is] at this; exact Int.lt_of_le_of_lt this (by omega)) (by omega)
    have hend : (r2.2.Trucks.getD i dfltTruck).Start + (hitR (oT (r2.2.Trucks.getD i dfltTruck)) r2.2.Length (r2.2.Trucks.getD i dfltTruck).Pace.Lo : Int) = endF (oC r2.2) i := by rw [end_is]; rfl
    rw [hend] at hby
    refine Ok.beq hby (hk1 _ ?_ (by simp only [e1]; omega))
    simp only [e1]
    have e3 : ((i : Int) + 1).toNat = i + 1 := by omega
    rw [e3]
    refine ⟨by omega, by omega, ?_, by omega, ?_, fun j hj => ?_⟩
    · rw [i3]; rfl
    · omega
    · by_cases ej : j = i
      · subst ej
        exact ⟨fun hb => by have := f1 hb; omega, by omega⟩
      · obtain ⟨a, b⟩ := i6 j (by omega)
        exact ⟨fun hb => by have := a hb; omega, by omega⟩
  · simp only [decide_eq_false_iff_not] at hge
    rw [show i.toNat = r2.2.Trucks.length by omega] at i3 i6
    have hwhen : offPLo (oC r2.2) ≤ when := (offP_iff hR when).2 ⟨i4, mayF_iff.2 ⟨fun j hj => .inr (i6 j (by omega)).2, by
      rw [hlen]
      refine Int.le_trans (cnt_le (q := fun j => r4.2.2.getD j false) fun j hj hb => ?_) (by rw [← cntF_cnt]; exact d3)
      simp only [decide_eq_true_eq] at hb
      cases hfj : r4.2.2.getD j false with
      | true => rfl
      | false => have := (i6 j hj).1 hfj; omega⟩⟩
    have hfast := fast_is hv (by omega) (show offPLo (oC r2.2) ≤ 1000 by omega)
    have hshl : shlI .i64 1 (r2.2.Trucks.length : Int) = ((2 ^ r2.2.Trucks.length : Nat) : Int) := shl_is ⟨r2.2.Trucks.length, by omega⟩
    have hpow : 2 ^ r2.2.Trucks.length ≤ 16 := by
      have : 2 ^ r2.2.Trucks.length ≤ 2 ^ 4 := Nat.pow_le_pow_right (by omega) (by omega)
      omega
    refine Ok.rounds (fun v => ∃ S : Nat, S ≤ 2 ^ r2.2.Trucks.length ∧ v.1.2.2.2.1 = (S : Int) ∧ v.1.2.2.1 = fastF (fun S => maxUp (setE r2.2 S) r2.2.Trucks.length) (fun S => cnt (bitB S) r2.2.Trucks.length) r2.2.Fails S) (fun v => (16 - v.1.2.2.2.1).toNat) ?_ ?_ ?_
    · show (16 - (0 : Int)).toNat < 18446744073709551616
      omega
    · exact ⟨0, Nat.zero_le _, rfl, rfl⟩
    rintro ⟨⟨_, _, fast, set, _⟩, _⟩ kn2 ⟨S, s1, s2, s3⟩ hk2
    simp only at s2 s3 ⊢
    subst s2 s3
    have eS : w64 ((S : Int) + 1) = ((S + 1 : Nat) : Int) := by rw [w64_id (by omega) (by omega)]; push_cast; rfl
    refine Ok.chk (decide_eq_true (by omega)) ?_
    rw [hshl]
    refine Ok.ite (fun hlt => ?_) fun hge2 => ?_
    · have hS : S < 2 ^ r2.2.Trucks.length := by have := of_decide_eq_true hlt; omega
      refine Ok.rounds (fun v => ∃ k : Nat, k ≤ r2.2.Trucks.length ∧ v.1.2.2.2.2.1 = (k : Int) ∧ v.1.2.2.1 = cnt (bitB S) k ∧ v.1.2.2.2.1 = maxUp (setE r2.2 S) k) (fun v => ((r2.2.Trucks.length : Int) - v.1.2.2.2.2.1).toNat) ?_ ?_ ?_
      · show ((r2.2.Trucks.length : Int) - 0).toNat < 18446744073709551616
        omega
      · exact ⟨0, Nat.zero_le _, rfl, rfl, rfl⟩
      rintro ⟨⟨_, _, n, end_, i2, _⟩, _⟩ kn3 ⟨k, k1, k2, k3, k4⟩ hk3
      simp only at k2 k3 k4 ⊢
      subst k2 k3 k4
      have ek : w64 ((k : Int) + 1) = ((k + 1 : Nat) : Int) := by rw [w64_id (by omega) (by omega)]; push_cast; rfl
      refine Ok.ite (fun hlt3 => ?_) fun hge3 => ?_
      · have hk' : k < r2.2.Trucks.length := by have := of_decide_eq_true hlt3; omega
        have hbit : (andI .i64 (shrI .i64 (S : Int) (k : Int)) 1 == 1) = bitB S k := bit_is ⟨S, by omega⟩ ⟨k, by omega⟩
        have hcn := Go.Proofs.YtafnhieaeejlcaaDoor.cnt_max (bitB S) k
        have hcn0 := cnt_nn (bitB S) k
        have ec : w64 (cnt (bitB S) k + 1) = cnt (bitB S) k + 1 := w64_id (by omega) (by omega)
        refine Ok.chk (ib (by omega) (by omega)) (Ok.chk (decide_eq_true (by omega)) ?_)
        rw [hbit]
        simp only [Int.toNat_natCast]
        have hr := rok_ hv hk'
        cases hb : bitB S k with
        | true =>
          refine Ok.yes rfl ?_
          have hby := by_sp (t := frN (r2.2.Trucks.getD k dfltTruck) true) (p := (r2.2.Trucks.getD k dfltTruck).Pace.Hi) (last := 1000) (rokF hv hk' true) (rokF hv hk' true).p2 (Int.le_refl _) (Int.lt_of_le_of_lt (hpmade k hk' true) (by omega)) (by omega)
          have hend : (frN (r2.2.Trucks.getD k dfltTruck) true).Start + (hitR (oT (frN (r2.2.Trucks.getD k dfltTruck) true)) r2.2.Length (r2.2.Trucks.getD k dfltTruck).Pace.Hi : Int) = failF (oC r2.2) k := by rw [fail_is hv hk']; rfl
          rw [hend] at hby
          refine Ok.beq hby (hk3 _ ⟨k + 1, by omega, ek, ?_, ?_⟩ (by simp only [ek]; omega))
          · show w64 (cnt (bitB S) k + 1) = _; rw [ec, cnt_t hb]
          · show max (maxUp (setE r2.2 S) k) (failF (oC r2.2) k) = max (maxUp (setE r2.2 S) k) (setE r2.2 S k)
            unfold setE; rw [hb, if_pos rfl]
        | false =>
          refine Ok.no rfl ?_
          have hby := by_sp (t := r2.2.Trucks.getD k dfltTruck) (p := (r2.2.Trucks.getD k dfltTruck).Pace.Hi) (last := 1000) hr hr.p2 (Int.le_refl _) (Int.lt_of_le_of_lt (hpmade k hk' false) (by omega)) (by omega)
          have hend : (r2.2.Trucks.getD k dfltTruck).Start + (hitR (oT (r2.2.Trucks.getD k dfltTruck)) r2.2.Length (r2.2.Trucks.getD k dfltTruck).Pace.Hi : Int) = keepF (oC r2.2) k := by rw [keep_is hv hk']; rfl
          rw [hend] at hby
          refine Ok.beq hby (hk3 _ ⟨k + 1, by omega, ek, ?_, ?_⟩ (by simp only [ek]; omega))
          · rw [cnt_f hb]
          · show max (maxUp (setE r2.2 S) k) (keepF (oC r2.2) k) = max (maxUp (setE r2.2 S) k) (setE r2.2 S k)
            unfold setE; rw [hb, if_neg (by decide)]
      · have hk' : k = r2.2.Trucks.length := by have := of_decide_eq_false hge3; omega
        subst hk'
        refine Ok.ite (fun hN => hk2 _ ⟨S + 1, by omega, eS, ?_⟩ (by simp only [eS]; omega)) fun hN => hk2 _ ⟨S + 1, by omega, eS, ?_⟩ (by simp only [eS]; omega)
        · simp only [fastF]; rw [if_pos (of_decide_eq_true hN)]
        · simp only [fastF]; rw [if_neg (of_decide_eq_false hN)]
    · have hS : S = 2 ^ r2.2.Trucks.length := by have := of_decide_eq_false hge2; omega
      subst hS
      refine Ok.beq (Has_sp _ _) (Ok.yes (decide_eq_true ⟨hwhen, by rw [← i3]; exact i5⟩) (Ok.beq (a := ⟨fastF (fun S => maxUp (setE r2.2 S) r2.2.Trucks.length) (fun S => cnt (bitB S) r2.2.Trucks.length) r2.2.Fails (2 ^ r2.2.Trucks.length), slow⟩) (by rw [span_eq]; rfl) (Ok.yes ?_ ?_)))
      · rw [spanE]
        rw [hfast, i3]; exact decide_eq_true rfl
      · rw [awake_eq]; exact Ok.bind (Ok.some (P := fun b => b = true) rfl) fun b hb => Ok.some hb
end Go.Proofs.Plain04


/- How the arguments of a law are read as plain data of Lean, what the table of the four cases holds, and what a law that writes nothing older than itself leaves: its arguments read as they did. -/
namespace Go.Proofs.YtafnhieaeejlcaaDoor
open Go Go.Ab Go.ChangeShapes Go.WideShapes Go.ChangeAt Go.RowKit
set_option maxRecDepth 100000

/-- All that a world's memory holds. -/
def allK (w : World) : Nat → Nat → Option Value := fun b o => w.cell? ⟨b, o, none⟩
theorem allK_fits (w : World) : Fits (allK w) w := fun _ _ _ h => h

theorem cells3 : Tryd.prog.cellsOf 3 = 1 := by kernel_rfl
theorem cells102 : Tryd.prog.cellsOf 102 = 2 := by kernel_rfl
theorem cells103 : Tryd.prog.cellsOf 103 = 8 := by kernel_rfl

section
variable {H : Type} {enc : TypeId × Value → H} {W : World}

/-- Whatever reads as the type, stands for a datum of Lean. -/
def Rd {α : Type} (enc : TypeId × Value → H) (W : World) (t : TypeId) (ec : α → List D) : Prop :=
  ∀ n cs x, DataW.trod enc Tryd.prog W 0 (fun _ => true) true n t cs = some x → ∃ a : α, RepL (allK W) γ0 sv0 (ec a) cs

theorem fld {fs : Array Field} {xs : List (DataW H × List MemPlace)} {cs : List Value} {n : Nat}
    (hf : ∀ (i : Nat) (f : Field), fs[i]? = some f → DataW.trod enc Tryd.prog W 0 (fun _ => true) true n f.type ((cs.drop f.offset).take (Tryd.prog.cellsOf f.type)) = xs[i]?)
    (hl : xs.length = fs.size) (i : Nat) (f : Field) (hi : fs[i]? = some f) : ∃ y, DataW.trod enc Tryd.prog W 0 (fun _ => true) true n f.type ((cs.drop f.offset).take (Tryd.prog.cellsOf f.type)) = some y := by
  have h1 := (Array.getElem?_eq_some_iff.1 hi).1
  rw [← hl] at h1
  exact ⟨xs[i], by rw [hf i f hi]; exact List.getElem?_eq_getElem h1⟩

theorem rd_int : Rd enc W 3 encI := by
  intro n cs x h
  obtain ⟨a, rfl, _⟩ := DataW.trod_int Tryd.underlying3 h
  exact ⟨a, .cons _ _ _ _ (.int _ _) .nil⟩

theorem rd_slice {α : Type} [Inhabited α] {t e z : Nat} {ec : α → List D} (ht : Tryd.prog.underlying t = some (.slice e)) (hz : Tryd.prog.cellsOf e = z) (hz0 : 0 < z) (hl : ∀ a, (ec a).length = z)
    (hc : ∀ a, allCell (ec a) = true) (hr : Rd enc W e ec) : Rd enc W t (fun l : List α => [slOf z ec l]) := by
  intro n cs x h
  rcases Deep.open_slice ht h with ⟨rfl, rfl⟩ | ⟨a, len, cap, m, n', D, Pl, rfl, _, hlc, _, hm, rfl, hx⟩
  · exact ⟨[], .cons _ _ _ _ (.sl0 _ _) .nil⟩
  · simp only [if_true] at hm
    subst hm
    rw [hz] at hx
    rcases Nat.eq_zero_or_pos len with rfl | hpos
    · exact ⟨[], .cons _ _ _ _ (.slE _ _ _ _) .nil⟩
    · have hx' : ∀ i, i < len → ∃ p : α × List Value, W.cells? 0 (a.add (i * z)) z = some p.2 ∧ RepL (allK W) γ0 sv0 (ec p.1) p.2 := fun i hi => by
        obtain ⟨cs', h1, h2⟩ := hx i (by omega)
        obtain ⟨b, hb⟩ := hr _ _ _ h2
        exact ⟨(b, cs'), h1, hb⟩
      obtain ⟨F, hF⟩ := Deep.choose_lt hx'
      have hsp : a.spot = none := by
        obtain ⟨_, h1, h2⟩ := World.cells?_some (hF 0 hpos).1
        have h3 := h2 0 hz0
        rw [List.getElem?_eq_getElem (by omega)] at h3
        simpa [Addr.add] using World.cell?_spot h3
      obtain ⟨b, off, sp⟩ := a
      simp only at hsp
      subst hsp
      refine ⟨(List.range len).map (fun i => (F i).1), .cons _ _ _ _ ?_ .nil⟩
      have hlen : ((List.range len).map (fun i => (F i).1)).length = len := by simp
      have hg : ∀ i, i < len → ((List.range len).map (fun i => (F i).1)).getD i default = (F i).1 := fun i hi => by simp [List.getD, hi]
      unfold slOf
      rw [hlen]
      refine .sl z len _ b off m (fun i => (F i).2) hlc (fun i _ => hl _) (fun i _ => hc _) (fun i hi => by rw [hg i hi]; exact (hF i hi).2) (fun i j v hi hj => ?_)
      obtain ⟨_, h1, h2⟩ := World.cells?_some (hF i hi).1
      have hjl := (List.getElem?_eq_some_iff.1 hj).1
      have h3 := h2 j (by omega)
      rw [add_plain, add_plain, hj] at h3
      exact h3

/-- An argument that is a list of numbers. -/
theorem arg_ints {v : Value} {d : DataW H} {ps : List MemPlace} {base : Nat} (hv : Value.okWide Tryd.prog W .any base 31 v) (h : DataW.Trod enc Tryd.prog W 0 (fun _ => true) true 31 v d ps) :
    ∃ l : List Int, Rep (allK W) γ0 sv0 (slOf 1 encI l) v := by
  obtain ⟨n, hn⟩ := h
  obtain ⟨l, hl⟩ := rd_slice (ec := encI) Tryd.underlying31 cells3 (by decide) (fun _ => rfl) (fun _ => rfl) rd_int _ _ _ hn
  obtain ⟨a0, len, cap, rfl⟩ := okWide_slice Tryd.underlying31 hv
  cases hl with
  | cons _ _ _ _ k _ => exact ⟨l, k⟩
end

/-- What the row's list gives: the cells of the table. -/
theorem glob_of {W : World} (h : laidMetH Tryd.prog [("sastrugi/convoy.cases", Rows.laid_sastrugi_convoy_cases)] W) : GlobOk seat (allK W) := by
  have h' : laidMet Tryd.prog [("sastrugi/convoy.cases", Rows.laid_sastrugi_convoy_cases)] W := h
  obtain ⟨ps, ⟨g, t, cs, fuel, p, q, hg, ht, hvar, hd, _, _⟩, _⟩ := h'
  have hg0 : Tryd.prog.globalNamed "sastrugi/convoy.cases" = some 0 := by kernel_rfl
  have ht0 : (Tryd.prog.globals[0]?).map (·.type) = some 103 := by kernel_rfl
  obtain rfl := Option.some.inj (hg0.symm.trans hg)
  obtain rfl := Option.some.inj (ht0.symm.trans ht)
  obtain ⟨xs, m, rfl, hx, hlen, hxl, he⟩ := DataW.trod_array Tryd.underlying103 hd
  have hx1 := congrArg Prod.fst hx
  simp only [Rows.laid_sastrugi_convoy_cases, DataW.agg.injEq] at hx1
  rw [cells103] at hlen
  rw [cells102] at he
  have row : ∀ i a b, i < 4 → (xs.map (·.1))[i]? = some (.agg [.lit (.int .i64 a), .lit (.int .i64 b)]) → (cs.toList.drop (i * 2)).take 2 = [Value.int .i64 a, Value.int .i64 b] := fun i a b hi hi2 => by
    rw [List.getElem?_map] at hi2
    obtain ⟨y, hy, hy2⟩ := Option.map_eq_some_iff.1 hi2
    have h1 := he i hi
    rw [hy] at h1
    obtain ⟨d, p'⟩ := y
    simp only at hy2
    subst hy2
    exact Lib.cells_of_tab (zs := [a, b]) Tryd.underlying102 Tryd.underlying3 cells3 cells102 h1
  rw [← hx1] at row
  have r0 := row 0 0 0 (by decide) rfl
  have r1 := row 1 1 0 (by decide) rfl
  have r2 := row 2 0 1 (by decide) rfl
  have r3 := row 3 1 1 (by decide) rfl
  have hcell : ∀ j, W.cell? ⟨0, j, none⟩ = cs.toList[j]? := fun j => by rw [World.var?_cell hg hvar j]; simp
  generalize cs.toList = l at hlen r0 r1 r2 r3 hcell
  rcases l with _ | ⟨c0, _ | ⟨c1, _ | ⟨c2, _ | ⟨c3, _ | ⟨c4, _ | ⟨c5, _ | ⟨c6, _ | ⟨c7, _ | ⟨c8, l⟩⟩⟩⟩⟩⟩⟩⟩⟩ <;> simp at hlen
  simp at r0 r1 r2 r3
  obtain ⟨rfl, rfl⟩ := r0
  obtain ⟨rfl, rfl⟩ := r1
  obtain ⟨rfl, rfl⟩ := r2
  obtain ⟨rfl, rfl⟩ := r3
  intro g l hl
  show _
  have hl' : globs g = some l := hl
  unfold globs at hl'
  split at hl'
  · simp only [Option.some.injEq] at hl'
    subst hl'
    refine ⟨rfl, _, ?_, fun j v hj => by rw [show allK W 0 j = _ from hcell j]; exact hj⟩
    exact .cons _ _ _ _ (.int _ _) (.cons _ _ _ _ (.int _ _) (.cons _ _ _ _ (.int _ _) (.cons _ _ _ _ (.int _ _) (.cons _ _ _ _ (.int _ _) (.cons _ _ _ _ (.int _ _) (.cons _ _ _ _ (.int _ _) (.cons _ _ _ _ (.int _ _) .nil)))))))
  · cases hl'

theorem laidOut : laidOutB Tryd.prog = true := by kernel_rfl
theorem own : ownKnob Tryd.prog.godebug = none := by kernel_rfl

theorem trodAll_stays {H : Type} {enc : TypeId × Value → H} {W W' : World} {sp' : Nat → Bool} (hb : Below W.heap.size W W') : ∀ {ts : List TypeId} {vs : List Value} {ds : List (DataW H)} {ps : List MemPlace},
    (∀ t ∈ ts, Tryd.prog.readableRec t = true ∧ t < Tryd.prog.types.size) → DataW.TrodAll enc Tryd.prog W 0 (fun _ => true) true ts vs ds ps → (∀ p ∈ ps, p.block < W.heap.size) → (∀ p ∈ ps, sp' p.block = true) →
    DataW.TrodAll enc Tryd.prog W' 0 sp' true ts vs ds ps
  | [], [], [], _, _, h, _, _ => h
  | _ :: _, _ :: _, _ :: _, _, hT, ⟨p, q, h1, h2, e⟩, hlt, hs => ⟨p, q,
      WideElems.Trod_stays laidOut (hT _ (List.mem_cons_self ..)).1 (hT _ (List.mem_cons_self ..)).2 h1 (fun x hx => hb.same (hlt x (by rw [e]; exact List.mem_append_left _ hx))) (fun x hx => hs x (by rw [e]; exact List.mem_append_left _ hx)),
      trodAll_stays hb (fun t ht => hT t (List.mem_cons_of_mem _ ht)) h2 (fun x hx => hlt x (by rw [e]; exact List.mem_append_right _ hx)) (fun x hx => hs x (by rw [e]; exact List.mem_append_right _ hx)), e⟩

/-- A law that says yes and writes nothing older than itself. -/
theorem post_yes {H : Type} {enc : TypeId × Value → H} {f : Func} {s : ChangeSpec} {W W' : World} {args : Array Value} {ds gs : List (DataW H)} {before : List MemPlace}
    (hW : DataW.Whole enc Tryd.prog f.params.toList s.vars false W args.toList ds gs before) (hv : s.vars = []) (hb : Below W.heap.size W W')
    (hT : ∀ t ∈ f.params.toList, Tryd.prog.readableRec t = true ∧ t < Tryd.prog.types.size) (hrt : f.resultTypes = #[4])
    (hr : (s.fn H (ds ++ gs)).results = [.lit (.bool true)]) (ha : (s.fn H (ds ++ gs)).args = ds) (hvs : (s.fn H (ds ++ gs)).vars = []) :
    s.post enc Tryd.prog f false true false false W args (.bool true) W' := by
  have hlt := hW.lt
  have hW2 := hW
  obtain ⟨p, q, hA, hV, rfl, _, _⟩ := hW
  rw [hv] at hV
  obtain ⟨rfl, rfl⟩ := trodVars_none hV
  refine ⟨ds, [], p ++ [], [], p, [], hW2, ?_, ?_, ?_, hb.frame _, fun h => by cases h⟩
  · rw [hr, hrt]
    exact trodAll_mk1 (shut_bool Tryd.underlying4 _)
  · rw [ha]
    exact trodAll_stays hb hT hA (fun x hx => hlt x (by simpa using hx)) (fun x hx => by simpa using hlt x (by simpa using hx))
  · rw [hvs, hv]; rfl

/-- A world for the witness: the settled one, the table holding what its initialiser lays. -/
noncomputable def laidWorld (os : Os) : World :=
  { World.holding Tryd.prog os ⟨#[], #[], []⟩ with heap := (World.holding Tryd.prog os ⟨#[], #[], []⟩).heap.modify 0 fun
      | .cells _ t frozen => .cells #[.int .i64 0, .int .i64 0, .int .i64 1, .int .i64 0, .int .i64 0, .int .i64 1, .int .i64 1, .int .i64 1] t frozen
      | o => o }
end Go.Proofs.YtafnhieaeejlcaaDoor


/- Further readers of arguments; convoys of the two kinds of typed data. -/
namespace Go.Proofs.YtafnhieaeejlcaaDoor
open Go Go.Ab Go.ChangeShapes Go.WideShapes Go.ChangeAt Go.RowKit
set_option linter.all false
set_option maxRecDepth 100000
theorem ints_len {κ : Nat → Nat → Option Value} {γ : Nat → Nat} {sv : Nat → Value} {W : World} {base : Nat} {v : Value} {l : List Int} (hv : Value.okWide Tryd.prog W .any base 31 v) (h : Rep κ γ sv (slOf 1 encI l) v) : l.length ≤ 9223372036854775807 := by
  unfold slOf at h
  generalize hn : l.length = n at h
  cases h with
  | sl0 => omega
  | slE => omega
  | sl _ _ _ b off cap u hc =>
    simp only [Value.okWide, Cell.okWide, Cell.ok, Tryd.underlying31] at hv
    have h1 := hv.2.1
    have h2 : IntKind.i64.max = 9223372036854775807 := by decide
    rw [h2] at h1
    omega
section
variable {H : Type} {enc : TypeId × Value → H} {W : World}
end
end Go.Proofs.YtafnhieaeejlcaaDoor

