/- Walks through the functions that the laws of the convoys reach: what each of them gives for what it gets (contracts), written out by a program of ours; without a condition but those that stand in each theorem. -/
import Derived.Test.YtafnhieaeejlcaaDoorCt5
set_option linter.all false
namespace Go.Proofs.YtafnhieaeejlcaaDoor
open Go Go.Ab
set_option maxRecDepth 100000
set_option maxHeartbeats 4000000
attribute [local irreducible] W WL QOp NOp thenQ blockQ FinQ FinR WG FQ Want FinW WI WIL thenI blockI
theorem chkHolds_ok {way len : Int} : ∀ {hs : List Hold} {p : Option Int}, chkHolds way len p hs = 0 → ∀ k, k < hs.length → 1 ≤ (hs.getD k default).a ∧ (hs.getD k default).a ≤ len - 1 ∧ 0 ≤ (hs.getD k default).u ∧ (hs.getD k default).u ≤ 10000
  | [], _, _, k, hk => by simp at hk
  | h :: hs, p, h0, k, hk => by
    rw [chkHolds_cons] at h0
    split at h0
    · cases h0
    · rename_i hb
      have hrest : ∃ p', chkHolds way len p' hs = 0 := by
        split at h0
        · split at h0
          · cases h0
          · exact ⟨_, h0⟩
        · exact ⟨_, h0⟩
      obtain ⟨p', hp'⟩ := hrest
      match k with
      | 0 => simp only [List.getD_cons_zero]; omega
      | k + 1 => simp only [List.getD_cons_succ]; exact chkHolds_ok hp' k (by simpa using hk)
theorem tok_of {c : Convoy} {t : Truck} (h1 : 1 ≤ c.len) (h2 : c.len ≤ 100000) (h : chkTruck c t = 0) : TOk c t := by
  unfold chkTruck at h
  split at h; · cases h
  split at h; · cases h
  split at h; · cases h
  split at h; · cases h
  split at h; · cases h
  split at h; · cases h
  exact ⟨h1, h2, by omega, by omega, by omega, by omega, by omega, by omega, by omega, chkHolds_ok h⟩
structure COk (c : Convoy) : Prop where
  l1 : 1 ≤ c.len
  l2 : c.len ≤ 100000
  g1 : 1 ≤ c.gap
  g2 : c.gap ≤ 100000
  f1 : 0 ≤ c.fails
  f2 : c.fails ≤ 20
  n : c.trucks.length ≤ 20
  t : ∀ k, k < c.trucks.length → TOk c (c.trucks.getD k default)
theorem chkTrucks_ok {c : Convoy} : ∀ {ts : List Truck}, chkTrucks c ts = 0 → ∀ t ∈ ts, chkTruck c t = 0
  | [], _, t, ht => by cases ht
  | x :: ts, h, t, ht => by
    unfold chkTrucks at h
    split at h
    · rename_i hn; exact absurd h hn
    · rename_i hn
      rcases List.mem_cons.1 ht with rfl | ht
      · exact Classical.not_not.1 hn
      · exact chkTrucks_ok h t ht
theorem cok_of {c : Convoy} (h : chkConvoy c = 0) : COk c := by
  unfold chkConvoy at h
  split at h; · cases h
  split at h; · cases h
  refine ⟨by omega, by omega, by omega, by omega, by omega, by omega, by omega, fun k hk => tok_of (by omega) (by omega) (chkTrucks_ok h _ ?_)⟩
  simp [List.getD, hk]
theorem TOk.free {c : Convoy} {t : Truck} (h : TOk c t) (b : Bool) : TOk c (freeT t b) := by
  cases b
  · exact h
  · exact ⟨h.l1, h.l2, h.s1, h.s2, h.p1, h.p2, h.p3, h.d1, Nat.zero_le _, fun k hk => by cases hk⟩

def keepF (c : Convoy) (k : Nat) : Int := (arrS c (c.trucks.getD k default)).lo
def failF (c : Convoy) (k : Nat) : Int := (arrS c (freeT (c.trucks.getD k default) true)).lo
def endF (c : Convoy) (k : Nat) : Int := (arrS c (c.trucks.getD k default)).hi
def maxUp (f : Nat → Int) : Nat → Int
  | 0 => 0
  | k + 1 => max (maxUp f k) (f k)
theorem arr_bnd {c : Convoy} {t : Truck} (h : TOk c t) : -1 ≤ (arrS c t).lo ∧ (arrS c t).lo ≤ 21000 ∧ 0 ≤ (arrS c t).hi ∧ (arrS c t).hi ≤ 21000 := by
  obtain ⟨_, _, e3⟩ := hitR_spec h (Int.le_refl t.lo)
  obtain ⟨_, _, f3⟩ := hitR_spec h h.p2
  have := h.s1
  have := h.s2
  simp only [arrS]
  split <;> omega
/-- The least number from 0 on for which all may be off. -/
def offLo (c : Convoy) : Nat → Nat → Nat
  | 0, k => k
  | n + 1, k => if mayF (keepF c) (failF c) c.trucks.length c.fails k then k else offLo c n (k + 1)
def offS (c : Convoy) : Span := ⟨offLo c 21000 0, maxUp (endF c) c.trucks.length⟩
theorem offLo_spec (c : Convoy) {K : Nat} (hK : mayF (keepF c) (failF c) c.trucks.length c.fails K = true) : ∀ n k, k ≤ K → K ≤ k + n →
    (∀ j, k ≤ j → j < offLo c n k → mayF (keepF c) (failF c) c.trucks.length c.fails j = false) ∧ mayF (keepF c) (failF c) c.trucks.length c.fails (offLo c n k) = true ∧ offLo c n k ≤ K := by
  intro n
  induction n with
  | zero =>
    intro k h1 h2
    have : k = K := by omega
    subst this
    exact ⟨fun j a b => by simp only [offLo] at b; omega, hK, Nat.le_refl _⟩
  | succ n ih =>
    intro k h1 h2
    by_cases e : mayF (keepF c) (failF c) c.trucks.length c.fails k = true
    · simp only [offLo, if_pos e]
      exact ⟨fun j a b => by omega, e, h1⟩
    · simp only [offLo, if_neg e]
      have hne : k ≠ K := by intro h; subst h; exact e hK
      obtain ⟨a, b, d⟩ := ih (k + 1) (by omega) (by omega)
      refine ⟨fun j hj hj2 => ?_, b, d⟩
      by_cases ej : j = k
      · subst ej; simpa using e
      · exact a j (by omega) hj2
end Go.Proofs.YtafnhieaeejlcaaDoor

