/- Walks by computing: what each function of the program that the laws reach gives for what it gets, as plain Lean, and that it is so; without a condition but those that stand in each theorem. -/
import Derived.Test.YtoklcjdahicjmaaW1
import Derived.Test.YtoklcjdahicjmaaW2
import Derived.Test.YtoklcjdahicjmaaW3
import Derived.Test.YtoklcjdahicjmaaW4
import Derived.Test.YtoklcjdahicjmaaW5
import Derived.Test.YtoklcjdahicjmaaW6
import Derived.Test.YtoklcjdahicjmaaW7
set_option linter.all false
/- The rescue: no choice of posts saves more than what is found. -/
namespace Go.Proofs.Rescue07
open Go Go.Ab Go.Ways
set_option linter.all false
/-- Each call gets a post that it may have, none twice, or none. -/
def VA (may : List (List Int)) (l : List Int) : Prop := ∀ i, i < l.length → l.getD i 0 ∈ may.getD i [] ∧ (l.getD i 0 ≠ -1 → l.getD i 0 ∉ l.take i)
theorem VA.nil (may : List (List Int)) : VA may [] := fun i hi => by simp at hi
theorem getD_app_l {l m : List Int} {i : Nat} (h : i < l.length) : (l ++ m).getD i 0 = l.getD i 0 := by
  rw [List.getD_eq_getElem?_getD, List.getElem?_append_left h, ← List.getD_eq_getElem?_getD]
theorem getD_app_r {l m : List Int} {i : Nat} (h : l.length ≤ i) : (l ++ m).getD i 0 = m.getD (i - l.length) 0 := by
  rw [List.getD_eq_getElem?_getD, List.getElem?_append_right h, ← List.getD_eq_getElem?_getD]
theorem VA.snoc {may : List (List Int)} {l : List Int} {k : Int} (h : VA may l) (h1 : k ∈ may.getD l.length []) (h2 : k ≠ -1 → k ∉ l) : VA may (l ++ [k]) := fun i hi => by
  by_cases hl : i < l.length
  · rw [getD_app_l hl, List.take_append_of_le_length (by omega)]; exact h i hl
  · have : i = l.length := by simp at hi; omega
    subst this
    rw [getD_app_r (Nat.le_refl _), List.take_left' rfl]; simp only [Nat.sub_self, List.getD_cons_zero]
    exact ⟨h1, h2⟩
theorem VA.last {may : List (List Int)} {l m : List Int} {k : Int} (h : VA may (l ++ k :: m)) : k ∈ may.getD l.length [] ∧ (k ≠ -1 → k ∉ l) := by
  have := h l.length (by simp)
  rw [getD_app_r (Nat.le_refl _), List.take_left' rfl] at this
  simpa using this
end Go.Proofs.Rescue07


/- RescueCalls as a plain law. -/
namespace Go.Proofs.Rescue07
open Go Go.Ab Go.Ways
set_option linter.all false
theorem lives_ok {r : Rescue} (hv : RV r) : pLives r = some (r.Water.map (livesS r), 0) := by
  rw [pLives_sp hv.few, eR_zero.2 hv]; rfl
theorem getD_set {l : List Int} {i j : Nat} {x : Int} (hi : i < l.length) : (l.set i x).getD j 0 = if j = i then x else l.getD j 0 := by
  rw [List.getD_eq_getElem?_getD, List.getElem?_set]
  by_cases h : i = j
  · subst h; simp [hi]
  · have : ¬ j = i := fun e => h e.symm
    simp [h, this, List.getD_eq_getElem?_getD]
theorem VA.set {may : List (List Int)} {l : List Int} {i : Nat} {x : Int} (h : VA may l) (hi : i < l.length) (hx : x ∈ may.getD i []) (hn : x ∉ l) : VA may (l.set i x) := fun j hj => by
  have hj' : j < l.length := by simpa using hj
  rw [getD_set hi]
  have hm : ∀ y, y ∈ (l.set i x).take j → y = x ∨ y ∈ l.take j := fun y hy => by
    rw [List.take_set] at hy
    rcases List.mem_or_eq_of_mem_set hy with h | h
    · exact .inr h
    · exact .inl h
  by_cases hji : j = i
  · subst hji
    rw [if_pos rfl]
    refine ⟨hx, fun _ hy => ?_⟩
    have hy2 : x ∈ l.take j := by
      rw [List.take_set_of_le (by omega)] at hy
      exact hy
    exact hn (List.mem_of_mem_take hy2)
  · rw [if_neg hji]
    obtain ⟨h1, h2⟩ := h j hj'
    refine ⟨h1, fun h3 hy => ?_⟩
    rcases hm _ hy with e | hy
    · exact hn (by rw [← e]; exact getD_mem hj')
    · exact h2 h3 hy
end Go.Proofs.Rescue07


/- RescueSends as a plain law. -/
namespace Go.Proofs.Rescue07
open Go Go.Ab Go.Ways
set_option linter.all false
end Go.Proofs.Rescue07


/- The rescue: gaps, by both. -/
namespace Go.Proofs.Rescue07
open Go Go.Ab Go.Ways
set_option linter.all false
def stepG (c : Bool) (out : List Span) (m : Int) : List Span := bif c then out else bif decide (0 < out.length) && ((out.getD (out.length - 1) dfltSpan).Hi == m - 1) then out.set (out.length - 1) ⟨(out.getD (out.length - 1) dfltSpan).Lo, m⟩ else out ++ [⟨m, m⟩]
end Go.Proofs.Rescue07


/- RescueGaps and RescueDay as plain laws. -/
namespace Go.Proofs.Rescue07
open Go Go.Ab Go.Ways
set_option linter.all false
/- RescueDay. -/
def cov (x : Span) (m : Int) : Bool := decide (x.Lo ≤ m) && decide (m ≤ x.Hi)
structure GapsIn (C : Nat → Bool) (n : Nat) (l : List Span) : Prop where
  inn : ∀ i, i < l.length → 0 ≤ (l.getD i dfltSpan).Lo ∧ (l.getD i dfltSpan).Lo ≤ (l.getD i dfltSpan).Hi ∧ (l.getD i dfltSpan).Hi < n
  far : ∀ i, 0 < i → i < l.length → (l.getD (i - 1) dfltSpan).Hi + 1 < (l.getD i dfltSpan).Lo
  all : ∀ m : Nat, m < n → l.any (fun x => cov x m) = !(C m)
theorem cover_ok {r : Rescue} (hv : RV r) {m : Int} (hm : 0 ≤ m ∧ m ≤ 1439) : pCover r m = some ((List.range r.Spots.toNat).map (coverS r m), 0) := by
  rw [pCover_sp hv.few]
  unfold askS
  rw [eR_zero.2 hv, inR_iff.2 hm]; rfl
theorem reach_ok {r : Rescue} (hv : RV r) {m : Int} (hm : 0 ≤ m ∧ m ≤ 1439) : pReach r m = some ((List.range r.Spots.toNat).map (reachS r m), 0) := by
  rw [pReach_sp hv.few]
  unfold askS
  rw [eR_zero.2 hv, inR_iff.2 hm]; rfl
def Mins (l : List Int) : Prop := ∀ m ∈ l, 0 ≤ m ∧ m ≤ 1439
theorem Mins.app {a b : List Int} (ha : Mins a) (hb : Mins b) : Mins (a ++ b) := fun m hm => by
  rcases List.mem_append.1 hm with h | h
  · exact ha m h
  · exact hb m h
end Go.Proofs.Rescue07

