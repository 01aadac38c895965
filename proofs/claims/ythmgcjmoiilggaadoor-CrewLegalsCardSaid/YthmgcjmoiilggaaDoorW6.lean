/- Walks by computing: what each function of the program that the laws reach gives for what it gets, as plain Lean, and that it is so; without a condition but those that stand in each theorem. -/
import Derived.Test.YthmgcjmoiilggaaDoorCards
import Derived.Test.YthmgcjmoiilggaaDoorTie
import Derived.WalkKit
import Derived.ProofKit
import Derived.OpenShut
import Derived.Deep.Slices
import Derived.Deep.DeepHandedRow
import Derived.Lib.LaidTab
import Derived.Test.YthmgcjmoiilggaaDoorW1
import Derived.Test.YthmgcjmoiilggaaDoorW2
import Derived.Test.YthmgcjmoiilggaaDoorW3
import Derived.Test.YthmgcjmoiilggaaDoorW4
import Derived.Test.YthmgcjmoiilggaaDoorW5
set_option linter.all false
/- Plain reasoning: equations, rounds that tell a result that hangs on where they stand, lists. -/
namespace Go.Proofs.Crew
open Go Go.Ab
set_option linter.all false
theorem ok_eq {α : Type} {x : Option α} {a : α} (h : Ok (fun b => b = a) x) : x = some a := by obtain ⟨b, h1, rfl⟩ := h; exact h1
theorem Ok.beq {α β : Type} {Q : β → Prop} {x : Option α} {a : α} {f : α → Option β} (hx : x = some a) (hf : Ok Q (f a)) : Ok Q (x.bind f) := by subst hx; exact hf
/-- Rounds whose result hangs on where they stand. -/
theorem Ok.roundsD {α γ : Type} {F : γ → (γ → Option α) → Option α} {v0 : γ} (inv : γ → Prop) (μ : γ → Nat) (P : γ → α → Prop) (hμ : μ v0 < FUEL) (h0 : inv v0)
    (step : ∀ v kn, inv v → (∀ v', inv v' → μ v' < μ v → Ok (P v') (kn v')) → Ok (P v) (F v kn)) : Ok (P v0) (itN γ F v0) := by
  have key : ∀ n v, inv v → μ v < n → Ok (P v) (iter F n v) := by
    intro n
    induction n with
    | zero => intro v _ h; omega
    | succ n ih =>
      intro v hv hn
      exact step v (iter F n) hv fun v' hv' hlt => ih v' hv' (by omega)
  exact key FUEL v0 h0 hμ
theorem Ok.yes {α : Type} {b : Bool} {x y : Option α} {P : α → Prop} (h : b = true) (hx : Ok P x) : Ok P (bif b then x else y) := by subst h; exact hx
theorem Ok.no {α : Type} {b : Bool} {x y : Option α} {P : α → Prop} (h : b = false) (hx : Ok P y) : Ok P (bif b then x else y) := by subst h; exact hx
theorem ib {i : Int} {n : Nat} (h1 : 0 ≤ i) (h2 : i < n) : (decide (0 ≤ i) && decide (i < (n : Int))) = true := by simp; omega
theorem drop_get {α : Type} {l : List α} {d : α} {i : Nat} (h : i < l.length) : l.drop i = l.getD i d :: l.drop (i + 1) := by
  rw [List.drop_eq_getElem_cons h]
  simp [List.getD_eq_getElem?_getD, h]
theorem getD_mem {α : Type} {l : List α} {d : α} {i : Nat} (h : i < l.length) : l.getD i d ∈ l := by
  rw [List.getD_eq_getElem?_getD, List.getElem?_eq_getElem h]
  exact List.getElem_mem h
theorem toNat_succ {i : Int} (h : 0 ≤ i) : (i + 1).toNat = i.toNat + 1 := by omega
theorem fitA_ok {n b : Nat} (hn : n ≤ 1000000) (hb : b ≤ 1000000) : fitA n b = true := by
  unfold fitA
  have : n * b ≤ 1000000 * 1000000 := Nat.mul_le_mul hn hb
  simp; omega
end Go.Proofs.Crew


/- The crew: what minutes and broken compute. -/
namespace Go.Proofs.Crew
open Go Go.Ab
set_option linter.all false
/-- Whether somebody drives in a minute, by turns that go from .. to. -/
def drv (ts : List (Int × Int)) (m : Int) : Bool := ts.any fun t => decide (t.1 ≤ m) && decide (m < t.2)
def turnsL (l : List Turn) : List (Int × Int) := l.map fun t => (t.From.Lo, t.To.Hi)
def turnsS (l : List Turn) : List (Int × Int) := l.map fun t => (t.From.Hi, t.To.Lo)
def itemsOf (D : Int → Bool) (a n : Nat) : List (Int × Bool × Unit) := (List.range' a n).map fun (m : Nat) => ((m : Int), D (m : Int), ())
theorem items_succ (D : Int → Bool) (a n : Nat) : itemsOf D a (n + 1) = ((a : Int), D a, ()) :: itemsOf D (a + 1) n := by simp [itemsOf, List.range'_succ]
theorem drv_take (ts : List (Int × Int)) (m : Int) (i : Nat) (h : i < ts.length) : drv (ts.take (i + 1)) m = (drv (ts.take i) m || (decide ((ts.getD i (0, 0)).1 ≤ m) && decide (m < (ts.getD i (0, 0)).2))) := by
  unfold drv
  rw [List.take_succ, List.any_append, List.getD_eq_getElem?_getD, List.getElem?_eq_getElem h]
  simp

theorem longest_sp (s : Shift) (t : Turn) : longest s t = some (t.From.Lo, t.To.Hi) := by rw [longest_eq]; rfl
theorem minutesL_sp (a b : Shift) (hn : a.Driver.Turns.length ≤ 1000) : minutesL a b = some (itemsOf (drv (turnsL a.Driver.Turns)) 0 3000) := by
  apply ok_eq
  rw [minutesL_eq]
  unfold minutesL'
  refine (Ok.roundsD (P := fun (v : (Unit × Int × Unit) × Unit) r => r = itemsOf (drv (turnsL a.Driver.Turns)) v.1.2.1.toNat (3000 - v.1.2.1.toNat)) (fun (v : (Unit × Int × Unit) × Unit) => 0 ≤ v.1.2.1 ∧ v.1.2.1 ≤ 3000) (fun (v : (Unit × Int × Unit) × Unit) => (3000 - v.1.2.1).toNat) (by show (3000 - (0:Int)).toNat < FUEL; unfold FUEL; decide) ⟨by decide, by decide⟩ ?_)
  rintro ⟨⟨u1, x, u2⟩, u3⟩ kn ⟨h0, h1⟩ hk
  simp only at h0 h1 ⊢
  unfold minutesL_L1
  refine Ok.ite (fun hc => ?_) (fun hc => ?_)
  · have hx := of_decide_eq_true hc
    refine Ok.rounds (fun v => 0 ≤ v.1.2.2.1 ∧ v.1.2.2.1 ≤ a.Driver.Turns.length ∧ v.1.2.1 = drv ((turnsL a.Driver.Turns).take v.1.2.2.1.toNat) x) (fun v => (a.Driver.Turns.length - v.1.2.2.1).toNat) ?_ ⟨by decide, by simp, by simp [drv]⟩ ?_
    · simp only; unfold FUEL; omega
    rintro ⟨⟨v1, d, i, v2⟩, v3⟩ kn2 ⟨i0, i1, i2⟩ hk2
    simp only at i0 i1 i2 hk2 ⊢
    unfold minutesL_L5
    refine Ok.ite (fun hc => ?_) (fun hc => ?_)
    · have hi := of_decide_eq_true hc
      refine Ok.chk (ib i0 hi) ?_
      refine Ok.beq (longest_sp _ _) ?_
      have hi' : i.toNat < a.Driver.Turns.length := by omega
      have hl : i.toNat < (turnsL a.Driver.Turns).length := by simp [turnsL]; omega
      have e1 : w64 (i + 1) = i + 1 := w64_id (by omega) (by omega)
      have hg : (turnsL a.Driver.Turns).getD i.toNat (0, 0) = ((a.Driver.Turns.getD i.toNat dfltTurn).From.Lo, (a.Driver.Turns.getD i.toNat dfltTurn).To.Hi) := by
        simp only [turnsL, List.getD_eq_getElem?_getD, List.getElem?_map, List.getElem?_eq_getElem hi']; rfl
      have hd := drv_take (turnsL a.Driver.Turns) x i.toNat hl
      rw [hg, ← i2] at hd
      simp only [e1]
      have hfin : ∀ b : Bool, b = (d || (decide ((a.Driver.Turns.getD i.toNat dfltTurn).From.Lo ≤ x) && decide (x < (a.Driver.Turns.getD i.toNat dfltTurn).To.Hi))) → Ok (fun r => r = itemsOf (drv (turnsL a.Driver.Turns)) x.toNat (3000 - x.toNat)) (kn2 ((v1, b, i + 1, v2), v3)) := fun b hb => by
        refine hk2 ((v1, b, i + 1, v2), v3) ⟨by simp only; omega, by simp only; omega, ?_⟩ (by simp only; omega)
        simp only
        rw [toNat_succ i0, hd, hb]
      refine Ok.ite (fun hd2 => ?_) (fun hd2 => ?_)
      · exact hfin true (by rw [hd2]; rfl)
      · refine Ok.ite (fun h3 => ?_) (fun h3 => ?_)
        · exact hfin _ (by rw [hd2, h3]; simp)
        · exact hfin _ (by rw [hd2, h3]; simp)
    · have hi : i = a.Driver.Turns.length := by have := of_decide_eq_false hc; omega
      subst hi
      have e1 : w64 (x + 1) = x + 1 := w64_id (by omega) (by omega)
      have hd : d = drv (turnsL a.Driver.Turns) x := by
        rw [i2, Int.toNat_natCast, List.take_of_length_le (by simp [turnsL])]
      have hn0 : 3000 - x.toNat = (3000 - (x + 1).toNat) + 1 := by omega
      obtain ⟨l, hl1, hl2⟩ := hk ((u1, x + 1, u2), u3) ⟨by simp only; omega, by simp only; omega⟩ (by simp only; omega)
      simp only at hl2
      refine ⟨(x, d, ()) :: l, ?_, ?_⟩
      · simp only [consM, e1, hl1]
      · rw [hn0, items_succ, hl2, hd, toNat_succ h0, Int.toNat_of_nonneg h0]
  · have hx : x = 3000 := by have := of_decide_eq_false hc; omega
    subst hx
    exact Ok.some rfl

theorem shortest_sp (s : Shift) (t : Turn) : shortest s t = some (t.From.Hi, t.To.Lo) := by rw [shortest_eq]; rfl
theorem minutesS_sp (a b : Shift) (hn : a.Driver.Turns.length ≤ 1000) : minutesS a b = some (itemsOf (drv (turnsS a.Driver.Turns)) 0 3000) := by
  apply ok_eq
  rw [minutesS_eq]
  unfold minutesS'
  refine (Ok.roundsD (P := fun (v : (Unit × Int × Unit) × Unit) r => r = itemsOf (drv (turnsS a.Driver.Turns)) v.1.2.1.toNat (3000 - v.1.2.1.toNat)) (fun (v : (Unit × Int × Unit) × Unit) => 0 ≤ v.1.2.1 ∧ v.1.2.1 ≤ 3000) (fun (v : (Unit × Int × Unit) × Unit) => (3000 - v.1.2.1).toNat) (by show (3000 - (0:Int)).toNat < FUEL; unfold FUEL; decide) ⟨by decide, by decide⟩ ?_)
  rintro ⟨⟨u1, x, u2⟩, u3⟩ kn ⟨h0, h1⟩ hk
  simp only at h0 h1 ⊢
  unfold minutesS_L1
  refine Ok.ite (fun hc => ?_) (fun hc => ?_)
  · have hx := of_decide_eq_true hc
    refine Ok.rounds (fun v => 0 ≤ v.1.2.2.1 ∧ v.1.2.2.1 ≤ a.Driver.Turns.length ∧ v.1.2.1 = drv ((turnsS a.Driver.Turns).take v.1.2.2.1.toNat) x) (fun v => (a.Driver.Turns.length - v.1.2.2.1).toNat) ?_ ⟨by decide, by simp, by simp [drv]⟩ ?_
    · simp only; unfold FUEL; omega
    rintro ⟨⟨v1, d, i, v2⟩, v3⟩ kn2 ⟨i0, i1, i2⟩ hk2
    simp only at i0 i1 i2 hk2 ⊢
    unfold minutesS_L5
    refine Ok.ite (fun hc => ?_) (fun hc => ?_)
    · have hi := of_decide_eq_true hc
      refine Ok.chk (ib i0 hi) ?_
      refine Ok.beq (shortest_sp _ _) ?_
      have hi' : i.toNat < a.Driver.Turns.length := by omega
      have hl : i.toNat < (turnsS a.Driver.Turns).length := by simp [turnsS]; omega
      have e1 : w64 (i + 1) = i + 1 := w64_id (by omega) (by omega)
      have hg : (turnsS a.Driver.Turns).getD i.toNat (0, 0) = ((a.Driver.Turns.getD i.toNat dfltTurn).From.Hi, (a.Driver.Turns.getD i.toNat dfltTurn).To.Lo) := by
        simp only [turnsS, List.getD_eq_getElem?_getD, List.getElem?_map, List.getElem?_eq_getElem hi']; rfl
      have hd := drv_take (turnsS a.Driver.Turns) x i.toNat hl
      rw [hg, ← i2] at hd
      simp only [e1]
      have hfin : ∀ b : Bool, b = (d || (decide ((a.Driver.Turns.getD i.toNat dfltTurn).From.Hi ≤ x) && decide (x < (a.Driver.Turns.getD i.toNat dfltTurn).To.Lo))) → Ok (fun r => r = itemsOf (drv (turnsS a.Driver.Turns)) x.toNat (3000 - x.toNat)) (kn2 ((v1, b, i + 1, v2), v3)) := fun b hb => by
        refine hk2 ((v1, b, i + 1, v2), v3) ⟨by simp only; omega, by simp only; omega, ?_⟩ (by simp only; omega)
        simp only
        rw [toNat_succ i0, hd, hb]
      refine Ok.ite (fun hd2 => ?_) (fun hd2 => ?_)
      · exact hfin true (by rw [hd2]; rfl)
      · refine Ok.ite (fun h3 => ?_) (fun h3 => ?_)
        · exact hfin _ (by rw [hd2, h3]; simp)
        · exact hfin _ (by rw [hd2, h3]; simp)
    · have hi : i = a.Driver.Turns.length := by have := of_decide_eq_false hc; omega
      subst hi
      have e1 : w64 (x + 1) = x + 1 := w64_id (by omega) (by omega)
      have hd : d = drv (turnsS a.Driver.Turns) x := by
        rw [i2, Int.toNat_natCast, List.take_of_length_le (by simp [turnsS])]
      have hn0 : 3000 - x.toNat = (3000 - (x + 1).toNat) + 1 := by omega
      obtain ⟨l, hl1, hl2⟩ := hk ((u1, x + 1, u2), u3) ⟨by simp only; omega, by simp only; omega⟩ (by simp only; omega)
      simp only at hl2
      refine ⟨(x, d, ()) :: l, ?_, ?_⟩
      · simp only [consM, e1, hl1]
      · rw [hn0, items_succ, hl2, hd, toNat_succ h0, Int.toNat_of_nonneg h0]
  · have hx : x = 3000 := by have := of_decide_eq_false hc; omega
    subst hx
    exact Ok.some rfl
end Go.Proofs.Crew


/- The crew: the first minute that breaks a rule. -/
namespace Go.Proofs.Crew
open Go Go.Ab
set_option linter.all false
/-- For how long one drives, and does not, before a minute; a rest makes an end. -/
def stS (R : Int) (D : Int → Bool) : Nat → Int × Int
  | 0 => (0, 0)
  | m + 1 => bif D (m : Int) then ((stS R D m).1 + 1, 0) else (bif decide ((stS R D m).2 + 1 ≥ R) then 0 else (stS R D m).1, (stS R D m).2 + 1)
theorem stS_bnd (R : Int) (D : Int → Bool) : ∀ m : Nat, 0 ≤ (stS R D m).1 ∧ (stS R D m).1 ≤ m ∧ 0 ≤ (stS R D m).2 ∧ (stS R D m).2 ≤ m
  | 0 => by simp [stS]
  | m + 1 => by
    obtain ⟨h1, h2, h3, h4⟩ := stS_bnd R D m
    simp only [stS]
    cases D (m : Int) with
    | true => simp only [cond_true]; omega
    | false => simp only [cond_false]; cases decide ((stS R D m).2 + 1 ≥ R) <;> simp only [cond_true, cond_false] <;> omega
/-- The minutes driven before a minute. -/
def dlist (D : Int → Bool) (m : Nat) : List Int := ((List.range m).filter fun (k : Nat) => D (k : Int)).map fun (k : Nat) => (k : Int)
theorem dlist_succ (D : Int → Bool) (m : Nat) : dlist D (m + 1) = bif D (m : Int) then dlist D m ++ [(m : Int)] else dlist D m := by
  simp only [dlist, List.range_succ, List.filter_append, List.map_append]
  cases h : D (m : Int) <;> simp [h]
theorem dlist_lt (D : Int → Bool) : ∀ (m : Nat) (k : Int), k ∈ dlist D m → 0 ≤ k ∧ k < m := fun m k hk => by
  simp only [dlist, List.mem_map, List.mem_filter, List.mem_range] at hk
  obtain ⟨a, ⟨h1, _⟩, rfl⟩ := hk
  omega
theorem dlist_len (D : Int → Bool) (m : Nat) : (dlist D m).length ≤ m := by
  simp only [dlist, List.length_map]
  exact Nat.le_trans (List.length_filter_le _ _) (by simp)
theorem dlist_srt (D : Int → Bool) : ∀ m : Nat, (dlist D m).Pairwise (· < ·)
  | 0 => .nil
  | m + 1 => by
    rw [dlist_succ]
    cases D (m : Int) with
    | true =>
      simp only [cond_true]
      rw [List.pairwise_append]
      refine ⟨dlist_srt D m, List.pairwise_singleton _ _, fun a ha b hb => ?_⟩
      rw [List.mem_singleton.1 hb]
      exact (dlist_lt D m a ha).2
    | false => exact dlist_srt D m
/-- The later part of a list that rises. -/
def over (l : List Int) (t : Int) : List Int := l.filter fun k => decide (t < k)
theorem over_tail {l : List Int} (hl : l.Pairwise (· < ·)) {t h : Int} {tl : List Int} (he : over l t = h :: tl) : tl = over l h ∧ t < h ∧ h ∈ l := by
  have hm : h ∈ over l t := by rw [he]; exact List.mem_cons_self ..
  simp only [over, List.mem_filter, decide_eq_true_eq] at hm
  have hs : (h :: tl).Pairwise (· < ·) := by rw [← he]; exact hl.filter _
  refine ⟨?_, hm.2, hm.1⟩
  have e1 : over l h = over (over l t) h := by
    simp only [over, List.filter_filter]
    apply List.filter_congr
    intro x _
    have := hm.2
    by_cases h1 : h < x
    · have : t < x := by omega
      simp [h1, this]
    · simp [h1]
  rw [e1, he]
  simp only [over, List.filter_cons, Int.lt_irrefl, decide_false, Bool.false_eq_true, if_false]
  symm
  rw [List.filter_eq_self]
  intro x hx
  simpa using (List.pairwise_cons.1 hs).1 x hx
theorem over_same {l : List Int} (hl : l.Pairwise (· < ·)) {t t' h : Int} {tl : List Int} (he : over l t = h :: tl) (ht : t ≤ t') (hh : t' < h) : over l t = over l t' := by
  have hs : (h :: tl).Pairwise (· < ·) := by rw [← he]; exact hl.filter _
  simp only [over]
  apply List.filter_congr
  intro x hx
  by_cases h1 : t < x
  · have hm : x ∈ over l t := by simp only [over, List.mem_filter, decide_eq_true_eq]; exact ⟨hx, h1⟩
    rw [he] at hm
    have : h ≤ x := by
      rcases List.mem_cons.1 hm with rfl | hm
      · omega
      · have := (List.pairwise_cons.1 hs).1 x hm; omega
    have h2 : t' < x := by omega
    simp [h1, h2]
  · have h2 : ¬ t' < x := by omega
    simp [h1, h2]
def wnd (D : Int → Bool) (Day : Int) (m : Nat) : Nat := (over (dlist D (m + 1)) (m - Day)).length
/-- Which rule a minute breaks. -/
def brkAt (u : Rules) (D : Int → Bool) (m : Nat) : Int := bif D (m : Int) then (bif decide ((stS u.Rest D m).1 + 1 > u.Drive) then 1 else bif decide ((wnd D u.Day m : Int) > u.Most) then 2 else 0) else 0
/-- The first minute, of n from a on, that breaks a rule. -/
def firstB (u : Rules) (D : Int → Bool) : Nat → Nat → Int × Int
  | _, 0 => (0, 0)
  | a, n + 1 => bif brkAt u D a == 0 then firstB u D (a + 1) n else (brkAt u D a, (a : Int))
def RulesIn (u : Rules) : Prop := 1 ≤ u.Drive ∧ u.Drive ≤ 3000 ∧ 1 ≤ u.Rest ∧ u.Rest ≤ 3000 ∧ 1 ≤ u.Day ∧ u.Day ≤ 3000 ∧ 1 ≤ u.Most ∧ u.Most ≤ 3000
abbrev BV := ((Unit × Unit × Unit × Unit × Unit × Unit × Unit) × ((Int × Unit) × (Int × Unit) × (Int × Unit) × (Int × Unit) × ((List Int) × Unit) × Unit)) × List (Int × Bool × Unit)

theorem minL_sp (s t : Shift) : minL s t = some (s, t) := by rw [minL_eq]; rfl
theorem brokenL_sp (s t : Shift) (hn : s.Driver.Turns.length ≤ 1000) (hu : RulesIn s.rules) : brokenL s t = some (firstB s.rules (drv (turnsL s.Driver.Turns)) 0 3000) := by
  apply ok_eq
  rw [brokenL_eq]
  unfold brokenL'
  refine Ok.beq (minL_sp _ _) ?_
  refine Ok.beq (minutesL_sp _ _ hn) ?_
  obtain ⟨D, hD⟩ : ∃ D, drv (turnsL s.Driver.Turns) = D := ⟨_, rfl⟩
  rw [hD]
  obtain ⟨_, _, _, _, hd1, hd2, _, _⟩ := hu
  refine (Ok.roundsD (P := fun (v : BV) r => r = firstB s.rules D (3000 - v.2.length) v.2.length) (fun (v : BV) => ∃ a : Nat, a ≤ 3000 ∧ v.2 = itemsOf D a (3000 - a) ∧ v.1.2.2.2.1.1 = (stS s.rules.Rest D a).1 ∧ v.1.2.2.2.2.1.1 = (stS s.rules.Rest D a).2 ∧ ∃ t : Int, t < a - s.rules.Day ∧ v.1.2.2.2.2.2.1.1 = over (dlist D a) t) (fun (v : BV) => v.2.length) ?_ ?_ ?_).mono ?_
  · simp [itemsOf, FUEL]
  · refine ⟨0, by omega, rfl, rfl, rfl, -3001, by simp; omega, rfl⟩
  · rintro ⟨⟨⟨u1, u2, u3, u4, u5, u6, u7⟩, ⟨ru, ⟨⟩⟩, ⟨mi, ⟨⟩⟩, ⟨si, ⟨⟩⟩, ⟨id, ⟨⟩⟩, ⟨dr, ⟨⟩⟩, ⟨⟩⟩, its⟩ kn ⟨a, ha, h1, h2, h3, t0, h4, h5⟩ hk
    simp only at h1 h2 h3 h5 hk ⊢
    have hl : its.length = 3000 - a := by rw [h1]; simp [itemsOf]
    cases its with
    | nil =>
      simp only [brokenL_E4]
      exact Ok.some rfl
    | cons it0 its =>
      have hl' : its.length + 1 = 3000 - a := hl
      have ha' : a < 3000 := by omega
      obtain ⟨n, hn0⟩ : ∃ n, 3000 - a = n + 1 := ⟨2999 - a, by omega⟩
      rw [hn0, items_succ] at h1
      obtain ⟨rfl, rfl⟩ := List.cons.inj h1
      have hn1 : n = 3000 - (a + 1) := by omega
      simp only
      unfold brokenL_L4
      obtain ⟨b1, b2, b3, b4⟩ := stS_bnd s.rules.Rest D a
      have hlen : (itemsOf D (a + 1) n).length = n := by simp [itemsOf]
      have e0 : 3000 - ((((a : Int), D a, ()) :: itemsOf D (a + 1) n).length) = a := by rw [List.length_cons, hlen]; omega
      have e1 : (((a : Int), D a, ()) :: itemsOf D (a + 1) n).length = n + 1 := by rw [List.length_cons, hlen]
      have hstep : brkAt s.rules D a = 0 → firstB s.rules D a (n + 1) = firstB s.rules D (a + 1) n := fun h => by simp only [firstB, h]; rfl
      have next : ∀ (ru mi si id : Int) (dr : List Int), brkAt s.rules D a = 0 → si = (stS s.rules.Rest D (a + 1)).1 → id = (stS s.rules.Rest D (a + 1)).2 → (∃ t : Int, t < ((a + 1 : Nat) : Int) - s.rules.Day ∧ dr = over (dlist D (a + 1)) t) →
          Ok (fun r => r = firstB s.rules D (3000 - ((((a : Int), D a, ()) :: itemsOf D (a + 1) n).length)) ((((a : Int), D a, ()) :: itemsOf D (a + 1) n).length)) (kn ((((), (), (), (), (), (), ()), ((ru, ()), (mi, ()), (si, ()), (id, ()), (dr, ()), ())), itemsOf D (a + 1) n)) := fun ru mi si id dr hb hs hi ht => by
        obtain ⟨r, hr1, hr2⟩ := hk ((((), (), (), (), (), (), ()), ((ru, ()), (mi, ()), (si, ()), (id, ()), (dr, ()), ())), itemsOf D (a + 1) n) ⟨a + 1, by omega, by rw [hn1], hs, hi, ht⟩ (by rw [e1, hlen]; omega)
        refine ⟨r, hr1, ?_⟩
        simp only [hlen] at hr2
        rw [e0, e1, hstep hb, hr2]
        congr 1; omega
      cases hDa : D (a : Int) with
      | false =>
        have hb0 : brkAt s.rules D a = 0 := by simp [brkAt, hDa]
        have hd0 : dlist D (a + 1) = dlist D a := by rw [dlist_succ, hDa]; rfl
        rw [hDa] at next
        have e2 : w64 (id + 1) = id + 1 := w64_id (by omega) (by omega)
        simp only [Bool.not_false, cond_true, e2]
        have hst : stS s.rules.Rest D (a + 1) = (bif decide (id + 1 ≥ s.rules.Rest) then 0 else si, id + 1) := by simp only [stS, hDa, cond_false, h2, h3]
        refine Ok.ite (fun hc => ?_) (fun hc => ?_)
        · exact next ru mi 0 (id + 1) dr hb0 (by rw [hst, hc]; rfl) (by rw [hst]) ⟨t0, by push_cast; omega, by rw [hd0, h5]⟩
        · exact next ru mi si (id + 1) dr hb0 (by rw [hst, hc]; rfl) (by rw [hst]) ⟨t0, by push_cast; omega, by rw [hd0, h5]⟩
      | true =>
        rw [hDa] at next
        have hd0 : dlist D (a + 1) = dlist D a ++ [(a : Int)] := by rw [dlist_succ, hDa]; rfl
        have hsr := dlist_srt D (a + 1)
        have hov : dr ++ [(a : Int)] = over (dlist D (a + 1)) t0 := by
          have : t0 < (a : Int) := by omega
          rw [hd0, h5]; simp [over, this]
        have hdl : dr.length ≤ 3000 := by
          rw [h5]
          exact Nat.le_trans (List.length_filter_le _ _) (Nat.le_trans (dlist_len D a) ha)
        simp only [Bool.not_true, cond_false]
        refine Ok.chk (fitA_ok (by simp only [List.length_cons, List.length_nil]; omega) (by decide)) ?_
        have e3 : w64 ((a : Int) - s.rules.Day) = (a : Int) - s.rules.Day := w64_id (by omega) (by omega)
        have e4 : w64 (si + 1) = si + 1 := w64_id (by omega) (by omega)
        have hst : stS s.rules.Rest D (a + 1) = (si + 1, 0) := by simp only [stS, hDa, cond_true, h2]
        refine Ok.rounds (fun v => ∃ t : Int, t ≤ (a : Int) - s.rules.Day ∧ v.2.1.1 = over (dlist D (a + 1)) t) (fun v => v.2.1.1.length) ?_ ⟨t0, by omega, hov⟩ ?_
        · simp only [List.length_append, List.length_cons, List.length_nil]; unfold FUEL; omega
        rintro ⟨⟨w1, w2, w3, w4, w5, w6, w7⟩, ⟨d, ⟨⟩⟩, ⟨⟩⟩ kn2 ⟨t, ht, hd⟩ hk2
        simp only at hd hk2 ⊢
        unfold brokenL_L11
        have hma : (a : Int) ∈ d := by
          rw [hd]; simp only [over, List.mem_filter, decide_eq_true_eq]
          exact ⟨by rw [hd0]; simp, by omega⟩
        cases d with
        | nil => cases hma
        | cons h tl =>
          refine Ok.chk (by simp) ?_
          refine Ok.chk (by simp) ?_
          obtain ⟨q1, q2, q3⟩ := over_tail hsr hd.symm
          simp only [List.getD_cons_zero, e3]
          refine Ok.ite (fun hc => ?_) (fun hc => ?_)
          · have hc := of_decide_eq_true hc
            refine Ok.chk (by simp; omega) ?_
            have e5 : subL (h :: tl) 1 ((h :: tl).length : Int) = tl := by simp [subL]
            rw [e5]
            exact hk2 (((), (), (), (), (), (), ()), ((tl, ()), ())) ⟨h, hc, q1⟩ (by simp)
          · have hc := of_decide_eq_false hc
            have hw : (h :: tl) = over (dlist D (a + 1)) ((a : Int) - s.rules.Day) := by rw [hd]; exact over_same hsr hd.symm ht (by omega)
            have hlw : (h :: tl).length = wnd D s.rules.Day a := by rw [hw]; rfl
            rw [e4, hlw]
            have hb : brkAt s.rules D a = bif decide (si + 1 > s.rules.Drive) then 1 else bif decide ((wnd D s.rules.Day a : Int) > s.rules.Most) then 2 else 0 := by simp only [brkAt, hDa, cond_true, h2]
            have hst2 : ∀ k : Int, k ≠ 0 → brkAt s.rules D a = k → firstB s.rules D a (n + 1) = (k, (a : Int)) := fun k h0 hk => by
              have : (k == 0) = false := by simpa using h0
              simp only [firstB, hk, this, cond_false]
            refine Ok.ite (fun hc1 => ?_) (fun hc1 => ?_)
            · refine Ok.some ?_
              rw [hDa] at e0 e1
              rw [e0, e1, hst2 1 (by decide) (by rw [hb, hc1]; rfl)]
            · refine Ok.ite (fun hc2 => ?_) (fun hc2 => ?_)
              · refine Ok.some ?_
                rw [hDa] at e0 e1
                rw [e0, e1, hst2 2 (by decide) (by rw [hb, hc1, hc2]; rfl)]
              · exact next ru mi (si + 1) 0 (h :: tl) (by rw [hb, hc1, hc2]; rfl) (by rw [hst]) (by rw [hst]) ⟨(a : Int) - s.rules.Day, by push_cast; omega, hw⟩
  · intro r hr
    rw [hr]
    simp [itemsOf]

theorem minS_sp (s t : Shift) : minS s t = some (s, t) := by rw [minS_eq]; rfl
theorem brokenS_sp (s t : Shift) (hn : s.Driver.Turns.length ≤ 1000) (hu : RulesIn s.rules) : brokenS s t = some (firstB s.rules (drv (turnsS s.Driver.Turns)) 0 3000) := by
  apply ok_eq
  rw [brokenS_eq]
  unfold brokenS'
  refine Ok.beq (minS_sp _ _) ?_
  refine Ok.beq (minutesS_sp _ _ hn) ?_
  obtain ⟨D, hD⟩ : ∃ D, drv (turnsS s.Driver.Turns) = D := ⟨_, rfl⟩
  rw [hD]
  obtain ⟨_, _, _, _, hd1, hd2, _, _⟩ := hu
  refine (Ok.roundsD (P := fun (v : BV) r => r = firstB s.rules D (3000 - v.2.length) v.2.length) (fun (v : BV) => ∃ a : Nat, a ≤ 3000 ∧ v.2 = itemsOf D a (3000 - a) ∧ v.1.2.2.2.1.1 = (stS s.rules.Rest D a).1 ∧ v.1.2.2.2.2.1.1 = (stS s.rules.Rest D a).2 ∧ ∃ t : Int, t < a - s.rules.Day ∧ v.1.2.2.2.2.2.1.1 = over (dlist D a) t) (fun (v : BV) => v.2.length) ?_ ?_ ?_).mono ?_
  · simp [itemsOf, FUEL]
  · refine ⟨0, by omega, rfl, rfl, rfl, -3001, by simp; omega, rfl⟩
  · rintro ⟨⟨⟨u1, u2, u3, u4, u5, u6, u7⟩, ⟨ru, ⟨⟩⟩, ⟨mi, ⟨⟩⟩, ⟨si, ⟨⟩⟩, ⟨id, ⟨⟩⟩, ⟨dr, ⟨⟩⟩, ⟨⟩⟩, its⟩ kn ⟨a, ha, h1, h2, h3, t0, h4, h5⟩ hk
    simp only at h1 h2 h3 h5 hk ⊢
    have hl : its.length = 3000 - a := by rw [h1]; simp [itemsOf]
    cases its with
    | nil =>
      simp only [brokenS_E4]
      exact Ok.some rfl
    | cons it0 its =>
      have hl' : its.length + 1 = 3000 - a := hl
      have ha' : a < 3000 := by omega
      obtain ⟨n, hn0⟩ : ∃ n, 3000 - a = n + 1 := ⟨2999 - a, by omega⟩
      rw [hn0, items_succ] at h1
      obtain ⟨rfl, rfl⟩ := List.cons.inj h1
      have hn1 : n = 3000 - (a + 1) := by omega
      simp only
      unfold brokenS_L4
      obtain ⟨b1, b2, b3, b4⟩ := stS_bnd s.rules.Rest D a
      have hlen : (itemsOf D (a + 1) n).length = n := by simp [itemsOf]
      have e0 : 3000 - ((((a : Int), D a, ()) :: itemsOf D (a + 1) n).length) = a := by rw [List.length_cons, hlen]; omega
      have e1 : (((a : Int), D a, ()) :: itemsOf D (a + 1) n).length = n + 1 := by rw [List.length_cons, hlen]
      have hstep : brkAt s.rules D a = 0 → firstB s.rules D a (n + 1) = firstB s.rules D (a + 1) n := fun h => by simp only [firstB, h]; rfl
      have next : ∀ (ru mi si id : Int) (dr : List Int), brkAt s.rules D a = 0 → si = (stS s.rules.Rest D (a + 1)).1 → id = (stS s.rules.Rest D (a + 1)).2 → (∃ t : Int, t < ((a + 1 : Nat) : Int) - s.rules.Day ∧ dr = over (dlist D (a + 1)) t) →
          Ok (fun r => r = firstB s.rules D (3000 - ((((a : Int), D a, ()) :: itemsOf D (a + 1) n).length)) ((((a : Int), D a, ()) :: itemsOf D (a + 1) n).length)) (kn ((((), (), (), (), (), (), ()), ((ru, ()), (mi, ()), (si, ()), (id, ()), (dr, ()), ())), itemsOf D (a + 1) n)) := fun ru mi si id dr hb hs hi ht => by
        obtain ⟨r, hr1, hr2⟩ := hk ((((), (), (), (), (), (), ()), ((ru, ()), (mi, ()), (si, ()), (id, ()), (dr, ()), ())), itemsOf D (a + 1) n) ⟨a + 1, by omega, by rw [hn1], hs, hi, ht⟩ (by rw [e1, hlen]; omega)
        refine ⟨r, hr1, ?_⟩
        simp only [hlen] at hr2
        rw [e0, e1, hstep hb, hr2]
        congr 1; omega
      cases hDa : D (a : Int) with
      | false =>
        have hb0 : brkAt s.rules D a = 0 := by simp [brkAt, hDa]
        have hd0 : dlist D (a + 1) = dlist D a := by rw [dlist_succ, hDa]; rfl
        rw [hDa] at next
        have e2 : w64 (id + 1) = id + 1 := w64_id (by omega) (by omega)
        simp only [Bool.not_false, cond_true, e2]
        have hst : stS s.rules.Rest D (a + 1) = (bif decide (id + 1 ≥ s.rules.Rest) then 0 else si, id + 1) := by simp only [stS, hDa, cond_false, h2, h3]
        refine Ok.ite (fun hc => ?_) (fun hc => ?_)
        · exact next ru mi 0 (id + 1) dr hb0 (by rw [hst, hc]; rfl) (by rw [hst]) ⟨t0, by push_cast; omega, by rw [hd0, h5]⟩
        · exact next ru mi si (id + 1) dr hb0 (by rw [hst, hc]; rfl) (by rw [hst]) ⟨t0, by push_cast; omega, by rw [hd0, h5]⟩
      | true =>
        rw [hDa] at next
        have hd0 : dlist D (a + 1) = dlist D a ++ [(a : Int)] := by rw [dlist_succ, hDa]; rfl
        have hsr := dlist_srt D (a + 1)
        have hov : dr ++ [(a : Int)] = over (dlist D (a + 1)) t0 := by
          have : t0 < (a : Int) := by omega
          rw [hd0, h5]; simp [over, this]
        have hdl : dr.length ≤ 3000 := by
          rw [h5]
          exact Nat.le_trans (List.length_filter_le _ _) (Nat.le_trans (dlist_len D a) ha)
        simp only [Bool.not_true, cond_false]
        refine Ok.chk (fitA_ok (by simp only [List.length_cons, List.length_nil]; omega) (by decide)) ?_
        have e3 : w64 ((a : Int) - s.rules.Day) = (a : Int) - s.rules.Day := w64_id (by omega) (by omega)
        have e4 : w64 (si + 1) = si + 1 := w64_id (by omega) (by omega)
        have hst : stS s.rules.Rest D (a + 1) = (si + 1, 0) := by simp only [stS, hDa, cond_true, h2]
        refine Ok.rounds (fun v => ∃ t : Int, t ≤ (a : Int) - s.rules.Day ∧ v.2.1.1 = over (dlist D (a + 1)) t) (fun v => v.2.1.1.length) ?_ ⟨t0, by omega, hov⟩ ?_
        · simp only [List.length_append, List.length_cons, List.length_nil]; unfold FUEL; omega
        rintro ⟨⟨w1, w2, w3, w4, w5, w6, w7⟩, ⟨d, ⟨⟩⟩, ⟨⟩⟩ kn2 ⟨t, ht, hd⟩ hk2
        simp only at hd hk2 ⊢
        unfold brokenS_L11
        have hma : (a : Int) ∈ d := by
          rw [hd]; simp only [over, List.mem_filter, decide_eq_true_eq]
          exact ⟨by rw [hd0]; simp, by omega⟩
        cases d with
        | nil => cases hma
        | cons h tl =>
          refine Ok.chk (by simp) ?_
          refine Ok.chk (by simp) ?_
          obtain ⟨q1, q2, q3⟩ := over_tail hsr hd.symm
          simp only [List.getD_cons_zero, e3]
          refine Ok.ite (fun hc => ?_) (fun hc => ?_)
          · have hc := of_decide_eq_true hc
            refine Ok.chk (by simp; omega) ?_
            have e5 : subL (h :: tl) 1 ((h :: tl).length : Int) = tl := by simp [subL]
            rw [e5]
            exact hk2 (((), (), (), (), (), (), ()), ((tl, ()), ())) ⟨h, hc, q1⟩ (by simp)
          · have hc := of_decide_eq_false hc
            have hw : (h :: tl) = over (dlist D (a + 1)) ((a : Int) - s.rules.Day) := by rw [hd]; exact over_same hsr hd.symm ht (by omega)
            have hlw : (h :: tl).length = wnd D s.rules.Day a := by rw [hw]; rfl
            rw [e4, hlw]
            have hb : brkAt s.rules D a = bif decide (si + 1 > s.rules.Drive) then 1 else bif decide ((wnd D s.rules.Day a : Int) > s.rules.Most) then 2 else 0 := by simp only [brkAt, hDa, cond_true, h2]
            have hst2 : ∀ k : Int, k ≠ 0 → brkAt s.rules D a = k → firstB s.rules D a (n + 1) = (k, (a : Int)) := fun k h0 hk => by
              have : (k == 0) = false := by simpa using h0
              simp only [firstB, hk, this, cond_false]
            refine Ok.ite (fun hc1 => ?_) (fun hc1 => ?_)
            · refine Ok.some ?_
              rw [hDa] at e0 e1
              rw [e0, e1, hst2 1 (by decide) (by rw [hb, hc1]; rfl)]
            · refine Ok.ite (fun hc2 => ?_) (fun hc2 => ?_)
              · refine Ok.some ?_
                rw [hDa] at e0 e1
                rw [e0, e1, hst2 2 (by decide) (by rw [hb, hc1, hc2]; rfl)]
              · exact next ru mi (si + 1) 0 (h :: tl) (by rw [hb, hc1, hc2]; rfl) (by rw [hst]) (by rw [hst]) ⟨(a : Int) - s.rules.Day, by push_cast; omega, hw⟩
  · intro r hr
    rw [hr]
    simp [itemsOf]
end Go.Proofs.Crew


/- The crew: the law's own look at rules, backwards from each minute. -/
namespace Go.Proofs.Crew
open Go Go.Ab
set_option linter.all false
theorem over_snoc (l : List Int) (k t : Int) : over (l ++ [k]) t = over l t ++ (if t < k then [k] else []) := by
  simp only [over, List.filter_append]
  by_cases h : t < k <;> simp [h]
end Go.Proofs.Crew


/- The crew: the law's first broken minute; more minutes driven break no less. -/
namespace Go.Proofs.Crew
open Go Go.Ab
set_option linter.all false
theorem firstB_zero {u : Rules} {D : Int → Bool} : ∀ {n a : Nat}, (∀ m, a ≤ m → m < a + n → brkAt u D m = 0) → firstB u D a n = (0, 0)
  | 0, a, _ => rfl
  | n + 1, a, h => by
    have h0 := h a (Nat.le_refl _) (by omega)
    simp only [firstB, h0]
    exact firstB_zero fun m h1 h2 => h m (by omega) (by omega)
theorem firstB_ne {u : Rules} {D : Int → Bool} : ∀ {n a m : Nat}, a ≤ m → m < a + n → brkAt u D m ≠ 0 → (firstB u D a n).1 ≠ 0
  | 0, a, m, h1, h2, _ => by omega
  | n + 1, a, m, h1, h2, h3 => by
    simp only [firstB]
    cases hb : brkAt u D a == 0 with
    | true =>
      have h0 : brkAt u D a = 0 := by simpa using hb
      simp only [cond_true]
      have : m ≠ a := fun e => h3 (e ▸ h0)
      exact firstB_ne (m := m) (by omega) (by omega) h3
    | false => simpa using hb
theorem firstB_cut {u : Rules} {D : Int → Bool} : ∀ {n a k : Nat}, (∀ m, a + n ≤ m → brkAt u D m = 0) → firstB u D a (n + k) = firstB u D a n
  | 0, a, k, h => by
    rw [firstB_zero fun m h1 h2 => h m (by omega)]; rfl
  | n + 1, a, k, h => by
    rw [show n + 1 + k = (n + k) + 1 by omega]
    simp only [firstB]
    rw [firstB_cut fun m hm => h m (by omega)]
theorem drv_false {ts : List (Int × Int)} {m : Int} (h : ∀ t ∈ ts, t.2 ≤ m) : drv ts m = false := by
  unfold drv
  rw [List.any_eq_false]
  intro t ht
  have := h t ht
  simp; omega
/-- More minutes driven, and a longer rest that is asked. -/
theorem st_mono {R R' : Int} {D D' : Int → Bool} (hR : R' ≤ R) (hD : ∀ m : Nat, D (m : Int) = true → D' (m : Int) = true) : ∀ m : Nat, (stS R' D m).1 ≤ (stS R D' m).1 ∧ (stS R D' m).2 ≤ (stS R' D m).2
  | 0 => by simp [stS]
  | m + 1 => by
    obtain ⟨h1, h2⟩ := st_mono hR hD m
    obtain ⟨b1, _, b3, _⟩ := stS_bnd R' D m
    obtain ⟨c1, _, c3, _⟩ := stS_bnd R D' m
    simp only [stS]
    cases hd : D (m : Int) with
    | true => rw [hD m hd]; simp only [cond_true]; omega
    | false =>
      simp only [cond_false]
      cases hd' : D' (m : Int) with
      | true =>
        simp only [cond_true]
        cases decide ((stS R' D m).2 + 1 ≥ R') <;> simp only [cond_true, cond_false] <;> omega
      | false =>
        simp only [cond_false]
        by_cases hr : (stS R D' m).2 + 1 ≥ R
        · have hr' : (stS R' D m).2 + 1 ≥ R' := by omega
          rw [decide_eq_true hr, decide_eq_true hr']
          simp only [cond_true]; omega
        · rw [decide_eq_false hr]
          cases decide ((stS R' D m).2 + 1 ≥ R') <;> simp only [cond_true, cond_false] <;> omega
theorem filt_mono {α : Type} {p q : α → Bool} : ∀ (l : List α), (∀ x ∈ l, p x = true → q x = true) → (l.filter p).length ≤ (l.filter q).length
  | [], _ => by simp
  | a :: l, h => by
    have ih := filt_mono l fun x hx => h x (List.mem_cons_of_mem _ hx)
    simp only [List.filter_cons]
    cases hp : p a with
    | true =>
      have hq := h a (List.mem_cons_self ..) hp
      simp only [hq, if_true, List.length_cons]; omega
    | false => cases q a <;> simp <;> omega
theorem wnd_mono {D D' : Int → Bool} (hD : ∀ m : Nat, D (m : Int) = true → D' (m : Int) = true) (Day : Int) (m : Nat) : wnd D Day m ≤ wnd D' Day m := by
  simp only [wnd, over, dlist, List.filter_map, List.length_map, List.filter_filter]
  refine filt_mono _ fun x _ h => ?_
  simp only [Function.comp, Bool.and_eq_true] at h ⊢
  exact ⟨h.1, hD x h.2⟩
theorem brk_mono {u u' : Rules} {D D' : Int → Bool} (h1 : u.Drive ≤ u'.Drive) (h2 : u'.Rest ≤ u.Rest) (h3 : u'.Day = u.Day) (h4 : u.Most ≤ u'.Most) (hD : ∀ m : Nat, D (m : Int) = true → D' (m : Int) = true) {m : Nat} (h : brkAt u' D m ≠ 0) : brkAt u D' m ≠ 0 := by
  unfold brkAt at h ⊢
  cases hd : D (m : Int) with
  | false => rw [hd] at h; simp at h
  | true =>
    rw [hd] at h
    rw [hD m hd]
    simp only [cond_true] at h ⊢
    have hm := (st_mono h2 hD m).1
    have hw := wnd_mono hD u.Day m
    rw [h3] at h
    by_cases hr : (stS u.Rest D' m).1 + 1 > u.Drive
    · rw [decide_eq_true hr]; simp
    · rw [decide_eq_false hr]
      have hr' : ¬ (stS u'.Rest D m).1 + 1 > u'.Drive := by omega
      rw [decide_eq_false hr'] at h
      simp only [cond_false] at h ⊢
      by_cases hq : (wnd D' u.Day m : Int) > u.Most
      · rw [decide_eq_true hq]; simp
      · have hq' : ¬ (wnd D u.Day m : Int) > u'.Most := by omega
        rw [decide_eq_false hq'] at h; simp at h
end Go.Proofs.Crew


/- The crew: what is made of numbers is valid. -/
namespace Go.Proofs.Crew
open Go Go.Ab
set_option linter.all false
theorem u64_bnd (n : Int) : 0 ≤ IntKind.u64.wrap n ∧ IntKind.u64.wrap n < 18446744073709551616 := by
  unfold IntKind.wrap
  simp [IntKind.bits, IntKind.signed]
  omega
theorem u64_id {n : Int} (h1 : 0 ≤ n) (h2 : n < 18446744073709551616) : IntKind.u64.wrap n = n := by
  unfold IntKind.wrap
  simp [IntKind.bits, IntKind.signed]
  omega
theorem next_ok (s : Seed) : Ok (fun r => 0 ≤ r.2 ∧ r.2 < 18446744073709551616) (next s) := by
  rw [next_eq]
  exact ⟨_, rfl, u64_bnd _⟩
theorem Below_ok (s : Seed) {n : Int} (hn : n ≤ 1000000000) : Ok (fun r => 0 ≤ r.2 ∧ (r.2 < n ∨ r.2 = 0)) (Below s n) := by
  rw [Below_eq]
  refine Ok.ite (fun h => Ok.some ⟨Int.le_refl _, .inr rfl⟩) fun h => ?_
  have hn2 : ¬ n < 2 := by simpa using h
  refine Ok.bind (next_ok s) fun r hr => ?_
  have hu : IntKind.u64.wrap n = n := u64_id (by omega) (by omega)
  refine Ok.chk (by rw [hu]; simp; omega) (Ok.some ?_)
  rw [hu]
  have e : shrI .u64 r.2 1 = r.2 / 2 := by
    unfold shrI
    rw [Int.fdiv_eq_ediv_of_nonneg _ (by decide)]
    simp [IntKind.bits]
  rw [e, Int.tmod_eq_emod_of_nonneg (by omega)]
  have h1 := Int.emod_nonneg (r.2 / 2) (show n ≠ 0 by omega)
  have h2 := Int.emod_lt_of_pos (r.2 / 2) (show 0 < n by omega)
  rw [w64_id (by omega) (by omega)]
  exact ⟨h1, .inl h2⟩
theorem Yes_ok (s : Seed) {n : Int} (hn : n ≤ 1000000000) : Ok (fun _ => True) (Yes s n) := by
  rw [Yes_eq]
  exact Ok.bind (Below_ok s hn) fun r _ => Ok.some trivial
theorem From_ok (s : Seed) {low high : Int} (h1 : -1000000 ≤ low) (h2 : low ≤ 1000000) (h3 : -1000000 ≤ high) (h4 : high ≤ 1000000) : Ok (fun r => low ≤ r.2 ∧ (r.2 ≤ high ∨ r.2 = low)) (From s low high) := by
  rw [From_eq]
  refine Ok.bind (Below_ok s (n := w64 (w64 (high - low) + 1)) ?_) fun r hr => Ok.some ?_
  · rw [w64_id (n := high - low) (by omega) (by omega), w64_id (by omega) (by omega)]; omega
  · rw [w64_id (n := high - low) (by omega) (by omega), w64_id (n := high - low + 1) (by omega) (by omega)] at hr
    simp only
    rw [w64_id (by omega) (by omega)]
    omega
theorem Of_ok (s : Seed) {l : List Int} (h0 : l ≠ []) (hl : l.length ≤ 1000) : Ok (fun r => r.2 ∈ l) (Of s l) := by
  rw [Of_eq]
  have hp : 0 < l.length := List.length_pos_iff.2 h0
  refine Ok.ite (fun h => ?_) fun h => Ok.bind (Below_ok s (n := (l.length : Int)) (by omega)) fun r hr => Ok.chk ?_ (Ok.some ?_)
  · simp at h; exact absurd h h0
  · simp; omega
  · simp only
    rw [List.getD_eq_getElem?_getD, List.getElem?_eq_getElem (by omega)]
    exact List.getElem_mem _

theorem RulesOf_ok (s : Seed) : Ok (fun r => RulesIn r.2 ∧ r.2.Drive ≤ 30 ∧ r.2.Rest ≤ 10 ∧ r.2.Day ≤ 80 ∧ r.2.Most ≤ 80) (RulesOf s) := by
  rw [RulesOf_eq]
  refine Ok.bind (From_ok s (by decide) (by decide) (by decide) (by decide)) fun r1 h1 => ?_
  refine Ok.bind (From_ok _ (by decide) (by decide) (by decide) (by decide)) fun r2 h2 => ?_
  refine Ok.bind (From_ok _ (by decide) (by decide) (by decide) (by decide)) fun r3 h3 => ?_
  refine Ok.bind (Of_ok _ (by simp) (by simp)) fun r4 h4 => ?_
  have h4' : 1 ≤ r4.2 ∧ r4.2 ≤ 80 := by
    simp only [List.mem_cons, List.not_mem_nil, or_false] at h4
    omega
  refine Ok.bind (From_ok _ (by decide) (by decide) (by omega) (by omega)) fun r5 h5 => Ok.some ?_
  simp only [RulesIn]
  omega
/-- A turn that may be. -/
def TV (t : Turn) : Prop := 0 ≤ t.From.Lo ∧ t.From.Lo ≤ t.From.Hi ∧ t.From.Hi ≤ t.To.Lo ∧ t.To.Lo ≤ t.To.Hi
structure DMade (name : ByteArray) (n : Int) (d : Driver) : Prop where
  nm : d.Name = name
  sk : 0 ≤ d.Skills ∧ d.Skills ≤ 7
  len : (d.Turns.length : Int) ≤ n
  tv : ∀ t ∈ d.Turns, TV t ∧ t.To.Hi ≤ 10 + 60 * n
  srt : d.Turns.Pairwise fun a b => a.To.Hi ≤ b.From.Lo
theorem DriverOf_ok (s : Seed) (name : ByteArray) {n : Int} (h0 : 0 ≤ n) (h1 : n ≤ 20) : Ok (fun r => DMade name n r.2) (DriverOf s name n) := by
  rw [DriverOf_eq]
  unfold DriverOf'
  refine Ok.bind (Below_ok s (by decide)) fun r1 q1 => ?_
  refine Ok.bind (Below_ok _ (by decide)) fun r2 q2 => ?_
  have e0 : w64 (n + 1) = n + 1 := w64_id (by omega) (by omega)
  rw [e0]
  refine Ok.bind (Below_ok _ (by omega)) fun r3 q3 => ?_
  refine Ok.rounds (fun v => 0 ≤ v.1.2.2.2.2.1 ∧ v.1.2.2.2.2.1 + v.2.2.1.2.2.1.length ≤ n ∧ v.2.2.1.1 = name ∧ 0 ≤ v.2.2.1.2.1 ∧ v.2.2.1.2.1 ≤ 7 ∧ 0 ≤ v.1.2.2.2.1 ∧ v.1.2.2.2.1 ≤ 10 + 60 * v.2.2.1.2.2.1.length ∧ (∀ t ∈ v.2.2.1.2.2.1, TV t ∧ t.To.Hi ≤ v.1.2.2.2.1) ∧ v.2.2.1.2.2.1.Pairwise fun a b => a.To.Hi ≤ b.From.Lo) (fun v => v.1.2.2.2.2.1.toNat) ?_ ?_ ?_
  · simp only; unfold FUEL; omega
  · refine ⟨by simp only; omega, by simp only [List.length_nil]; omega, rfl, by simp only; omega, by simp only; omega, by simp only; omega, by simp only [List.length_nil]; omega, fun t ht => (by cases ht), .nil⟩
  rintro ⟨⟨u1, u2, u3, a, i, u4⟩, ⟨w, u5⟩, ⟨nm, sk, ts, u6⟩, u7⟩ kn ⟨i0, i1, i2, i3, i4, i5, i6, i7, i8⟩ hk
  simp only at i0 i1 i2 i3 i4 i5 i6 i7 i8 hk ⊢
  unfold DriverOf_L4
  refine Ok.ite (fun hc => ?_) (fun hc => ?_)
  · have hi := of_decide_eq_true hc
    refine Ok.bind (Below_ok _ (by decide)) fun r4 q4 => ?_
    refine Ok.bind (Below_ok _ (by decide)) fun r5 q5 => ?_
    refine Ok.bind (Of_ok _ (by simp) (by simp)) fun r6 q6 => ?_
    refine Ok.bind (Below_ok _ (by decide)) fun r7 q7 => ?_
    refine Ok.bind (Below_ok _ (by decide)) fun r8 q8 => ?_
    refine Ok.bind (Of_ok _ (by simp) (by simp)) fun r9 q9 => ?_
    have q6' : 0 ≤ r6.2 ∧ r6.2 ≤ 5 := by simp only [List.mem_cons, List.not_mem_nil, or_false] at q6; omega
    have q9' : 0 ≤ r9.2 ∧ r9.2 ≤ 5 := by simp only [List.mem_cons, List.not_mem_nil, or_false] at q9; omega
    have e1 : w64 (a + r4.2) = a + r4.2 := w64_id (by omega) (by omega)
    have e2 : w64 (a + r4.2 + r6.2) = a + r4.2 + r6.2 := w64_id (by omega) (by omega)
    have e3 : w64 (a + r4.2 + r6.2 + r7.2) = a + r4.2 + r6.2 + r7.2 := w64_id (by omega) (by omega)
    have e4 : w64 (a + r4.2 + r6.2 + r7.2 + r9.2) = a + r4.2 + r6.2 + r7.2 + r9.2 := w64_id (by omega) (by omega)
    have e5 : w64 (i - 1) = i - 1 := w64_id (by omega) (by omega)
    simp only [e1, e2, e3, e4, e5]
    refine Ok.chk (fitA_ok (by simp only [List.length_cons, List.length_nil]; omega) (by decide)) ?_
    refine hk (((), (), (), a + r4.2 + r6.2 + r7.2 + r9.2, i - 1, ()), ((r9.1.word, ()), (nm, sk, ts ++ [⟨⟨a + r4.2, a + r4.2 + r6.2⟩, ⟨a + r4.2 + r6.2 + r7.2, a + r4.2 + r6.2 + r7.2 + r9.2⟩⟩], ()), ())) ⟨by simp only; omega, ?_, i2, i3, i4, by simp only; omega, ?_, ?_, ?_⟩ (by simp only; omega)
    · simp only [List.length_append, List.length_cons, List.length_nil]; omega
    · simp only [List.length_append, List.length_cons, List.length_nil]; omega
    · intro t ht
      simp only [List.mem_append, List.mem_singleton] at ht ⊢
      rcases ht with ht | rfl
      · obtain ⟨j1, j2⟩ := i7 t ht; exact ⟨j1, by omega⟩
      · simp only [TV]; omega
    · simp only
      rw [List.pairwise_append]
      refine ⟨i8, List.pairwise_singleton _ _, fun x hx y hy => ?_⟩
      rw [List.mem_singleton.1 hy]
      have := (i7 x hx).2
      simp only; omega
  · refine Ok.some ⟨i2, ⟨i3, i4⟩, by simp only; omega, fun t ht => ?_, i8⟩
    obtain ⟨j1, j2⟩ := i7 t ht
    exact ⟨j1, by omega⟩
end Go.Proofs.Crew


/- The crew: what is made passes the checks; the answer on it. -/
namespace Go.Proofs.Crew
open Go Go.Ab
set_option linter.all false
theorem within_sp (n a b : Int) : within n a b = some (decide (a ≤ n) && decide (n ≤ b)) := by
  rw [within_eq]
  unfold within'
  cases decide (a ≤ n) <;> rfl
theorem within_yes {n a b : Int} (h1 : a ≤ n) (h2 : n ≤ b) : within n a b = some true := by rw [within_sp, decide_eq_true h1, decide_eq_true h2]; rfl
theorem pCheckRules_ok {u : Rules} (h : RulesIn u) : pCheckRules u = some 0 := by
  obtain ⟨a1, a2, b1, b2, c1, c2, d1, d2⟩ := h
  apply ok_eq
  rw [pCheckRules_eq]
  unfold pCheckRules'
  refine Ok.rounds (fun v => 0 ≤ v.1.1 ∧ v.1.1 ≤ 4) (fun v => (4 - v.1.1).toNat) (by show (4 - (0 : Int)).toNat < FUEL; unfold FUEL; decide) ⟨by decide, by decide⟩ ?_
  rintro ⟨⟨x, u1⟩, u2⟩ kn ⟨h1, h2⟩ hk
  simp only at h1 h2 hk ⊢
  unfold pCheckRules_L2
  refine Ok.ite (fun hc => ?_) (fun hc => Ok.some rfl)
  have hx : x < 4 := by simpa using hc
  have e1 : w64 (x + 1) = x + 1 := w64_id (by omega) (by omega)
  have next : Ok (fun r => r = 0) (kn ((x + 1, ()), ())) := hk ((x + 1, ()), ()) ⟨by simp only; omega, by simp only; omega⟩ (by simp only; omega)
  simp only [e1]
  have hx4 : x = 0 ∨ x = 1 ∨ x = 2 ∨ x = 3 := by omega
  rcases hx4 with rfl | rfl | rfl | rfl
  · exact Ok.beq (within_yes a1 a2) next
  · exact Ok.beq (within_yes b1 b2) next
  · exact Ok.beq (within_yes c1 c2) next
  · exact Ok.beq (within_yes d1 d2) next
theorem moment_ok {x : Span} (h0 : 0 ≤ x.Lo) (h1 : x.Lo ≤ x.Hi) (h2 : x.Hi ≤ 3000) : moment x = some 0 := by
  rw [moment_eq]
  unfold moment'
  rw [within_yes h0 (by omega), within_yes (by omega) h2]
  have : decide (x.Lo > x.Hi) = false := decide_eq_false (by omega)
  simp [this]
def az : ByteArray := ⟨#[97, 98, 99, 100, 101, 102, 103, 104, 105, 106, 107, 108, 109, 110, 111, 112, 113, 114, 115, 116, 117, 118, 119, 120, 121, 122]⟩
def NameOk (b : ByteArray) : Prop := 1 ≤ b.size ∧ b.size ≤ 8 ∧ ∃ r, trim b az = some r ∧ (r.toList == (⟨#[]⟩ : ByteArray).toList) = true
theorem ann_ok : NameOk (⟨#[97, 110, 110]⟩ : ByteArray) := by
  refine ⟨by decide, by decide, _, by rw [trim_eq]; rfl, ?_⟩
  rw [Lib.toList_data, Lib.toList_data]
  decide
/-- A driver that passes. -/
structure DOk (d : Driver) : Prop where
  nm : NameOk d.Name
  sk : 0 ≤ d.Skills ∧ d.Skills ≤ 255
  len : d.Turns.length ≤ 20
  tv : ∀ t ∈ d.Turns, TV t ∧ t.To.Hi ≤ 3000
  srt : d.Turns.Pairwise fun a b => a.To.Hi ≤ b.From.Lo
theorem DMade.ok {name : ByteArray} {n : Int} {d : Driver} (h : DMade name n d) (hn : NameOk name) (h1 : n ≤ 20) : DOk d :=
  ⟨by rw [h.nm]; exact hn, by have := h.sk; omega, by have := h.len; omega, fun t ht => ⟨(h.tv t ht).1, by have := (h.tv t ht).2; omega⟩, h.srt⟩
theorem srt_at {l : List Turn} (h : l.Pairwise fun a b => a.To.Hi ≤ b.From.Lo) {i : Nat} (hi : i + 1 < l.length) : (l.getD i dfltTurn).To.Hi ≤ (l.getD (i + 1) dfltTurn).From.Lo := by
  rw [List.getD_eq_getElem?_getD, List.getD_eq_getElem?_getD, List.getElem?_eq_getElem (by omega), List.getElem?_eq_getElem hi]
  exact List.pairwise_iff_getElem.1 h i (i + 1) (by omega) hi (by omega)
theorem pCheck_ok {d : Driver} (h : DOk d) : pCheck d = some 0 := by
  obtain ⟨⟨s1, s2, r, hr, he⟩, ⟨k1, k2⟩, hl, ht, hs⟩ := h
  apply ok_eq
  rw [pCheck_eq]
  unfold pCheck'
  refine Ok.no (decide_eq_false (by omega)) ?_
  refine Ok.no (decide_eq_false (by omega)) ?_
  refine Ok.beq hr ?_
  refine Ok.no (by rw [he]; rfl) ?_
  refine Ok.beq (within_yes k1 k2) ?_
  refine Ok.no rfl ?_
  refine Ok.no (decide_eq_false (by omega)) ?_
  refine Ok.rounds (fun v => 0 ≤ v.1.2.1 ∧ v.1.2.1 ≤ d.Turns.length) (fun v => (d.Turns.length - v.1.2.1).toNat) ?_ ⟨by decide, by simp⟩ ?_
  · simp only; unfold FUEL; omega
  rintro ⟨⟨u1, i, u2⟩, u3⟩ kn ⟨h1, h2⟩ hk
  simp only at h1 h2 hk ⊢
  unfold pCheck_L10__3
  refine Ok.ite (fun hc => ?_) (fun hc => Ok.some rfl)
  have hi := of_decide_eq_true hc
  obtain ⟨tv, t3⟩ := ht _ (getD_mem (d := dfltTurn) (l := d.Turns) (i := i.toNat) (by omega))
  obtain ⟨t0, t1, t2, t4⟩ := tv
  have e1 : w64 (i + 1) = i + 1 := w64_id (by omega) (by omega)
  have next : Ok (fun r => r = 0) (kn ((u1, i + 1, u2), u3)) := hk ((u1, i + 1, u2), u3) ⟨by simp only; omega, by simp only; omega⟩ (by simp only; omega)
  simp only [e1]
  refine Ok.chk (ib h1 hi) ?_
  refine Ok.beq (moment_ok t0 t1 (by omega)) ?_
  refine Ok.no rfl ?_
  refine Ok.beq (moment_ok (by omega) t4 t3) ?_
  refine Ok.no rfl ?_
  refine Ok.no (decide_eq_false (by omega)) ?_
  refine Ok.ite (fun hc2 => ?_) (fun _ => next)
  have hp := of_decide_eq_true hc2
  have e2 : w64 (i - 1) = i - 1 := w64_id (by omega) (by omega)
  simp only [e2]
  refine Ok.chk (ib (by omega) (by omega)) ?_
  have := srt_at hs (i := (i - 1).toNat) (by omega)
  rw [show (i - 1).toNat + 1 = i.toNat by omega] at this
  exact Ok.no (decide_eq_false (by omega)) next
theorem checkShift_ok {u : Rules} {d : Driver} (hu : RulesIn u) (hd : DOk d) : checkShift u d = some 0 := by
  rw [checkShift_eq]
  unfold checkShift'
  rw [pCheckRules_ok hu, pCheck_ok hd]; rfl
def DL (d : Driver) : Int → Bool := drv (turnsL d.Turns)
def DS (d : Driver) : Int → Bool := drv (turnsS d.Turns)
def verdictS (u : Rules) (d : Driver) : Int := bif (firstB u (DL d) 0 3000).1 == 0 then 1 else bif (firstB u (DS d) 0 3000).1 != 0 then 2 else 3
theorem pVerdict_sp {s : Shift} (hn : s.Driver.Turns.length ≤ 1000) (hu : RulesIn s.rules) : pVerdict s = some (verdictS s.rules s.Driver) := by
  rw [pVerdict_eq]
  unfold pVerdict'
  rw [brokenL_sp s s hn hu, brokenS_sp s s hn hu]
  unfold verdictS DL DS
  simp only [Option.bind_some]
  cases (firstB s.rules (drv (turnsL s.Driver.Turns)) 0 3000).1 == 0 <;> simp only [cond_true, cond_false]
  cases (firstB s.rules (drv (turnsS s.Driver.Turns)) 0 3000).1 != 0 <;> rfl
theorem pLegal_sp {u : Rules} {d : Driver} (hu : RulesIn u) (hd : DOk d) : pLegal u d = some (verdictS u d, (firstB u (DL d) 0 3000).1, (firstB u (DL d) 0 3000).2, 0) := by
  have hl := hd.len
  rw [pLegal_eq]
  unfold pLegal'
  rw [checkShift_ok hu hd, brokenL_sp ⟨d, u⟩ ⟨d, u⟩ (by simp only; omega) hu, pVerdict_sp (s := ⟨d, u⟩) (by simp only; omega) hu]
  rfl
end Go.Proofs.Crew


/- The crew: exact drivers; the worst case (given that the examples hold). -/
namespace Go.Proofs.Crew
open Go Go.Ab
set_option linter.all false
theorem NewSeed_ok {nums : List Int} (hn : nums.length ≤ 9223372036854775807) : Ok (fun _ => True) (NewSeed nums) := by
  rw [NewSeed_eq]
  refine Ok.rounds (fun v => 0 ≤ v.1.2.1 ∧ v.1.2.1 ≤ nums.length) (fun v => ((nums.length : Int) - v.1.2.1).toNat) ?_ ?_ ?_
  · show ((nums.length : Int) - 0).toNat < 18446744073709551616
    omega
  · simp
  · rintro ⟨⟨_, i, _⟩, ⟨w, _⟩, _⟩ kn hi' hk
    simp only at hi'
    refine Ok.ite (fun hlt => ?_) fun _ => Ok.some trivial
    simp only [decide_eq_true_eq] at hlt
    have e : w64 (i + 1) = i + 1 := w64_id (by omega) (by omega)
    refine Ok.chk (by simp; omega) (Ok.bind (next_ok _) fun r _ => hk _ ?_ ?_)
    · simp [e]; omega
    · simp [e]; omega

end Go.Proofs.Crew


/- The crew: whatever is true (given that the examples hold). -/
namespace Go.Proofs.Crew
open Go Go.Ab
set_option linter.all false
theorem drv_mono {α β : Type} {l : List α} {l' : List β} {f : α → Int × Int} {g : β → Int × Int} {m : Int} (h : ∀ t ∈ l, ∃ t' ∈ l', (g t').1 ≤ (f t).1 ∧ (f t).2 ≤ (g t').2) (hm : drv (l.map f) m = true) : drv (l'.map g) m = true := by
  simp only [drv, List.any_map, List.any_eq_true, Function.comp, Bool.and_eq_true, decide_eq_true_eq] at hm ⊢
  obtain ⟨t, ht, q1, q2⟩ := hm
  obtain ⟨t', ht', p1, p2⟩ := h t ht
  exact ⟨t', ht', by omega, by omega⟩
theorem at_of {l : List Turn} {t : Turn} (h : t ∈ l) : ∃ i : Nat, i < l.length ∧ l.getD i dfltTurn = t := by
  obtain ⟨k, hk1, hk2⟩ := List.getElem_of_mem h
  exact ⟨k, hk1, by rw [List.getD_eq_getElem?_getD, List.getElem?_eq_getElem hk1, Option.getD_some, hk2]⟩
end Go.Proofs.Crew


/- The crew: what is known better, looser rules (given that the examples hold). -/
namespace Go.Proofs.Crew
open Go Go.Ab
set_option linter.all false
/-- A turn within a turn. -/
def QI (t o : Turn) : Prop := t.From.Lo ≤ o.From.Lo ∧ o.From.Lo ≤ o.From.Hi ∧ o.From.Hi ≤ t.From.Hi ∧ t.To.Lo ≤ o.To.Lo ∧ o.To.Lo ≤ o.To.Hi ∧ o.To.Hi ≤ t.To.Hi
end Go.Proofs.Crew


/- The crew: a turn more. -/
namespace Go.Proofs.Crew
open Go Go.Ab
set_option linter.all false
def newT (a long : Int) : Turn := ⟨⟨a, a⟩, ⟨a + long, a + long⟩⟩
def addT (d : Driver) (a long : Int) : Driver := ⟨d.Name, d.Skills, d.Turns ++ [newT a long]⟩
theorem cpL_rep {α : Type} (l : List α) (x : α) : cpL (List.replicate (l.length + 1) x) l = l ++ [x] := by
  simp only [cpL, List.length_replicate]
  rw [List.take_of_length_le (by omega), List.drop_replicate]
  simp
theorem more_sp (s : Shift) {a long : Int} (hn : s.Driver.Turns.length ≤ 1000) (h1 : -100000 ≤ a + long) (h2 : a + long ≤ 100000) : more s a long = some ⟨addT s.Driver a long, s.rules⟩ := by
  rw [more_eq]
  unfold more'
  have e1 : w64 ((s.Driver.Turns.length : Int) + 1) = ((s.Driver.Turns.length + 1 : Nat) : Int) := by rw [w64_id (by omega) (by omega)]; simp
  have e2 : w64 (a + long) = a + long := w64_id (by omega) (by omega)
  rw [e1, e2]
  simp only [Int.toNat_natCast, cpL_rep]
  have c1 : fitM ((s.Driver.Turns.length + 1 : Nat) : Int) 32 = true := by unfold fitM; simp; omega
  rw [c1]
  simp only [chk, cond_true, List.length_append, List.length_cons, List.length_nil]
  have c2 : (decide (0 ≤ (s.Driver.Turns.length : Int)) && decide ((s.Driver.Turns.length : Int) < ((s.Driver.Turns.length + (0 + 1) : Nat) : Int))) = true := by simp; omega
  have c3 : decide (s.Driver.Turns.length < s.Driver.Turns.length + (0 + 1)) = true := by simp
  rw [c2, c3]
  simp only [cond_true, addT, newT]
  rw [List.set_append_right _ _ (Nat.le_refl _), Nat.sub_self]
  rfl
end Go.Proofs.Crew


/- The crew: clashes, may, for how long. -/
namespace Go.Proofs.Crew
open Go Go.Ab
set_option linter.all false
def clashB (l : List Turn) (a long : Int) : Bool := l.any fun t => decide (a < t.To.Hi) && decide (a + long > t.From.Lo)
theorem pClashes_sp (s : Shift) {a long : Int} (hn : s.Driver.Turns.length ≤ 1000) (h1 : -100000 ≤ a + long) (h2 : a + long ≤ 100000) : pClashes s a long = some (clashB s.Driver.Turns a long) := by
  apply ok_eq
  rw [pClashes_eq]
  unfold pClashes'
  have e2 : w64 (a + long) = a + long := w64_id (by omega) (by omega)
  refine (Ok.roundsD (P := fun (v : (Int × Unit) × Unit) r => r = clashB (s.Driver.Turns.drop v.1.1.toNat) a long) (fun (v : (Int × Unit) × Unit) => 0 ≤ v.1.1 ∧ v.1.1 ≤ s.Driver.Turns.length) (fun (v : (Int × Unit) × Unit) => (s.Driver.Turns.length - v.1.1).toNat) ?_ ⟨by decide, by simp⟩ ?_)
  · simp only; unfold FUEL; omega
  rintro ⟨⟨i, u1⟩, u2⟩ kn ⟨h0, h3⟩ hk
  simp only at h0 h3 hk ⊢
  unfold pClashes_L2
  refine Ok.ite (fun hc => ?_) (fun hc => ?_)
  · have hi := of_decide_eq_true hc
    have hi' : i.toNat < s.Driver.Turns.length := by omega
    have e1 : w64 (i + 1) = i + 1 := w64_id (by omega) (by omega)
    have hd : clashB (s.Driver.Turns.drop i.toNat) a long = ((decide (a < (s.Driver.Turns.getD i.toNat dfltTurn).To.Hi) && decide (a + long > (s.Driver.Turns.getD i.toNat dfltTurn).From.Lo)) || clashB (s.Driver.Turns.drop (i.toNat + 1)) a long) := by
      rw [drop_get (d := dfltTurn) hi']; rfl
    have next : (decide (a < (s.Driver.Turns.getD i.toNat dfltTurn).To.Hi) && decide (a + long > (s.Driver.Turns.getD i.toNat dfltTurn).From.Lo)) = false → Ok (fun r => r = clashB (s.Driver.Turns.drop i.toNat) a long) (kn ((i + 1, ()), ())) := fun hb => by
      obtain ⟨r, hr1, hr2⟩ := hk ((i + 1, ()), ()) ⟨by simp only; omega, by simp only; omega⟩ (by simp only; omega)
      refine ⟨r, hr1, ?_⟩
      simp only at hr2
      rw [hd, hb, hr2, toNat_succ h0]; rfl
    simp only [e1, e2]
    refine Ok.chk (ib h0 hi) ?_
    refine Ok.ite (fun hc2 => ?_) (fun hc2 => next (by rw [hc2]; rfl))
    refine Ok.ite (fun hc3 => ?_) (fun hc3 => next (by rw [hc3, Bool.and_false]))
    exact Ok.some (by rw [hd, hc2, hc3]; rfl)
  · have hi := of_decide_eq_false hc
    refine Ok.some ?_
    have : s.Driver.Turns.drop i.toNat = [] := List.drop_eq_nil_of_le (by omega)
    rw [this]; rfl
def mayB (u : Rules) (d : Driver) (a long : Int) : Bool := !(clashB d.Turns a long) && ((firstB u (DL (addT d a long)) 0 3000).1 == 0)
theorem pMay1_sp (s : Shift) {a long : Int} (hn : s.Driver.Turns.length ≤ 500) (hu : RulesIn s.rules) (h1 : -100000 ≤ a + long) (h2 : a + long ≤ 100000) : pMay1 s a long = some (mayB s.rules s.Driver a long) := by
  rw [pMay1_eq]
  unfold pMay1' mayB
  rw [pClashes_sp s (by omega) h1 h2]
  simp only [Option.bind_some]
  cases clashB s.Driver.Turns a long with
  | true => rfl
  | false =>
    simp only [cond_false]
    rw [more_sp s (by omega) h1 h2]
    simp only [Option.bind_some]
    rw [brokenL_sp ⟨addT s.Driver a long, s.rules⟩ ⟨addT s.Driver a long, s.rules⟩ (by simp only [addT, List.length_append, List.length_cons, List.length_nil]; omega) hu]
    rfl
theorem leftF_sp (s : Shift) {a long : Int} (hn : s.Driver.Turns.length ≤ 500) (hu : RulesIn s.rules) (h1 : -100000 ≤ a + long) (h2 : a + long ≤ 100000) : leftF long s a = some (!(mayB s.rules s.Driver a long)) := by
  rw [leftF_eq]
  unfold leftF'
  rw [pMay1_sp s hn hu h1 h2]; rfl
/-- The search finds the least number from which on one may not. -/
theorem Search_sp (s : Shift) {a N k : Int} (hn : s.Driver.Turns.length ≤ 500) (hu : RulesIn s.rules) (ha0 : 0 ≤ a) (ha1 : a ≤ 3000) (hN : N ≤ 3001) (k0 : 0 ≤ k) (kN : k ≤ N)
    (hlo : ∀ long : Int, 0 ≤ long → long < k → mayB s.rules s.Driver a long = true) (hhi : ∀ long : Int, k ≤ long → long < N → mayB s.rules s.Driver a long = false) : Search N (s, a) = some k := by
  apply ok_eq
  rw [Search_eq]
  unfold Search'
  refine Ok.rounds (fun v => 0 ≤ v.1.1 ∧ v.1.1 ≤ k ∧ k ≤ v.1.2.1 ∧ v.1.2.1 ≤ N) (fun v => (v.1.2.1 - v.1.1).toNat) ?_ ⟨by simp only; omega, by simp only; omega, by simp only; omega, by simp⟩ ?_
  · simp only; unfold FUEL; omega
  rintro ⟨⟨i, j, u1⟩, u2⟩ kn ⟨i0, i1, i2, i3⟩ hk
  simp only at i0 i1 i2 i3 hk ⊢
  unfold Search_L2
  refine Ok.ite (fun hc => ?_) (fun hc => ?_)
  · have hij := of_decide_eq_true hc
    have e1 : w64 (i + j) = i + j := w64_id (by omega) (by omega)
    have e2 : IntKind.u64.wrap (i + j) = i + j := u64_id (by omega) (by omega)
    have e3 : shrI .u64 (i + j) 1 = (i + j) / 2 := by
      unfold shrI
      rw [Int.fdiv_eq_ediv_of_nonneg _ (by decide)]
      simp [IntKind.bits]
    have e4 : w64 ((i + j) / 2) = (i + j) / 2 := w64_id (by omega) (by omega)
    have e5 : w64 ((i + j) / 2 + 1) = (i + j) / 2 + 1 := w64_id (by omega) (by omega)
    simp only [e1, e2, e3, e4, e5]
    refine Ok.beq (leftF_sp s hn hu (by omega) (by omega)) ?_
    rw [Bool.not_not]
    refine Ok.ite (fun hm => ?_) (fun hm => ?_)
    · refine hk (((i + j) / 2 + 1, j, ()), ()) ⟨by simp only; omega, ?_, i2, i3⟩ (by simp only; omega)
      simp only
      refine Classical.byContradiction fun h => ?_
      rw [hhi ((i + j) / 2) (by omega) (by omega)] at hm; cases hm
    · refine hk ((i, (i + j) / 2, ()), ()) ⟨i0, i1, ?_, by simp only; omega⟩ (by simp only; omega)
      simp only
      refine Classical.byContradiction fun h => ?_
      rw [hlo ((i + j) / 2) (by omega) (by omega)] at hm; cases hm
  · have hij := of_decide_eq_false hc
    exact Ok.some (by omega)
end Go.Proofs.Crew


/- The crew: the chapter's examples hold. -/
namespace Go.Proofs.Crew
open Go Go.Ab
set_option linter.all false
theorem itN_one {R γ : Type} (F : γ → (γ → Option R) → Option R) (v : γ) : itN γ F v = F v (fun v => F v (iter F 18446744073709551614)) := rfl
def u0 : Rules := ⟨4, 2, 10, 6⟩
def annD : Driver := ⟨⟨#[97, 110, 110]⟩, 3, [⟨⟨0, 0⟩, ⟨3, 3⟩⟩, ⟨⟨4, 5⟩, ⟨6, 7⟩⟩]⟩
def exD : Driver := ⟨⟨#[97, 110, 110]⟩, 3, [⟨⟨0, 0⟩, ⟨4, 4⟩⟩]⟩
theorem rules_sp : rules = some u0 := by rw [rules_eq]; rfl
theorem span_sp (a b : Int) : span a b = some ⟨a, b⟩ := by rw [span_eq]; rfl
theorem one_sp (a : Int) : one a = some ⟨a, a⟩ := by rw [one_eq]; unfold one'; rw [span_sp]; rfl
theorem ann_sp : ann = some annD := by
  rw [ann_eq]; unfold ann'
  rw [one_sp, one_sp, span_sp, span_sp]; rfl
theorem exact_sp : exact [0, 4] = some exD := by
  rw [exact_eq]; unfold exact'
  rw [itN_one]
  simp only [exact_L3, one_sp]
  rfl
theorem u0_in : RulesIn u0 := by simp only [RulesIn, u0]; omega
theorem ann_dok : DOk annD := ⟨ann_ok, by decide, by decide, fun t ht => by
  simp only [annD, List.mem_cons, List.not_mem_nil, or_false] at ht
  rcases ht with rfl | rfl <;> simp only [TV] <;> omega, by
  simp only [annD, List.pairwise_cons, List.mem_singleton, List.not_mem_nil, forall_eq]
  exact ⟨by decide, fun _ h => h.elim, .nil⟩⟩
theorem ex_dok : DOk exD := ⟨ann_ok, by decide, by decide, fun t ht => by
  simp only [exD, List.mem_cons, List.not_mem_nil, or_false] at ht
  subst ht; simp only [TV]; omega, List.pairwise_singleton _ _⟩
theorem firstB_short {u : Rules} {ts : List (Int × Int)} {k : Nat} (hk : k ≤ 3000) (h : ∀ t ∈ ts, t.2 ≤ k) : firstB u (drv ts) 0 3000 = firstB u (drv ts) 0 k := by
  have := firstB_cut (u := u) (D := drv ts) (n := k) (a := 0) (k := 3000 - k) (fun m hm => by
    have : drv ts (m : Int) = false := drv_false fun t ht => by have := h t ht; omega
    simp [brkAt, this])
  rw [show k + (3000 - k) = 3000 by omega] at this
  exact this
theorem legal0 : pLegal u0 annD = some (3, 1, 5, 0) := by
  rw [pLegal_sp u0_in ann_dok]
  have h1 : firstB u0 (DL annD) 0 3000 = (1, 5) := by
    unfold DL
    rw [firstB_short (k := 8) (by decide) (by decide)]
    decide +kernel
  have h2 : firstB u0 (DS annD) 0 3000 = (0, 0) := by
    unfold DS
    rw [firstB_short (k := 8) (by decide) (by decide)]
    decide +kernel
  unfold verdictS
  rw [h1, h2]; rfl
theorem weigh0 : pWeigh ⟨20, 10000⟩ 1000 = some (⟨971, 1030⟩, 0) := by
  rw [pWeigh_eq]; unfold pWeigh'
  have hc : pCheckScale ⟨20, 10000⟩ = some 0 := by
    rw [pCheckScale_eq]; unfold pCheckScale'
    rw [within_yes (by decide) (by decide), within_yes (by decide) (by decide)]; rfl
  rw [hc, within_yes (by decide) (by decide)]
  decide +kernel
theorem may_lo : ∀ long : Int, 0 ≤ long → long < 3 → mayB u0 exD 6 long = true := fun long h1 h2 => by
  have : long = 0 ∨ long = 1 ∨ long = 2 := by omega
  have key : ∀ l : Int, l ≤ 2 → firstB u0 (DL (addT exD 6 l)) 0 3000 = firstB u0 (DL (addT exD 6 l)) 0 8 := fun l hl => by
    unfold DL
    refine firstB_short (k := 8) (by decide) fun t ht => ?_
    simp only [turnsL, addT, exD, newT, List.map_append, List.map_cons, List.map_nil, List.mem_append, List.mem_cons, List.not_mem_nil, or_false] at ht
    rcases ht with rfl | rfl
    · decide
    · simp only; omega
  unfold mayB
  rw [key long (by omega)]
  rcases this with rfl | rfl | rfl <;> decide +kernel
theorem may_hi : ∀ long : Int, 3 ≤ long → long < 2995 → mayB u0 exD 6 long = false := fun long h1 _ => by
  have h3 : brkAt u0 (DL (addT exD 6 3)) 8 ≠ 0 := by decide +kernel
  have h4 : brkAt u0 (DL (addT exD 6 long)) 8 ≠ 0 := brk_mono (by omega) (by omega) rfl (by omega) (fun m hm => drv_mono (fun t ht => by
    simp only [addT, exD, newT, List.mem_append, List.mem_cons, List.not_mem_nil, or_false] at ht
    rcases ht with rfl | rfl
    · exact ⟨⟨⟨0, 0⟩, ⟨4, 4⟩⟩, by simp [addT, exD], by decide, by decide⟩
    · exact ⟨newT 6 long, by simp [addT], by simp [newT], by simp only [newT]; omega⟩) hm) h3
  have h5 : (firstB u0 (DL (addT exD 6 long)) 0 3000).1 ≠ 0 := firstB_ne (m := 8) (by omega) (by omega) h4
  unfold mayB
  have : ((firstB u0 (DL (addT exD 6 long)) 0 3000).1 == 0) = false := by simpa using h5
  rw [this, Bool.and_false]
theorem left0 : pLeft u0 exD 6 = some (2, 0) := by
  rw [pLeft_eq]; unfold pLeft'
  obtain ⟨v, hv⟩ : ∃ v, pMay u0 exD 6 0 = some (v, 0) := by
    rw [pMay_eq]; unfold pMay'
    rw [checkShift_ok u0_in ex_dok, within_yes (by decide) (by decide), pClashes_sp _ (by decide) (by decide) (by decide), more_sp _ (by decide) (by decide) (by decide)]
    have e : w64 (3000 - 6) = 2994 := w64_id (by decide) (by decide)
    have hc : clashB exD.Turns 6 0 = false := by decide +kernel
    simp only [Option.bind_some, e, within_yes (show (0:Int) ≤ 0 by decide) (show (0:Int) ≤ 2994 by decide), hc]
    rw [pVerdict_sp (by decide) u0_in]
    exact ⟨_, rfl⟩
  rw [hv]
  have e : w64 (w64 (3000 - 6) + 1) = 2995 := by rw [w64_id (n := 3000 - 6) (by decide) (by decide), w64_id (by decide) (by decide)]; rfl
  simp only [Option.bind_some, e]
  rw [Search_sp ⟨exD, u0⟩ (k := 3) (by decide) u0_in (by decide) (by decide) (by decide) (by decide) (by decide) may_lo may_hi]
  decide +kernel
theorem awake_true : awake = some true := by
  rw [awake_eq]; unfold awake'
  rw [rules_sp, ann_sp, exact_sp, weigh0]
  simp only [Option.bind_some]
  rw [legal0, left0]
  simp only [Option.bind_some]
  rw [span_sp]
  decide +kernel
end Go.Proofs.Crew


/- The crew: what axles truly weigh. -/
namespace Go.Proofs.Crew
open Go Go.Ab
set_option linter.all false
structure WS (s : Scale) : Prop where
  z0 : 0 ≤ s.Zero
  z1 : s.Zero ≤ 1000
  p0 : 0 ≤ s.Part
  p1 : s.Part ≤ 100000
def mx (f : Int → Int) (l : List Int) : Int := l.foldl (fun a r => max a (f r)) 0
end Go.Proofs.Crew


/- The crew: scales, the program's and the reference's, whatever is given. -/
namespace Go.Proofs.Crew
open Go Go.Ab
set_option linter.all false
theorem outside_sp (n a b : Int) : outside n a b = some (!(decide (a ≤ n) && decide (n ≤ b))) := by
  rw [outside_eq]; unfold outside'
  by_cases h : n < a
  · rw [decide_eq_true h, decide_eq_false (show ¬ a ≤ n by omega)]; rfl
  · rw [decide_eq_false h, decide_eq_true (show a ≤ n by omega)]
    by_cases h2 : n ≤ b
    · rw [decide_eq_true h2, decide_eq_false (show ¬ n > b by omega)]; rfl
    · rw [decide_eq_false h2, decide_eq_true (show n > b by omega)]; rfl
def inB (n a b : Int) : Bool := decide (a ≤ n) && decide (n ≤ b)
theorem within_in (n a b : Int) : within n a b = some (inB n a b) := within_sp n a b
theorem outside_in (n a b : Int) : outside n a b = some (!(inB n a b)) := outside_sp n a b
theorem inB_iff {n a b : Int} : inB n a b = true ↔ a ≤ n ∧ n ≤ b := by simp [inB]
end Go.Proofs.Crew


/- The crew: the verdict on a driver with a turn more. -/
namespace Go.Proofs.Crew
open Go Go.Ab
set_option linter.all false
end Go.Proofs.Crew


/- The crew: both checks of a driver and of rules give the same, whatever is given. -/
namespace Go.Proofs.Crew
open Go Go.Ab
set_option linter.all false
/- Names. -/
theorem dw_all {α : Type} {p : α → Bool} : ∀ {l : List α}, (∀ b ∈ l.dropWhile p, p b = true) → ∀ b ∈ l, p b = true
  | [], _, b, hb => by cases hb
  | a :: l, h, b, hb => by
    cases ha : p a with
    | false =>
      rw [List.dropWhile_cons_of_neg (by rw [ha]; simp)] at h
      exact h b hb
    | true =>
      rw [List.dropWhile_cons_of_pos ha] at h
      rcases List.mem_cons.1 hb with rfl | hb
      · exact ha
      · exact dw_all h b hb
theorem dw_nil {α : Type} {p : α → Bool} : ∀ {l : List α}, (∀ b ∈ l, p b = true) → l.dropWhile p = []
  | [], _ => rfl
  | a :: l, h => by
    rw [List.dropWhile_cons_of_pos (h a (List.mem_cons_self ..))]
    exact dw_nil fun b hb => h b (List.mem_cons_of_mem _ hb)
theorem trimS_nil (l cs : List UInt8) : Lib.trimS l cs = [] ↔ ∀ b ∈ l, cs.contains b = true := by
  unfold Lib.trimS Lib.trimLeftS Lib.trimRightS
  constructor
  · intro h
    have h1 : ∀ b ∈ (l.reverse.dropWhile (cs.contains ·)).reverse, cs.contains b = true := dw_all (p := (cs.contains ·)) (by rw [h]; intro b hb; cases hb)
    have h2 := dw_all (p := (cs.contains ·)) (l := l.reverse) (fun b hb => h1 b (by simpa using hb))
    exact fun b hb => h2 b (by simpa using hb)
  · intro h
    have : l.reverse.dropWhile (cs.contains ·) = [] := dw_nil (p := (cs.contains ·)) fun b hb => h b (by simpa using hb)
    rw [this]; rfl
def lowB (b : UInt8) : Bool := decide (97 ≤ b.toNat) && decide (b.toNat ≤ 122)
theorem azc : ∀ n : Fin 256, az.data.toList.contains (UInt8.ofNat n.val) = (decide (97 ≤ n.val) && decide (n.val ≤ 122)) := by decide +kernel
theorem az_low (b : UInt8) : az.data.toList.contains b = lowB b := by
  have h := azc ⟨b.toNat, b.toNat_lt⟩
  simp only [UInt8.ofNat_toNat] at h
  exact h
def nameB (s : ByteArray) : Bool := decide (1 ≤ s.size) && decide (s.size ≤ 8) && s.data.toList.all lowB
theorem trim_any (s : ByteArray) (hs : s.size ≤ 1000) : trim s az = some (trimV s az) := by
  rw [trim_eq]
  have h : okTrim s az = true := by
    unfold okTrim
    rw [decide_eq_true (show s.size ≤ 9223372036854775807 by omega)]
    decide +kernel
  rw [h]; rfl
theorem trimV_empty (s : ByteArray) : ((trimV s az).toList == (⟨#[]⟩ : ByteArray).toList) = s.data.toList.all lowB := by
  rw [Lib.toList_data, Lib.toList_data]
  have : (trimV s az).data.toList = Lib.trimS s.data.toList az.data.toList := by simp [trimV]
  rw [this]
  have hi := trimS_nil s.data.toList az.data.toList
  cases ha : s.data.toList.all lowB with
  | true =>
    rw [List.all_eq_true] at ha
    rw [hi.2 fun b hb => by rw [az_low]; exact ha b hb]
    rfl
  | false =>
    have hne : Lib.trimS s.data.toList az.data.toList ≠ [] := fun he => by
      have h2 := hi.1 he
      have : s.data.toList.all lowB = true := by
        rw [List.all_eq_true]
        intro b hb
        rw [← az_low]; exact h2 b hb
      rw [this] at ha; cases ha
    simpa using hne
theorem byteAt_get {R : Type} {s : ByteArray} {i : Nat} (h : i < s.size) (k : Int → Option R) : byteAt s i k = k (s.data.toList[i]'(by simpa using h)).toNat := by
  have : s[i]? = some (s.data.toList[i]'(by simpa using h)) := by
    rw [getElem?_pos s i h]
    congr 1
  unfold byteAt
  rw [this]
theorem named_sp (s : ByteArray) (hs : s.size ≤ 1000) : named s = some (nameB s) := by
  apply ok_eq
  rw [named_eq]
  unfold named'
  refine Ok.rounds (fun v => ∃ i : Nat, v.1.1 = (i : Int) ∧ i ≤ s.size ∧ (s.data.toList.take i).all lowB = true) (fun v => (s.size - v.1.1).toNat) ?_ ⟨0, rfl, by omega, by simp⟩ ?_
  · simp only; unfold FUEL; omega
  rintro ⟨⟨x, u1⟩, u2⟩ kn ⟨i, h1, h2, h3⟩ hk
  simp only at h1 h2 h3 hk ⊢
  subst h1
  unfold named_L2
  have hlen : s.data.toList.length = s.size := by simp
  refine Ok.ite (fun hc => ?_) (fun hc => ?_)
  · have hi : i < s.size := by have := of_decide_eq_true hc; omega
    refine Ok.chk (decide_eq_true (by omega)) ?_
    simp only [Int.toNat_natCast]
    rw [byteAt_get hi]
    have hmem : s.data.toList[i]'(by omega) ∈ s.data.toList := List.getElem_mem _
    have hb : lowB (s.data.toList[i]'(by omega)) = false → nameB s = false := fun hf => by
      have : s.data.toList.all lowB = false := by
        rw [List.all_eq_false]
        exact ⟨_, hmem, by rw [hf]; simp⟩
      unfold nameB
      rw [this, Bool.and_false]
    generalize hbb : s.data.toList[i]'(by omega) = b at hb
    refine Ok.ite (fun hc => ?_) (fun hc => ?_)
    · have hc := of_decide_eq_true hc
      exact Ok.some (hb (by unfold lowB; rw [decide_eq_false (show ¬ 97 ≤ b.toNat by omega)]; rfl)).symm
    · have hc := of_decide_eq_false hc
      refine Ok.chk (decide_eq_true (by omega)) ?_
      rw [byteAt_get hi, hbb]
      refine Ok.ite (fun hc2 => ?_) (fun hc2 => ?_)
      · have hc2 := of_decide_eq_true hc2
        exact Ok.some (hb (by unfold lowB; rw [decide_eq_false (show ¬ b.toNat ≤ 122 by omega), Bool.and_false])).symm
      · have hc2 := of_decide_eq_false hc2
        have e1 : w64 ((i : Int) + 1) = (i : Int) + 1 := w64_id (by omega) (by omega)
        rw [e1]
        refine hk (((i : Int) + 1, ()), ()) ⟨i + 1, by simp, by omega, ?_⟩ (by simp only; omega)
        have hlo : lowB b = true := by unfold lowB; rw [decide_eq_true (show 97 ≤ b.toNat by omega), decide_eq_true (show b.toNat ≤ 122 by omega)]; rfl
        rw [List.take_succ, List.getElem?_eq_getElem (by omega), hbb]
        simp [h3, hlo]
  · have hi : i = s.size := by have := of_decide_eq_false hc; omega
    subst hi
    rw [← hlen, List.take_length] at h3
    unfold nameB
    rw [h3]
    by_cases hz : 1 ≤ s.size
    · rw [decide_eq_true (show (s.size : Int) ≥ 1 by omega), decide_eq_true hz]
      refine Ok.some ?_
      rw [Bool.true_and, Bool.and_true, decide_eq_decide]; omega
    · rw [decide_eq_false (show ¬ (s.size : Int) ≥ 1 by omega), decide_eq_false hz]
      exact Ok.some rfl
/- Rules. -/
def rulesB (u : Rules) : Bool := inB u.Drive 1 3000 && inB u.Rest 1 3000 && inB u.Day 1 3000 && inB u.Most 1 3000
theorem rulesB_in {u : Rules} (h : rulesB u = true) : RulesIn u := by
  unfold rulesB at h
  simp only [Bool.and_eq_true, inB_iff] at h
  simp only [RulesIn]; omega
theorem rCheckRules_any (u : Rules) : rCheckRules u = some (bif rulesB u then 0 else 2) := by
  rw [rCheckRules_eq]; unfold rCheckRules' rulesB
  simp only [outside_in, Option.bind_some]
  cases inB u.Drive 1 3000 <;> cases inB u.Rest 1 3000 <;> cases inB u.Day 1 3000 <;> cases inB u.Most 1 3000 <;> rfl
theorem pCheckRules_any (u : Rules) : pCheckRules u = some (bif rulesB u then 0 else 2) := by
  apply ok_eq
  rw [pCheckRules_eq]; unfold pCheckRules' rulesB
  refine Ok.rounds (fun v => v.1.1 = 0 ∨ (v.1.1 = 1 ∧ inB u.Drive 1 3000 = true) ∨ (v.1.1 = 2 ∧ inB u.Drive 1 3000 = true ∧ inB u.Rest 1 3000 = true) ∨ (v.1.1 = 3 ∧ inB u.Drive 1 3000 = true ∧ inB u.Rest 1 3000 = true ∧ inB u.Day 1 3000 = true) ∨ (v.1.1 = 4 ∧ inB u.Drive 1 3000 = true ∧ inB u.Rest 1 3000 = true ∧ inB u.Day 1 3000 = true ∧ inB u.Most 1 3000 = true)) (fun v => (4 - v.1.1).toNat) (by show (4 - (0 : Int)).toNat < FUEL; unfold FUEL; decide) (.inl rfl) ?_
  rintro ⟨⟨x, u1⟩, u2⟩ kn hi hk
  simp only at hi hk ⊢
  unfold pCheckRules_L2
  rcases hi with rfl | ⟨rfl, a1⟩ | ⟨rfl, a1, a2⟩ | ⟨rfl, a1, a2, a3⟩ | ⟨rfl, a1, a2, a3, a4⟩
  · refine Ok.beq (within_in _ _ _) ?_
    cases h : inB u.Drive 1 3000 with
    | false => exact Ok.some rfl
    | true =>
      have := hk ((1, ()), ()) (.inr (.inl ⟨rfl, h⟩)) (by decide)
      rw [h] at this; exact this
  · rw [a1]
    refine Ok.beq (within_in _ _ _) ?_
    cases h : inB u.Rest 1 3000 with
    | false => exact Ok.some rfl
    | true =>
      have := hk ((2, ()), ()) (.inr (.inr (.inl ⟨rfl, a1, h⟩))) (by decide)
      rw [a1, h] at this; exact this
  · rw [a1, a2]
    refine Ok.beq (within_in _ _ _) ?_
    cases h : inB u.Day 1 3000 with
    | false => exact Ok.some rfl
    | true =>
      have := hk ((3, ()), ()) (.inr (.inr (.inr (.inl ⟨rfl, a1, a2, h⟩)))) (by decide)
      rw [a1, a2, h] at this; exact this
  · rw [a1, a2, a3]
    refine Ok.beq (within_in _ _ _) ?_
    cases h : inB u.Most 1 3000 with
    | false => exact Ok.some rfl
    | true =>
      have := hk ((4, ()), ()) (.inr (.inr (.inr (.inr ⟨rfl, a1, a2, a3, h⟩)))) (by decide)
      rw [a1, a2, a3, h] at this; exact this
  · rw [a1, a2, a3, a4]
    exact Ok.some rfl
/- Turns. -/
def spanE (x : Span) : Int := bif inB x.Lo 0 3000 && inB x.Hi 0 3000 then (bif decide (x.Lo > x.Hi) then 11 else 0) else 2
theorem moment_any (x : Span) : moment x = some (spanE x) := by
  rw [moment_eq]; unfold moment' spanE
  simp only [within_in, Option.bind_some]
  cases inB x.Lo 0 3000 <;> cases inB x.Hi 0 3000 <;> cases decide (x.Lo > x.Hi) <;> rfl
theorem rCheckSpan_any (x : Span) : rCheckSpan x = some (spanE x) := by
  rw [rCheckSpan_eq]; unfold rCheckSpan' spanE
  simp only [outside_in, Option.bind_some]
  cases inB x.Lo 0 3000 <;> cases inB x.Hi 0 3000 <;> cases decide (x.Lo > x.Hi) <;> rfl
def turnE (l : List Turn) (i : Nat) : Int := bif spanE (l.getD i dfltTurn).From != 0 then spanE (l.getD i dfltTurn).From else bif spanE (l.getD i dfltTurn).To != 0 then spanE (l.getD i dfltTurn).To else bif decide ((l.getD i dfltTurn).From.Hi > (l.getD i dfltTurn).To.Lo) then 11 else bif decide (0 < i) && decide ((l.getD i dfltTurn).From.Lo < (l.getD (i - 1) dfltTurn).To.Hi) then 12 else 0
def firstE (l : List Turn) : Nat → Nat → Int
  | _, 0 => 0
  | i, n + 1 => bif turnE l i == 0 then firstE l (i + 1) n else turnE l i
theorem firstE_zero {l : List Turn} : ∀ {n i : Nat}, firstE l i n = 0 → ∀ k, i ≤ k → k < i + n → turnE l k = 0
  | 0, i, _, k, h1, h2 => by omega
  | n + 1, i, h, k, h1, h2 => by
    simp only [firstE] at h
    cases ht : turnE l i == 0 with
    | false =>
      rw [ht] at h
      have : turnE l i ≠ 0 := by simpa using ht
      exact absurd h this
    | true =>
      rw [ht] at h
      by_cases e : k = i
      · subst e; simpa using ht
      · exact firstE_zero (n := n) (i := i + 1) h k (by omega) (by omega)
def checkE (d : Driver) : Int := bif nameB d.Name then (bif inB d.Skills 0 255 then (bif decide ((d.Turns.length : Int) > 20) then 8 else firstE d.Turns 0 d.Turns.length) else 2) else 3
theorem turnsLoop {d : Driver} {chkS : Span → Option Int} (hS : ∀ x, chkS x = some (spanE x)) {kn : Int → Option Int} {i : Nat} (hi : i < d.Turns.length) (hl : d.Turns.length ≤ 1000)
    (hk : Ok (fun r => r = firstE d.Turns (i + 1) (d.Turns.length - (i + 1))) (kn ((i : Int) + 1))) :
    Ok (fun r => r = firstE d.Turns i (d.Turns.length - i)) (chk (decide (0 ≤ (i : Int)) && decide ((i : Int) < (d.Turns.length : Int))) <|
    (chkS ((d.Turns.getD (i : Int).toNat dfltTurn).From)).bind fun r9 =>
    bif (r9 != 0) then
      some r9
    else
      (chkS ((d.Turns.getD (i : Int).toNat dfltTurn).To)).bind fun r10 =>
      bif (r10 != 0) then
        some r10
      else
        bif (decide ((d.Turns.getD (i : Int).toNat dfltTurn).From.Hi > (d.Turns.getD (i : Int).toNat dfltTurn).To.Lo)) then
          some 11
        else
          bif (decide ((i : Int) > 0)) then
            chk (decide (0 ≤ (w64 ((i : Int) - 1))) && decide ((w64 ((i : Int) - 1)) < (d.Turns.length : Int))) <|
            bif (decide ((d.Turns.getD (i : Int).toNat dfltTurn).From.Lo < (d.Turns.getD (w64 ((i : Int) - 1)).toNat dfltTurn).To.Hi)) then
              some 12
            else
              kn (w64 ((i : Int) + 1))
          else
            kn (w64 ((i : Int) + 1))) := by
  have e1 : w64 ((i : Int) + 1) = (i : Int) + 1 := w64_id (by omega) (by omega)
  have hn : d.Turns.length - i = (d.Turns.length - (i + 1)) + 1 := by omega
  rw [hn]
  simp only [firstE, Int.toNat_natCast, e1]
  have bad : ∀ e : Int, turnE d.Turns i = e → e ≠ 0 → Ok (fun r => r = bif turnE d.Turns i == 0 then firstE d.Turns (i + 1) (d.Turns.length - (i + 1)) else turnE d.Turns i) (some e) := fun e he h0 => by
    refine Ok.some ?_
    have : (turnE d.Turns i == 0) = false := by rw [he]; simpa using h0
    rw [this, he]; rfl
  have good : turnE d.Turns i = 0 → Ok (fun r => r = bif turnE d.Turns i == 0 then firstE d.Turns (i + 1) (d.Turns.length - (i + 1)) else turnE d.Turns i) (kn ((i : Int) + 1)) := fun he => by
    rw [he]; exact hk
  refine Ok.chk (ib (by omega) (by omega)) ?_
  refine Ok.beq (hS _) ?_
  cases h1 : spanE (d.Turns.getD i dfltTurn).From != 0 with
  | true => exact bad _ (by unfold turnE; rw [h1]; rfl) (by simpa using h1)
  | false =>
    refine Ok.no rfl ?_
    refine Ok.beq (hS _) ?_
    cases h2 : spanE (d.Turns.getD i dfltTurn).To != 0 with
    | true => exact bad _ (by unfold turnE; rw [h1, h2]; rfl) (by simpa using h2)
    | false =>
      refine Ok.no rfl ?_
      refine Ok.ite (fun h3 => bad 11 (by unfold turnE; rw [h1, h2, h3]; rfl) (by decide)) (fun h3 => ?_)
      refine Ok.ite (fun h4 => ?_) (fun h4 => ?_)
      · have hp := of_decide_eq_true h4
        have e2 : w64 ((i : Int) - 1) = (i : Int) - 1 := w64_id (by omega) (by omega)
        have e3 : ((i : Int) - 1).toNat = i - 1 := by omega
        rw [e2, e3]
        refine Ok.chk (by simp; omega) ?_
        have h4' : decide (0 < i) = true := decide_eq_true (by omega)
        refine Ok.ite (fun h5 => bad 12 (by unfold turnE; rw [h1, h2, h3, h4', h5]; rfl) (by decide)) (fun h5 => good (by unfold turnE; rw [h1, h2, h3, h5, Bool.and_false]; rfl))
      · have hp := of_decide_eq_false h4
        have h4' : decide (0 < i) = false := decide_eq_false (by omega)
        exact good (by unfold turnE; rw [h1, h2, h3, h4']; rfl)
theorem pCheck_any (d : Driver) (hs : d.Name.size ≤ 1000) (hl : d.Turns.length ≤ 1000) : pCheck d = some (checkE d) := by
  apply ok_eq
  rw [pCheck_eq]; unfold pCheck'
  unfold checkE
  refine Ok.ite (fun hc => ?_) (fun hc => ?_)
  · have h1 := of_decide_eq_true hc
    have hb : nameB d.Name = false := by unfold nameB; rw [decide_eq_false (show ¬ 1 ≤ d.Name.size by omega)]; rfl
    rw [hc, hb]; exact Ok.some rfl
  have h1 := of_decide_eq_false hc
  refine Ok.ite (fun hc => ?_) (fun hc => ?_)
  · have h2 := of_decide_eq_true hc
    have hb : nameB d.Name = false := by unfold nameB; rw [decide_eq_false (show ¬ d.Name.size ≤ 8 by omega), Bool.and_false]; rfl
    rw [hc, hb]; exact Ok.some rfl
  have h2 := of_decide_eq_false hc
  refine Ok.beq (trim_any _ hs) ?_
  rw [trimV_empty]
  have hb : nameB d.Name = d.Name.data.toList.all lowB := by unfold nameB; rw [decide_eq_true (show 1 ≤ d.Name.size by omega), decide_eq_true (show d.Name.size ≤ 8 by omega)]; rfl
  rw [hb]
  cases hn : d.Name.data.toList.all lowB with
  | false => exact Ok.some rfl
  | true =>
    refine Ok.no rfl ?_
    refine Ok.beq (within_in _ _ _) ?_
    cases hk : inB d.Skills 0 255 with
    | false => exact Ok.some rfl
    | true =>
      refine Ok.no rfl ?_
      refine Ok.ite (fun hc => ?_) (fun hc => ?_)
      · rw [hc]; exact Ok.some rfl
      rw [hc]
      simp only [cond_true, cond_false]
      refine (Ok.roundsD (P := fun (v : (Unit × Int × Unit) × Unit) r => r = firstE d.Turns v.1.2.1.toNat (d.Turns.length - v.1.2.1.toNat)) (fun (v : (Unit × Int × Unit) × Unit) => ∃ i : Nat, v.1.2.1 = (i : Int) ∧ i ≤ d.Turns.length) (fun (v : (Unit × Int × Unit) × Unit) => (d.Turns.length - v.1.2.1).toNat) ?_ ⟨0, rfl, by omega⟩ ?_)
      · simp only; unfold FUEL; omega
      rintro ⟨⟨u1, x, u2⟩, u3⟩ kn ⟨i, h3, h4⟩ hk
      simp only at h3 h4 hk ⊢
      subst h3
      unfold pCheck_L10__3
      refine Ok.ite (fun hc => ?_) (fun hc => ?_)
      · have hi := of_decide_eq_true hc
        rw [Int.toNat_natCast]
        refine turnsLoop (kn := fun y => kn (((), y, ()), ())) moment_any (by omega) hl ?_
        have := hk (((), (i : Int) + 1, ()), ()) ⟨i + 1, by simp, by omega⟩ (by simp only; omega)
        simp only at this
        rw [show ((i : Int) + 1).toNat = i + 1 by omega] at this
        exact this
      · have hi := of_decide_eq_false hc
        rw [Int.toNat_natCast, show d.Turns.length - i = 0 by omega]
        exact Ok.some rfl
theorem rCheck_any (d : Driver) (hs : d.Name.size ≤ 1000) (hl : d.Turns.length ≤ 1000) : rCheck d = some (checkE d) := by
  apply ok_eq
  rw [rCheck_eq]; unfold rCheck'
  unfold checkE
  refine Ok.beq (named_sp _ hs) ?_
  cases hn : nameB d.Name with
  | false => exact Ok.some rfl
  | true =>
    refine Ok.no rfl ?_
    refine Ok.beq (outside_in _ _ _) ?_
    cases hk : inB d.Skills 0 255 with
    | false => exact Ok.some rfl
    | true =>
      refine Ok.no rfl ?_
      refine Ok.ite (fun hc => ?_) (fun hc => ?_)
      · rw [hc]; exact Ok.some rfl
      rw [hc]
      simp only [cond_true, cond_false]
      refine (Ok.roundsD (P := fun (v : (Unit × Int × Unit) × Unit) r => r = firstE d.Turns v.1.2.1.toNat (d.Turns.length - v.1.2.1.toNat)) (fun (v : (Unit × Int × Unit) × Unit) => ∃ i : Nat, v.1.2.1 = (i : Int) ∧ i ≤ d.Turns.length) (fun (v : (Unit × Int × Unit) × Unit) => (d.Turns.length - v.1.2.1).toNat) ?_ ⟨0, rfl, by omega⟩ ?_)
      · simp only; unfold FUEL; omega
      rintro ⟨⟨u1, x, u2⟩, u3⟩ kn ⟨i, h3, h4⟩ hk
      simp only at h3 h4 hk ⊢
      subst h3
      unfold rCheck_L8
      refine Ok.ite (fun hc => ?_) (fun hc => ?_)
      · have hi := of_decide_eq_true hc
        rw [Int.toNat_natCast]
        refine turnsLoop (kn := fun y => kn (((), y, ()), ())) rCheckSpan_any (by omega) hl ?_
        have := hk (((), (i : Int) + 1, ()), ()) ⟨i + 1, by simp, by omega⟩ (by simp only; omega)
        simp only at this
        rw [show ((i : Int) + 1).toNat = i + 1 by omega] at this
        exact this
      · have hi := of_decide_eq_false hc
        rw [Int.toNat_natCast, show d.Turns.length - i = 0 by omega]
        exact Ok.some rfl
theorem spanE_zero {x : Span} (h : spanE x = 0) : 0 ≤ x.Lo ∧ x.Lo ≤ x.Hi ∧ x.Hi ≤ 3000 := by
  unfold spanE at h
  cases h1 : inB x.Lo 0 3000 with
  | false => rw [h1] at h; cases h
  | true =>
    cases h2 : inB x.Hi 0 3000 with
    | false => rw [h1, h2] at h; cases h
    | true =>
      cases h3 : decide (x.Lo > x.Hi) with
      | true => rw [h1, h2, h3] at h; cases h
      | false =>
        have a := inB_iff.1 h1
        have b := inB_iff.1 h2
        have c := of_decide_eq_false h3
        omega
theorem turnE_zero {l : List Turn} {i : Nat} (h : turnE l i = 0) : TV (l.getD i dfltTurn) ∧ (l.getD i dfltTurn).To.Hi ≤ 3000 ∧ (0 < i → (l.getD (i - 1) dfltTurn).To.Hi ≤ (l.getD i dfltTurn).From.Lo) := by
  unfold turnE at h
  cases h1 : spanE (l.getD i dfltTurn).From != 0 with
  | true => rw [h1] at h; simp only [cond_true] at h; rw [h] at h1; cases h1
  | false =>
    cases h2 : spanE (l.getD i dfltTurn).To != 0 with
    | true => rw [h1, h2] at h; simp only [cond_true, cond_false] at h; rw [h] at h2; cases h2
    | false =>
      have a := spanE_zero (x := (l.getD i dfltTurn).From) (by simpa using h1)
      have b := spanE_zero (x := (l.getD i dfltTurn).To) (by simpa using h2)
      rw [h1, h2] at h
      simp only [cond_false] at h
      cases h3 : decide ((l.getD i dfltTurn).From.Hi > (l.getD i dfltTurn).To.Lo) with
      | true => rw [h3] at h; cases h
      | false =>
        rw [h3] at h
        simp only [cond_false] at h
        have c := of_decide_eq_false h3
        refine ⟨by simp only [TV]; omega, by omega, fun hp => ?_⟩
        rw [decide_eq_true hp, Bool.true_and] at h
        cases h4 : decide ((l.getD i dfltTurn).From.Lo < (l.getD (i - 1) dfltTurn).To.Hi) with
        | true => rw [h4] at h; cases h
        | false => have := of_decide_eq_false h4; omega
theorem checkE_ok {d : Driver} (hs : d.Name.size ≤ 1000) (h : checkE d = 0) : DOk d := by
  unfold checkE at h
  cases hn : nameB d.Name with
  | false => rw [hn] at h; cases h
  | true =>
    cases hk : inB d.Skills 0 255 with
    | false => rw [hn, hk] at h; cases h
    | true =>
      cases hc : decide ((d.Turns.length : Int) > 20) with
      | true => rw [hn, hk, hc] at h; cases h
      | false =>
        rw [hn, hk, hc] at h
        simp only [cond_true, cond_false] at h
        have hl := of_decide_eq_false hc
        have ht : ∀ i, i < d.Turns.length → turnE d.Turns i = 0 := fun i hi => firstE_zero h i (by omega) (by omega)
        unfold nameB at hn
        simp only [Bool.and_eq_true, decide_eq_true_eq] at hn
        obtain ⟨⟨n1, n2⟩, n3⟩ := hn
        refine ⟨⟨n1, n2, _, trim_any _ hs, by rw [trimV_empty]; exact n3⟩, inB_iff.1 hk, by omega, fun t htm => ?_, ?_⟩
        · obtain ⟨i, hi, rfl⟩ := at_of htm
          have := turnE_zero (ht i hi)
          exact ⟨this.1, this.2.1⟩
        · rw [List.pairwise_iff_getElem]
          have key : ∀ (n i : Nat), i + n + 1 < d.Turns.length → (d.Turns.getD i dfltTurn).To.Hi ≤ (d.Turns.getD (i + n + 1) dfltTurn).From.Lo := by
            intro n
            induction n with
            | zero =>
              intro i hi
              have := (turnE_zero (ht (i + 1) (by omega))).2.2 (by omega)
              exact this
            | succ n ih =>
              intro i hi
              have a := ih i (by omega)
              have b := (turnE_zero (ht (i + (n + 1) + 1) (by omega))).2.2 (by omega)
              have c := (turnE_zero (ht (i + n + 1) (by omega))).1
              rw [show i + (n + 1) + 1 - 1 = i + n + 1 by omega] at b
              simp only [TV] at c
              omega
          intro i j hi hj hij
          have := key (j - i - 1) i (by omega)
          rw [show i + (j - i - 1) + 1 = j by omega] at this
          rw [List.getD_eq_getElem?_getD, List.getD_eq_getElem?_getD, List.getElem?_eq_getElem hi, List.getElem?_eq_getElem hj] at this
          exact this
/-- The error of rules and of a driver. -/
def bothE (u : Rules) (d : Driver) : Int := bif rulesB u then checkE d else 2
theorem checkShift_any (u : Rules) (d : Driver) (hs : d.Name.size ≤ 1000) (hl : d.Turns.length ≤ 1000) : checkShift u d = some (bothE u d) := by
  rw [checkShift_eq]; unfold checkShift' bothE
  rw [pCheckRules_any, pCheck_any d hs hl]
  cases rulesB u <;> rfl
theorem checkBoth_any (u : Rules) (d : Driver) (hs : d.Name.size ≤ 1000) (hl : d.Turns.length ≤ 1000) : checkBoth u d = some (bothE u d) := by
  rw [checkBoth_eq]; unfold checkBoth' bothE
  rw [rCheckRules_any, rCheck_any d hs hl]
  cases rulesB u <;> rfl
theorem bothE_ok {u : Rules} {d : Driver} (hs : d.Name.size ≤ 1000) (h : bothE u d = 0) : RulesIn u ∧ DOk d := by
  unfold bothE at h
  cases hr : rulesB u with
  | false => rw [hr] at h; cases h
  | true => rw [hr] at h; exact ⟨rulesB_in hr, checkE_ok hs h⟩
end Go.Proofs.Crew


/- The crew: for how long, and when again. -/
namespace Go.Proofs.Crew
open Go Go.Ab
set_option linter.all false
end Go.Proofs.Crew


/- The crew: the reference's minutes, its first broken minute, its verdict. -/
namespace Go.Proofs.Crew
open Go Go.Ab
set_option linter.all false
/-- Turns within the clock. -/
def LV (l : List Turn) : Prop := l.length ≤ 1000 ∧ ∀ t ∈ l, TV t ∧ t.To.Hi ≤ 3000
def IsD (D : Int → Bool) (l : List Bool) : Prop := l.length = 3000 ∧ ∀ k : Nat, k < 3000 → l.getD k false = D (k : Int)
theorem getD_set {l : List Bool} {i k : Nat} (hi : i < l.length) : (l.set i true).getD k false = (decide (k = i) || l.getD k false) := by
  rw [List.getD_eq_getElem?_getD, List.getD_eq_getElem?_getD]
  by_cases e : k = i
  · subst e; rw [List.getElem?_set_self hi]; simp
  · rw [List.getElem?_set_ne (fun h => e h.symm)]; simp [e]
theorem minLoop {f t i : Int} {D : Int → Bool} {out0 : List Bool} (h0 : IsD D out0) (f0 : 0 ≤ f) (t0 : t ≤ 3000) {Q : List Bool → Prop}
    {kn_ : (List Bool) → Int → Option (List Bool)}
    (hk : ∀ out, IsD (fun m => D m || (decide (f ≤ m) && decide (m < t))) out → Ok Q (kn_ out i))
    {F : ((List Bool × Int × Unit) × Unit) → (((List Bool × Int × Unit) × Unit) → Option (List Bool)) → Option (List Bool)}
    (hF : ∀ out m kn, F ((out, m, ()), ()) kn = bif (decide (m < t)) then chk (decide (0 ≤ m) && decide (m < (out.length : Int))) <| chk (decide (m.toNat < out.length)) <| kn ((out.set m.toNat true, w64 (m + 1), ()), ()) else kn_ out i) :
    Ok Q (itN _ F ((out0, f, ()), ())) := by
  refine Ok.rounds (fun v => f ≤ v.1.2.1 ∧ (v.1.2.1 ≤ t ∨ v.1.2.1 = f) ∧ IsD (fun m => D m || (decide (f ≤ m) && decide (m < v.1.2.1))) v.1.1) (fun v => (t - v.1.2.1).toNat) ?_ ⟨Int.le_refl _, .inr rfl, h0.1, fun k hk => ?_⟩ ?_
  · simp only; unfold FUEL; omega
  · rw [h0.2 k hk]
    simp only
    have : (decide (f ≤ (k : Int)) && decide ((k : Int) < f)) = false := by rw [← Bool.decide_and]; exact decide_eq_false (by omega)
    rw [this, Bool.or_false]
  rintro ⟨⟨out, m, u1⟩, u2⟩ kn ⟨h1, h2, h3, h4⟩ hk'
  simp only at h1 h2 h3 h4 hk' ⊢
  rw [hF]
  refine Ok.ite (fun hc => ?_) (fun hc => ?_)
  · have hc := of_decide_eq_true hc
    refine Ok.chk (by simp; omega) (Ok.chk (decide_eq_true (by omega)) ?_)
    rw [w64_id (n := m + 1) (by omega) (by omega)]
    refine hk' ((out.set m.toNat true, m + 1, ()), ()) ⟨by simp only; omega, .inl (by simp only; omega), by simp only [List.length_set]; exact h3, fun k hk => ?_⟩ (by simp only; omega)
    simp only
    rw [getD_set (by omega), h4 k hk]
    by_cases e : k = m.toNat
    · have e1 : decide (k = m.toNat) = true := decide_eq_true e
      have e2 : (decide (f ≤ (k : Int)) && decide ((k : Int) < m + 1)) = true := by simp; omega
      rw [e1, e2, Bool.true_or, Bool.or_true]
    · have e1 : decide (k = m.toNat) = false := decide_eq_false e
      have e2 : decide ((k : Int) < m + 1) = decide ((k : Int) < m) := by rw [decide_eq_decide]; omega
      rw [e1, e2, Bool.false_or]
  · have hc := of_decide_eq_false hc
    refine hk out ⟨h3, fun k hk => ?_⟩
    rw [h4 k hk]
    simp only
    congr 1
    rw [← Bool.decide_and, ← Bool.decide_and, decide_eq_decide]
    omega
theorem Minutes_sp {l : List Turn} (hl : LV l) (long : Bool) : Ok (IsD (drv (bif long then turnsL l else turnsS l))) (Minutes l long) := by
  obtain ⟨hn, hv⟩ := hl
  rw [Minutes_eq]
  unfold Minutes'
  refine Ok.chk (by unfold fitM; decide) ?_
  refine Ok.rounds (fun v => ∃ i : Nat, v.1.2.1 = (i : Int) ∧ i ≤ l.length ∧ IsD (drv ((bif long then turnsL l else turnsS l).take i)) v.1.1) (fun v => (l.length - v.1.2.1).toNat) ?_ ⟨0, rfl, by omega, List.length_replicate, fun k hk => ?_⟩ ?_
  · simp only; unfold FUEL; omega
  · rw [List.getD_eq_getElem?_getD, List.getElem?_replicate]
    simp [hk, drv]
  rintro ⟨⟨out, x, u1⟩, u2⟩ kn ⟨i, h1, h2, h3⟩ hk
  simp only at h1 h2 h3 hk ⊢
  subst h1
  unfold Minutes_L3
  refine Ok.ite (fun hc => ?_) (fun hc => ?_)
  · have hi : i < l.length := by have := of_decide_eq_true hc; omega
    have hb := ib (i := (i : Int)) (n := l.length) (by omega) (by omega)
    obtain ⟨⟨t0, t1, t2, t4⟩, t3⟩ := hv _ (getD_mem (d := dfltTurn) (l := l) (i := i) hi)
    have e1 : w64 ((i : Int) + 1) = (i : Int) + 1 := w64_id (by omega) (by omega)
    refine Ok.chk hb (Ok.chk hb ?_)
    refine Ok.ite (fun hlong => ?_) (fun hlong => ?_)
    · subst hlong
      refine Ok.chk hb (Ok.chk hb ?_)
      simp only [cond_true, Int.toNat_natCast] at h3 hk ⊢
      refine minLoop (D := drv ((turnsL l).take i)) (f := (l.getD i dfltTurn).From.Lo) (t := (l.getD i dfltTurn).To.Hi) (i := w64 ((i : Int) + 1)) (kn_ := fun y0 y1 => kn ((y0, y1, ()), ())) h3 t0 t3 (fun out' ho => ?_) (fun _ _ _ => rfl)
      rw [e1]
      refine hk ((out', (i : Int) + 1, ()), ()) ⟨i + 1, by simp, by omega, ho.1, fun k hk => ?_⟩ (by simp only; omega)
      rw [ho.2 k hk, drv_take _ _ _ (by simpa [turnsL] using hi)]
      have e : (turnsL l).getD i (0, 0) = ((l.getD i dfltTurn).From.Lo, (l.getD i dfltTurn).To.Hi) := by
        simp [turnsL, List.getD_eq_getElem?_getD, List.getElem?_eq_getElem hi]
      rw [e]
    · subst hlong
      simp only [cond_false, Int.toNat_natCast] at h3 hk ⊢
      refine minLoop (D := drv ((turnsS l).take i)) (f := (l.getD i dfltTurn).From.Hi) (t := (l.getD i dfltTurn).To.Lo) (i := w64 ((i : Int) + 1)) (kn_ := fun y0 y1 => kn ((y0, y1, ()), ())) h3 (by omega) (by omega) (fun out' ho => ?_) (fun _ _ _ => rfl)
      rw [e1]
      refine hk ((out', (i : Int) + 1, ()), ()) ⟨i + 1, by simp, by omega, ho.1, fun k hk => ?_⟩ (by simp only; omega)
      rw [ho.2 k hk, drv_take _ _ _ (by simpa [turnsS] using hi)]
      have e : (turnsS l).getD i (0, 0) = ((l.getD i dfltTurn).From.Hi, (l.getD i dfltTurn).To.Lo) := by
        simp [turnsS, List.getD_eq_getElem?_getD, List.getElem?_eq_getElem hi]
      rw [e]
  · have hi : i = l.length := by have := of_decide_eq_false hc; omega
    subst hi
    refine Ok.some ⟨h3.1, fun k hk => ?_⟩
    rw [h3.2 k hk]
    have e : (bif long then turnsL l else turnsS l).take l.length = bif long then turnsL l else turnsS l := by
      refine List.take_of_length_le ?_
      cases long <;> simp [turnsL, turnsS]
    rw [e]
theorem over_pred {l : List Int} (hl : l.Pairwise (· < ·)) (t : Int) : (over l (t - 1)).length = (over l t).length + (if t ∈ l then 1 else 0) := by
  induction l with
  | nil => simp [over]
  | cons a l ih =>
    rw [List.pairwise_cons] at hl
    have ih := ih hl.2
    simp only [over, List.filter_cons] at ih ⊢
    by_cases h1 : a < t
    · have e1 : decide (t - 1 < a) = false := decide_eq_false (by omega)
      have e2 : decide (t < a) = false := decide_eq_false (by omega)
      have e3 : (t ∈ a :: l) ↔ t ∈ l := by rw [List.mem_cons]; exact ⟨fun h => h.resolve_left (by omega), .inr⟩
      simp only [e1, e2, e3]
      simpa using ih
    · by_cases h2 : a = t
      · subst h2
        have e1 : decide (a - 1 < a) = true := decide_eq_true (by omega)
        have e2 : decide (a < a) = false := decide_eq_false (by omega)
        have hn : ¬ a ∈ l := fun h => by have := hl.1 a h; omega
        rw [if_neg hn] at ih
        simp only [e1, e2, List.mem_cons, true_or, if_true]
        simp only [List.length_cons]
        simpa using ih
      · have e1 : decide (t - 1 < a) = true := decide_eq_true (by omega)
        have e2 : decide (t < a) = true := decide_eq_true (by omega)
        have e3 : (t ∈ a :: l) ↔ t ∈ l := by rw [List.mem_cons]; exact ⟨fun h => h.resolve_left (by omega), .inr⟩
        simp only [e1, e2, e3, if_true, List.length_cons]
        omega
theorem mem_dlist {D : Int → Bool} {m : Nat} {k : Int} : k ∈ dlist D m ↔ 0 ≤ k ∧ k < m ∧ D k = true := by
  unfold dlist
  simp only [List.mem_map, List.mem_filter, List.mem_range]
  constructor
  · rintro ⟨n, ⟨h1, h2⟩, rfl⟩
    exact ⟨by omega, by omega, h2⟩
  · rintro ⟨h1, h2, h3⟩
    obtain ⟨n, rfl⟩ := Int.eq_ofNat_of_zero_le h1
    exact ⟨n, ⟨by omega, h3⟩, rfl⟩
theorem over_le (l : List Int) (t : Int) : (over l t).length ≤ l.length := List.length_filter_le _ _
theorem Broken_sp {u : Rules} {dr : List Bool} {D : Int → Bool} (hd : IsD D dr) (hu : RulesIn u) : Broken u dr = some (firstB u D 0 3000) := by
  obtain ⟨hl, hg⟩ := hd
  obtain ⟨_, _, hr1, hr2, hd1, hd2, _, _⟩ := hu
  apply ok_eq
  rw [Broken_eq]
  unfold Broken'
  refine (Ok.roundsD (P := fun (v : (Unit × Int × Int × Int × Int × Unit) × Unit) r => r = firstB u D v.1.2.2.2.2.1.toNat (3000 - v.1.2.2.2.2.1.toNat)) (fun (v : (Unit × Int × Int × Int × Int × Unit) × Unit) => ∃ m : Nat, v.1.2.2.2.2.1 = (m : Int) ∧ m ≤ 3000 ∧ v.1.2.1 = (stS u.Rest D m).1 ∧ v.1.2.2.1 = (stS u.Rest D m).2 ∧ v.1.2.2.2.1 = ((over (dlist D m) ((m : Int) - u.Day - 1)).length : Int)) (fun (v : (Unit × Int × Int × Int × Int × Unit) × Unit) => (3000 - v.1.2.2.2.2.1).toNat) ?_ ⟨0, rfl, by omega, rfl, rfl, rfl⟩ ?_)
  · simp only; unfold FUEL; decide
  rintro ⟨⟨u1, run, idle, window, x, u2⟩, u3⟩ kn ⟨m, h1, h2, h3, h4, h5⟩ hk
  simp only at h1 h2 h3 h4 h5 hk ⊢
  subst h1
  unfold Broken_L3
  rw [hl]
  have hst := stS_bnd u.Rest D m
  rw [Int.toNat_natCast]
  refine Ok.ite (fun hc => ?_) (fun hc => ?_)
  · have hm : m < 3000 := by have := of_decide_eq_true hc; omega
    have e1 : w64 ((m : Int) + 1) = (m : Int) + 1 := w64_id (by omega) (by omega)
    have e2 : w64 (idle + 1) = idle + 1 := w64_id (by omega) (by omega)
    have e3 : w64 (run + 1) = run + 1 := w64_id (by omega) (by omega)
    have hW := over_pred (dlist_srt D m) ((m : Int) - u.Day)
    have hle := over_le (dlist D m) ((m : Int) - u.Day)
    have hle1 := over_le (dlist D m) ((m : Int) - u.Day - 1)
    have hdl := dlist_len D m
    have hn : 3000 - m = (3000 - (m + 1)) + 1 := by omega
    have rest : ∀ w : Int, w = ((over (dlist D m) ((m : Int) - u.Day)).length : Int) → Ok (fun r => r = firstB u D m (3000 - m))
        (chk (decide (0 ≤ (m : Int)) && decide ((m : Int) < ((3000 : Nat) : Int))) <|
        bif (!(dr.getD m false)) then
          bif (decide ((w64 (idle + 1)) ≥ u.Rest)) then kn (((), 0, w64 (idle + 1), w, w64 ((m : Int) + 1), ()), ())
          else kn (((), run, w64 (idle + 1), w, w64 ((m : Int) + 1), ()), ())
        else bif (decide ((w64 (run + 1)) > u.Drive)) then some (1, (m : Int))
          else bif (decide ((w64 (w + 1)) > u.Most)) then some (2, (m : Int))
            else kn (((), w64 (run + 1), 0, w64 (w + 1), w64 ((m : Int) + 1), ()), ())) := fun w hw => by
      have ew : w64 (w + 1) = w + 1 := w64_id (by omega) (by omega)
      rw [e1, e2, e3, ew, hg m hm, hn]
      refine Ok.chk (by simp; omega) ?_
      have go : ∀ run' idle' w', run' = (stS u.Rest D (m + 1)).1 → idle' = (stS u.Rest D (m + 1)).2 → w' = ((over (dlist D (m + 1)) ((m : Int) - u.Day)).length : Int) → brkAt u D m = 0 →
          Ok (fun r => r = firstB u D m ((3000 - (m + 1)) + 1)) (kn (((), run', idle', w', (m : Int) + 1, ()), ())) := fun run' idle' w' q1 q2 q3 q4 => by
        have hk2 := hk (((), run', idle', w', (m : Int) + 1, ()), ()) ⟨m + 1, by simp, by omega, q1, q2, by
          simp only
          rw [q3, show ((m + 1 : Nat) : Int) - u.Day - 1 = (m : Int) - u.Day by omega]⟩ (by simp only; omega)
        simp only at hk2
        rw [show ((m : Int) + 1).toNat = m + 1 by omega] at hk2
        simp only [firstB, q4]
        exact hk2
      cases hD : D (m : Int) with
      | false =>
        have hb : brkAt u D m = 0 := by unfold brkAt; rw [hD]; rfl
        have hdl2 : dlist D (m + 1) = dlist D m := by rw [dlist_succ, hD]; rfl
        refine Ok.yes rfl ?_
        refine Ok.ite (fun h6 => ?_) (fun h6 => ?_)
        · rw [h4] at h6
          exact go _ _ _ (by simp only [stS, hD, cond_false, h6, cond_true]) (by simp only [stS, hD, cond_false, h6, cond_true, h4]) (by rw [hdl2]; exact hw) hb
        · rw [h4] at h6
          exact go _ _ _ (by simp only [stS, hD, cond_false, h6, h3]) (by simp only [stS, hD, cond_false, h6, h4]) (by rw [hdl2]; exact hw) hb
      | true =>
        have hdl2 : dlist D (m + 1) = dlist D m ++ [(m : Int)] := by rw [dlist_succ, hD]; rfl
        have hov : ((over (dlist D (m + 1)) ((m : Int) - u.Day)).length : Int) = w + 1 := by
          rw [hdl2, over_snoc, if_pos (by omega), List.length_append, hw]; simp
        refine Ok.no rfl ?_
        refine Ok.ite (fun h6 => ?_) (fun h6 => ?_)
        · have hb : brkAt u D m = 1 := by unfold brkAt; rw [hD]; simp only [cond_true]; rw [h3] at h6; rw [h6]; rfl
          refine Ok.some ?_
          simp only [firstB, hb]; rfl
        · refine Ok.ite (fun h7 => ?_) (fun h7 => ?_)
          · have hb : brkAt u D m = 2 := by
              unfold brkAt wnd
              rw [hD, hov]; simp only [cond_true]; rw [h3] at h6; rw [h6, h7]; rfl
            refine Ok.some ?_
            simp only [firstB, hb]; rfl
          · have hb : brkAt u D m = 0 := by
              unfold brkAt wnd
              rw [hD, hov]; simp only [cond_true]; rw [h3] at h6; rw [h6, h7]; rfl
            exact go _ _ _ (by simp only [stS, hD, cond_true, h3]) (by simp only [stS, hD, cond_true]) hov.symm hb
    refine Ok.ite (fun h6 => ?_) (fun h6 => ?_)
    · have h6 := of_decide_eq_true h6
      have e5 : w64 ((m : Int) - u.Day) = (m : Int) - u.Day := w64_id (by omega) (by omega)
      obtain ⟨j, hj⟩ := Int.eq_ofNat_of_zero_le (show 0 ≤ (m : Int) - u.Day by omega)
      rw [e5, hj, Int.toNat_natCast]
      refine Ok.chk (by simp; omega) ?_
      rw [hg j (by omega)]
      have hmem : ((m : Int) - u.Day ∈ dlist D m) ↔ D (j : Int) = true := by
        rw [mem_dlist, hj]; exact ⟨fun h => h.2.2, fun h => ⟨by omega, by omega, h⟩⟩
      refine Ok.ite (fun h7 => ?_) (fun h7 => ?_)
      · rw [if_pos (hmem.2 h7)] at hW
        have e6 : w64 (window - 1) = window - 1 := w64_id (by omega) (by omega)
        rw [e6]
        exact rest _ (by omega)
      · rw [if_neg (fun h => by have := hmem.1 h; rw [h7] at this; cases this)] at hW
        exact rest _ (by omega)
    · have h6 := of_decide_eq_false h6
      rw [if_neg (fun h => by have := (mem_dlist.1 h).1; omega)] at hW
      exact rest _ (by omega)
  · have hm : m = 3000 := by have := of_decide_eq_false hc; omega
    subst hm
    exact Ok.some rfl
theorem rVerdict_sp {u : Rules} (d : Driver) (hl : LV d.Turns) (hu : RulesIn u) : rVerdict u d.Turns = some (verdictS u d) := by
  obtain ⟨r1, h1, i1⟩ := Minutes_sp hl true
  obtain ⟨r2, h2, i2⟩ := Minutes_sp hl false
  rw [rVerdict_eq]
  unfold rVerdict' verdictS DL DS
  simp only [cond_true, cond_false] at i1 i2
  rw [h1, h2]
  simp only [Option.bind_some]
  rw [Broken_sp i1 hu, Broken_sp i2 hu]
  simp only [Option.bind_some]
  cases (firstB u (drv (turnsL d.Turns)) 0 3000).1 == 0 <;> simp only [cond_true, cond_false]
  cases (firstB u (drv (turnsS d.Turns)) 0 3000).1 != 0 <;> rfl
end Go.Proofs.Crew


/- The crew: may, for how long, when again: the program's answers are the reference's. -/
namespace Go.Proofs.Crew
open Go Go.Ab
set_option linter.all false
end Go.Proofs.Crew


/- The crew, part 7: turns. Written out by gen2.py (ours). -/
namespace Go.Proofs.Crew
open Go Go.Ab
open Go.Proofs.YthmgcjmoiilggaaDoor (iseat)
set_option linter.all false
set_option maxRecDepth 100000
noncomputable section
def CrewTurns_L20 (d : Driver) (r5 : (Seed × Driver)) (i : Int) (kn_ : Int → Option Bool) (n : Int) (given_Name : ByteArray) (given_Skills : Int) (kn_2 : Int → ByteArray → Int → Option Bool) : Option Bool :=
  bif (decide (n < ((([] : List Turn) ++ (([d, r5.2, r5.2] : List Driver).getD i.toNat dfltDriver).Turns).length : Int))) then
    chk (decide (0 ≤ n) && decide (n < ((([] : List Turn) ++ (([d, r5.2, r5.2] : List Driver).getD i.toNat dfltDriver).Turns).length : Int))) <|
    chk (decide (n.toNat < (([] : List Turn) ++ (([d, r5.2, r5.2] : List Driver).getD i.toNat dfltDriver).Turns).length)) <|
    chk (decide (0 ≤ i) && decide (i < (([d, r5.2, r5.2] : List Driver).length : Int))) <|
    chk (decide (i.toNat < ([d, r5.2, r5.2] : List Driver).length)) <|
    chk (decide (0 ≤ n) && decide (n < (((([d, r5.2, r5.2] : List Driver).getD i.toNat dfltDriver).Turns).length : Int))) <|
    bif (!(decide (((([] : List Turn) ++ (([d, r5.2, r5.2] : List Driver).getD i.toNat dfltDriver).Turns).getD n.toNat dfltTurn).From.Lo = (((([d, r5.2, r5.2] : List Driver).getD i.toNat dfltDriver).Turns).getD n.toNat dfltTurn).From.Lo) && (decide (((([] : List Turn) ++ (([d, r5.2, r5.2] : List Driver).getD i.toNat dfltDriver).Turns).getD n.toNat dfltTurn).From.Hi = (((([d, r5.2, r5.2] : List Driver).getD i.toNat dfltDriver).Turns).getD n.toNat dfltTurn).From.Hi) && (decide (((([] : List Turn) ++ (([d, r5.2, r5.2] : List Driver).getD i.toNat dfltDriver).Turns).getD n.toNat dfltTurn).To.Lo = (((([d, r5.2, r5.2] : List Driver).getD i.toNat dfltDriver).Turns).getD n.toNat dfltTurn).To.Lo) && (decide (((([] : List Turn) ++ (([d, r5.2, r5.2] : List Driver).getD i.toNat dfltDriver).Turns).getD n.toNat dfltTurn).To.Hi = (((([d, r5.2, r5.2] : List Driver).getD i.toNat dfltDriver).Turns).getD n.toNat dfltTurn).To.Hi) && true))))) then
      some false
    else
      kn_2 (w64 (n + 1)) given_Name given_Skills
  else
    kn_ (w64 (i + 1))
def CrewTurns_L7 (it : It Bool) (u : Rules) (r4 : (Seed × Rules)) (d : Driver) (r5 : (Seed × Driver)) (at_ : Int) (r6 : (Seed × Int)) (long : Int) (r7 : (Seed × Int)) (i : Int) (kn_ : Int → Option Bool) : Option Bool :=
  bif (decide (i < (([u, r4.2, r4.2] : List Rules).length : Int))) then
    chk (decide (0 ≤ i) && decide (i < (([d, r5.2, r5.2] : List Driver).length : Int))) <|
    chk (decide (i.toNat < ([d, r5.2, r5.2] : List Driver).length)) <|
    chk (decide (0 ≤ i) && decide (i < (([d, r5.2, r5.2] : List Driver).length : Int))) <|
    chk (decide (i.toNat < ([d, r5.2, r5.2] : List Driver).length)) <|
    chk (fitA (([] : List Turn).length + ((([d, r5.2, r5.2] : List Driver).getD i.toNat dfltDriver).Turns).length) 32) <|
    chk (decide (0 ≤ i) && decide (i < (([u, r4.2, r4.2] : List Rules).length : Int))) <|
    chk (decide (i.toNat < ([u, r4.2, r4.2] : List Rules).length)) <|
    chk (decide (0 ≤ i) && decide (i < ([at_, r6.2, at_].length : Int))) <|
    chk (decide (i.toNat < [at_, r6.2, at_].length)) <|
    chk (decide (0 ≤ i) && decide (i < ([long, r7.2, long].length : Int))) <|
    chk (decide (i.toNat < [long, r7.2, long].length)) <|
    (pMay (([u, r4.2, r4.2] : List Rules).getD i.toNat dfltRules) (⟨(([d, r5.2, r5.2] : List Driver).getD i.toNat dfltDriver).Name, (([d, r5.2, r5.2] : List Driver).getD i.toNat dfltDriver).Skills, (([] : List Turn) ++ (([d, r5.2, r5.2] : List Driver).getD i.toNat dfltDriver).Turns)⟩ : Driver) ([at_, r6.2, at_].getD i.toNat 0) ([long, r7.2, long].getD i.toNat 0)).bind fun r8 =>
    chk (decide (0 ≤ i) && decide (i < (([u, r4.2, r4.2] : List Rules).length : Int))) <|
    chk (decide (i.toNat < ([u, r4.2, r4.2] : List Rules).length)) <|
    chk (decide (0 ≤ i) && decide (i < (([d, r5.2, r5.2] : List Driver).length : Int))) <|
    chk (decide (i.toNat < ([d, r5.2, r5.2] : List Driver).length)) <|
    chk (decide (0 ≤ i) && decide (i < ([at_, r6.2, at_].length : Int))) <|
    chk (decide (i.toNat < [at_, r6.2, at_].length)) <|
    chk (decide (0 ≤ i) && decide (i < ([long, r7.2, long].length : Int))) <|
    chk (decide (i.toNat < [long, r7.2, long].length)) <|
    (rMay2 (([u, r4.2, r4.2] : List Rules).getD i.toNat dfltRules) (([d, r5.2, r5.2] : List Driver).getD i.toNat dfltDriver) ([at_, r6.2, at_].getD i.toNat 0) ([long, r7.2, long].getD i.toNat 0)).bind fun r9 =>
    chk (decide (0 ≤ i) && decide (i < (([u, r4.2, r4.2] : List Rules).length : Int))) <|
    chk (decide (i.toNat < ([u, r4.2, r4.2] : List Rules).length)) <|
    chk (decide (0 ≤ i) && decide (i < ([at_, r6.2, at_].length : Int))) <|
    chk (decide (i.toNat < [at_, r6.2, at_].length)) <|
    (pLeft (([u, r4.2, r4.2] : List Rules).getD i.toNat dfltRules) (⟨(([d, r5.2, r5.2] : List Driver).getD i.toNat dfltDriver).Name, (([d, r5.2, r5.2] : List Driver).getD i.toNat dfltDriver).Skills, (([] : List Turn) ++ (([d, r5.2, r5.2] : List Driver).getD i.toNat dfltDriver).Turns)⟩ : Driver) ([at_, r6.2, at_].getD i.toNat 0)).bind fun r10 =>
    chk (decide (0 ≤ i) && decide (i < (([u, r4.2, r4.2] : List Rules).length : Int))) <|
    chk (decide (i.toNat < ([u, r4.2, r4.2] : List Rules).length)) <|
    chk (decide (0 ≤ i) && decide (i < (([d, r5.2, r5.2] : List Driver).length : Int))) <|
    chk (decide (i.toNat < ([d, r5.2, r5.2] : List Driver).length)) <|
    chk (decide (0 ≤ i) && decide (i < ([at_, r6.2, at_].length : Int))) <|
    chk (decide (i.toNat < [at_, r6.2, at_].length)) <|
    (rLeft (([u, r4.2, r4.2] : List Rules).getD i.toNat dfltRules) (([d, r5.2, r5.2] : List Driver).getD i.toNat dfltDriver) ([at_, r6.2, at_].getD i.toNat 0)).bind fun r11 =>
    chk (decide (0 ≤ i) && decide (i < (([u, r4.2, r4.2] : List Rules).length : Int))) <|
    chk (decide (i.toNat < ([u, r4.2, r4.2] : List Rules).length)) <|
    chk (decide (0 ≤ i) && decide (i < ([at_, r6.2, at_].length : Int))) <|
    chk (decide (i.toNat < [at_, r6.2, at_].length)) <|
    chk (decide (0 ≤ i) && decide (i < ([long, r7.2, long].length : Int))) <|
    chk (decide (i.toNat < [long, r7.2, long].length)) <|
    (pNext (([u, r4.2, r4.2] : List Rules).getD i.toNat dfltRules) (⟨(([d, r5.2, r5.2] : List Driver).getD i.toNat dfltDriver).Name, (([d, r5.2, r5.2] : List Driver).getD i.toNat dfltDriver).Skills, (([] : List Turn) ++ (([d, r5.2, r5.2] : List Driver).getD i.toNat dfltDriver).Turns)⟩ : Driver) ([at_, r6.2, at_].getD i.toNat 0) ([long, r7.2, long].getD i.toNat 0)).bind fun r12 =>
    chk (decide (0 ≤ i) && decide (i < (([u, r4.2, r4.2] : List Rules).length : Int))) <|
    chk (decide (i.toNat < ([u, r4.2, r4.2] : List Rules).length)) <|
    chk (decide (0 ≤ i) && decide (i < (([d, r5.2, r5.2] : List Driver).length : Int))) <|
    chk (decide (i.toNat < ([d, r5.2, r5.2] : List Driver).length)) <|
    chk (decide (0 ≤ i) && decide (i < ([at_, r6.2, at_].length : Int))) <|
    chk (decide (i.toNat < [at_, r6.2, at_].length)) <|
    chk (decide (0 ≤ i) && decide (i < ([long, r7.2, long].length : Int))) <|
    chk (decide (i.toNat < [long, r7.2, long].length)) <|
    (rNext (([u, r4.2, r4.2] : List Rules).getD i.toNat dfltRules) (([d, r5.2, r5.2] : List Driver).getD i.toNat dfltDriver) ([at_, r6.2, at_].getD i.toNat 0) ([long, r7.2, long].getD i.toNat 0)).bind fun r13 =>
    bif (r8.1 != r9.1) then
      some false
    else
      bif (r8.2 != r9.2) then
        some false
      else
        bif (r10.1 != r11.1) then
          some false
        else
          bif (r10.2 != r11.2) then
            some false
          else
            bif (r12.1 != r13.1) then
              some false
            else
              bif (r12.2 != r13.2) then
                some false
              else
                it _ (fun (v_0 : (Unit × Unit × Unit × Unit × Unit × Int × Unit) × ((ByteArray × Int × Unit × Unit) × Unit)) kn => CrewTurns_L20 d r5 i kn_ v_0.1.2.2.2.2.2.1 v_0.2.1.1 v_0.2.1.2.1 (fun y0 y1 y2 => kn (((), (), (), (), (), y0, ()), ((y1, y2, (), ()), ())))) (((), (), (), (), (), 0, ()), (((([d, r5.2, r5.2] : List Driver).getD i.toNat dfltDriver).Name, (([d, r5.2, r5.2] : List Driver).getD i.toNat dfltDriver).Skills, (), ()), ()))
  else
    (awake).bind fun r14 =>
    some r14
def CrewTurns' (it : It Bool) (u : Rules) (d : Driver) (at_ : Int) (long : Int) (nums : List Int) : Option Bool :=
  (big d).bind fun r =>
  bif r then
    (awake).bind fun r2 =>
    some r2
  else
    (NewSeed nums).bind fun r3 =>
    (RulesOf r3).bind fun r4 =>
    (DriverOf r4.1 (⟨#[97, 110, 110]⟩ : ByteArray) 4).bind fun r5 =>
    (Below r5.1 120).bind fun r6 =>
    (Below r6.1 20).bind fun r7 =>
    it _ (fun (v_0 : (Unit × Unit × Unit × Unit × Int × Unit) × (Unit)) kn => CrewTurns_L7 it u r4 d r5 at_ r6 long r7 v_0.1.2.2.2.2.1 (fun y0 => kn (((), (), (), (), y0, ()), (())))) (((), (), (), (), 0, ()), (()))
def E8 : FEnv iseat := ⟨⟨231, [sp14, sp15, sp31, sp32, sp33, sp34, sp35, sp36], [sp17, sp18, sp20], [sp16], [], [], [], [], [], true⟩, [(7, ⟨⟨[(14, .osr 45), (15, .osr 49), (16, .osr 54), (17, .osr 59), (18, .v (.int .i64))], []⟩, [], [45, 49, 54, 59]⟩), (20, ⟨⟨[(14, .osr 45), (15, .osr 49), (16, .osr 54), (17, .osr 59), (19, .bx 19 0), (32, .v (.int .i64))], [(19, [.v .str, .v (.int .i64), .osr 70])]⟩, [18], [70]⟩)]⟩
theorem e8 (it : It Bool) (u : Rules) (d : Driver) (at_ : Int) (long : Int) (nums : List Int) : fnRun (ts := [.bool]) it E8 (bodyOf Tryd.f8) Tryd.f8.results.toList (encA [.Rules, .Driver, .int .i64, .int .i64, .sl (.int .i64)] (u, d, at_, long, nums, ())) = CrewTurns' it u d at_ long nums := by kernel_rfl
end
end Go.Proofs.Crew


/- The crew: a driver made of numbers, its turns handed back as a slice that the caller may write. -/
namespace Go.Proofs.Crew
open Go Go.Ab
open Go.Proofs.YthmgcjmoiilggaaDoor (iseat)
set_option linter.all false
set_option maxRecDepth 100000
noncomputable section
theorem e18o (it : It (Seed × Driver)) (s : Seed) (name : ByteArray) (n : Int) : fnRunRO (bt := .Seed) .Driver 2 30 .Turn it E18 (bodyOf Tryd.f18) Tryd.f18.results.toList (encC .Seed s) (encA [.str, .int .i64] (name, n, ())) = DriverOf' it s name n := by kernel_rfl
def sp18o : FnSpecRO iseat.toSeat := mkSpecRO iseat.toSeat 18 .Seed [.str, .int .i64] .Driver 2 30 .Turn (fun b a => DriverOf b a.1 a.2.1) (fun b a y x hx m d hd h => fn_contractRO (Z := iseat) (bt := .Seed) (ats := [.str, .int .i64]) (E := E18) (fn := Tryd.f18) (c := bodyOf Tryd.f18) Tryd.func18 (by kernel_rfl) (by kernel_rfl) (by kernel_rfl) (by kernel_rfl) rfl ((e18o itN b a.1 a.2.1).trans ((DriverOf_eq b a.1 a.2.1).symm.trans hx)) hd h)
end
end Go.Proofs.Crew


/- The crew, part 8: rules and drivers that may be. Written out by gen2.py (ours). -/
namespace Go.Proofs.Crew
open Go Go.Ab
open Go.Proofs.YthmgcjmoiilggaaDoor (iseat)
set_option linter.all false
set_option maxRecDepth 100000
noncomputable section
def CrewLegals_L9 (u : Rules) (r4 : (Seed × Rules)) (d : Driver) (r5 : (Seed × Driver)) (r7 : (Seed × Int)) (t : Turn) (i : Int) (kn_ : Int → Option Bool) : Option Bool :=
  bif (decide (i < (([u, r4.2, r4.2, u] : List Rules).length : Int))) then
    chk (decide (0 ≤ i) && decide (i < (([u, r4.2, r4.2, u] : List Rules).length : Int))) <|
    chk (decide (i.toNat < ([u, r4.2, r4.2, u] : List Rules).length)) <|
    chk (decide (0 ≤ i) && decide (i < (([d, (⟨r5.2.Name, r5.2.Skills, (r5.2.Turns.set r7.2.toNat t)⟩ : Driver), d, (⟨r5.2.Name, r5.2.Skills, (r5.2.Turns.set r7.2.toNat t)⟩ : Driver)] : List Driver).length : Int))) <|
    chk (decide (i.toNat < ([d, (⟨r5.2.Name, r5.2.Skills, (r5.2.Turns.set r7.2.toNat t)⟩ : Driver), d, (⟨r5.2.Name, r5.2.Skills, (r5.2.Turns.set r7.2.toNat t)⟩ : Driver)] : List Driver).length)) <|
    (pLegal (([u, r4.2, r4.2, u] : List Rules).getD i.toNat dfltRules) (([d, (⟨r5.2.Name, r5.2.Skills, (r5.2.Turns.set r7.2.toNat t)⟩ : Driver), d, (⟨r5.2.Name, r5.2.Skills, (r5.2.Turns.set r7.2.toNat t)⟩ : Driver)] : List Driver).getD i.toNat dfltDriver)).bind fun r8 =>
    chk (decide (0 ≤ i) && decide (i < (([u, r4.2, r4.2, u] : List Rules).length : Int))) <|
    chk (decide (i.toNat < ([u, r4.2, r4.2, u] : List Rules).length)) <|
    chk (decide (0 ≤ i) && decide (i < (([d, (⟨r5.2.Name, r5.2.Skills, (r5.2.Turns.set r7.2.toNat t)⟩ : Driver), d, (⟨r5.2.Name, r5.2.Skills, (r5.2.Turns.set r7.2.toNat t)⟩ : Driver)] : List Driver).length : Int))) <|
    chk (decide (i.toNat < ([d, (⟨r5.2.Name, r5.2.Skills, (r5.2.Turns.set r7.2.toNat t)⟩ : Driver), d, (⟨r5.2.Name, r5.2.Skills, (r5.2.Turns.set r7.2.toNat t)⟩ : Driver)] : List Driver).length)) <|
    (rLegal (([u, r4.2, r4.2, u] : List Rules).getD i.toNat dfltRules) (([d, (⟨r5.2.Name, r5.2.Skills, (r5.2.Turns.set r7.2.toNat t)⟩ : Driver), d, (⟨r5.2.Name, r5.2.Skills, (r5.2.Turns.set r7.2.toNat t)⟩ : Driver)] : List Driver).getD i.toNat dfltDriver)).bind fun r9 =>
    chk (decide (0 ≤ i) && decide (i < (([u, r4.2, r4.2, u] : List Rules).length : Int))) <|
    chk (decide (i.toNat < ([u, r4.2, r4.2, u] : List Rules).length)) <|
    (pCheckRules (([u, r4.2, r4.2, u] : List Rules).getD i.toNat dfltRules)).bind fun r10 =>
    chk (decide (0 ≤ i) && decide (i < (([u, r4.2, r4.2, u] : List Rules).length : Int))) <|
    chk (decide (i.toNat < ([u, r4.2, r4.2, u] : List Rules).length)) <|
    (rCheckRules (([u, r4.2, r4.2, u] : List Rules).getD i.toNat dfltRules)).bind fun r11 =>
    bif (r10 != r11) then
      some false
    else
      chk (decide (0 ≤ i) && decide (i < (([d, (⟨r5.2.Name, r5.2.Skills, (r5.2.Turns.set r7.2.toNat t)⟩ : Driver), d, (⟨r5.2.Name, r5.2.Skills, (r5.2.Turns.set r7.2.toNat t)⟩ : Driver)] : List Driver).length : Int))) <|
      chk (decide (i.toNat < ([d, (⟨r5.2.Name, r5.2.Skills, (r5.2.Turns.set r7.2.toNat t)⟩ : Driver), d, (⟨r5.2.Name, r5.2.Skills, (r5.2.Turns.set r7.2.toNat t)⟩ : Driver)] : List Driver).length)) <|
      (pCheck (([d, (⟨r5.2.Name, r5.2.Skills, (r5.2.Turns.set r7.2.toNat t)⟩ : Driver), d, (⟨r5.2.Name, r5.2.Skills, (r5.2.Turns.set r7.2.toNat t)⟩ : Driver)] : List Driver).getD i.toNat dfltDriver)).bind fun r12 =>
      chk (decide (0 ≤ i) && decide (i < (([d, (⟨r5.2.Name, r5.2.Skills, (r5.2.Turns.set r7.2.toNat t)⟩ : Driver), d, (⟨r5.2.Name, r5.2.Skills, (r5.2.Turns.set r7.2.toNat t)⟩ : Driver)] : List Driver).length : Int))) <|
      chk (decide (i.toNat < ([d, (⟨r5.2.Name, r5.2.Skills, (r5.2.Turns.set r7.2.toNat t)⟩ : Driver), d, (⟨r5.2.Name, r5.2.Skills, (r5.2.Turns.set r7.2.toNat t)⟩ : Driver)] : List Driver).length)) <|
      (rCheck (([d, (⟨r5.2.Name, r5.2.Skills, (r5.2.Turns.set r7.2.toNat t)⟩ : Driver), d, (⟨r5.2.Name, r5.2.Skills, (r5.2.Turns.set r7.2.toNat t)⟩ : Driver)] : List Driver).getD i.toNat dfltDriver)).bind fun r13 =>
      bif (r12 != r13) then
        some false
      else
        bif (r8.1 != r9.1) then
          some false
        else
          bif (r8.2.1 != r9.2.1) then
            some false
          else
            bif (r8.2.2.1 != r9.2.2.1) then
              some false
            else
              bif (r8.2.2.2 != r9.2.2.2) then
                some false
              else
                kn_ (w64 (i + 1))
  else
    (awake).bind fun r14 =>
    some r14
def CrewLegals_L9__2 (u : Rules) (r4 : (Seed × Rules)) (d : Driver) (r5 : (Seed × Driver)) (i2 : Int) (kn_2 : Int → Option Bool) : Option Bool :=
  bif (decide (i2 < (([u, r4.2, r4.2, u] : List Rules).length : Int))) then
    chk (decide (0 ≤ i2) && decide (i2 < (([u, r4.2, r4.2, u] : List Rules).length : Int))) <|
    chk (decide (i2.toNat < ([u, r4.2, r4.2, u] : List Rules).length)) <|
    chk (decide (0 ≤ i2) && decide (i2 < (([d, r5.2, d, r5.2] : List Driver).length : Int))) <|
    chk (decide (i2.toNat < ([d, r5.2, d, r5.2] : List Driver).length)) <|
    (pLegal (([u, r4.2, r4.2, u] : List Rules).getD i2.toNat dfltRules) (([d, r5.2, d, r5.2] : List Driver).getD i2.toNat dfltDriver)).bind fun r15 =>
    chk (decide (0 ≤ i2) && decide (i2 < (([u, r4.2, r4.2, u] : List Rules).length : Int))) <|
    chk (decide (i2.toNat < ([u, r4.2, r4.2, u] : List Rules).length)) <|
    chk (decide (0 ≤ i2) && decide (i2 < (([d, r5.2, d, r5.2] : List Driver).length : Int))) <|
    chk (decide (i2.toNat < ([d, r5.2, d, r5.2] : List Driver).length)) <|
    (rLegal (([u, r4.2, r4.2, u] : List Rules).getD i2.toNat dfltRules) (([d, r5.2, d, r5.2] : List Driver).getD i2.toNat dfltDriver)).bind fun r16 =>
    chk (decide (0 ≤ i2) && decide (i2 < (([u, r4.2, r4.2, u] : List Rules).length : Int))) <|
    chk (decide (i2.toNat < ([u, r4.2, r4.2, u] : List Rules).length)) <|
    (pCheckRules (([u, r4.2, r4.2, u] : List Rules).getD i2.toNat dfltRules)).bind fun r17 =>
    chk (decide (0 ≤ i2) && decide (i2 < (([u, r4.2, r4.2, u] : List Rules).length : Int))) <|
    chk (decide (i2.toNat < ([u, r4.2, r4.2, u] : List Rules).length)) <|
    (rCheckRules (([u, r4.2, r4.2, u] : List Rules).getD i2.toNat dfltRules)).bind fun r18 =>
    bif (r17 != r18) then
      some false
    else
      chk (decide (0 ≤ i2) && decide (i2 < (([d, r5.2, d, r5.2] : List Driver).length : Int))) <|
      chk (decide (i2.toNat < ([d, r5.2, d, r5.2] : List Driver).length)) <|
      (pCheck (([d, r5.2, d, r5.2] : List Driver).getD i2.toNat dfltDriver)).bind fun r19 =>
      chk (decide (0 ≤ i2) && decide (i2 < (([d, r5.2, d, r5.2] : List Driver).length : Int))) <|
      chk (decide (i2.toNat < ([d, r5.2, d, r5.2] : List Driver).length)) <|
      (rCheck (([d, r5.2, d, r5.2] : List Driver).getD i2.toNat dfltDriver)).bind fun r20 =>
      bif (r19 != r20) then
        some false
      else
        bif (r15.1 != r16.1) then
          some false
        else
          bif (r15.2.1 != r16.2.1) then
            some false
          else
            bif (r15.2.2.1 != r16.2.2.1) then
              some false
            else
              bif (r15.2.2.2 != r16.2.2.2) then
                some false
              else
                kn_2 (w64 (i2 + 1))
  else
    (awake).bind fun r21 =>
    some r21
def CrewLegals_L9__3 (u : Rules) (r4 : (Seed × Rules)) (d : Driver) (r5 : (Seed × Driver)) (i3 : Int) (kn_3 : Int → Option Bool) : Option Bool :=
  bif (decide (i3 < (([u, r4.2, r4.2, u] : List Rules).length : Int))) then
    chk (decide (0 ≤ i3) && decide (i3 < (([u, r4.2, r4.2, u] : List Rules).length : Int))) <|
    chk (decide (i3.toNat < ([u, r4.2, r4.2, u] : List Rules).length)) <|
    chk (decide (0 ≤ i3) && decide (i3 < (([d, r5.2, d, r5.2] : List Driver).length : Int))) <|
    chk (decide (i3.toNat < ([d, r5.2, d, r5.2] : List Driver).length)) <|
    (pLegal (([u, r4.2, r4.2, u] : List Rules).getD i3.toNat dfltRules) (([d, r5.2, d, r5.2] : List Driver).getD i3.toNat dfltDriver)).bind fun r22 =>
    chk (decide (0 ≤ i3) && decide (i3 < (([u, r4.2, r4.2, u] : List Rules).length : Int))) <|
    chk (decide (i3.toNat < ([u, r4.2, r4.2, u] : List Rules).length)) <|
    chk (decide (0 ≤ i3) && decide (i3 < (([d, r5.2, d, r5.2] : List Driver).length : Int))) <|
    chk (decide (i3.toNat < ([d, r5.2, d, r5.2] : List Driver).length)) <|
    (rLegal (([u, r4.2, r4.2, u] : List Rules).getD i3.toNat dfltRules) (([d, r5.2, d, r5.2] : List Driver).getD i3.toNat dfltDriver)).bind fun r23 =>
    chk (decide (0 ≤ i3) && decide (i3 < (([u, r4.2, r4.2, u] : List Rules).length : Int))) <|
    chk (decide (i3.toNat < ([u, r4.2, r4.2, u] : List Rules).length)) <|
    (pCheckRules (([u, r4.2, r4.2, u] : List Rules).getD i3.toNat dfltRules)).bind fun r24 =>
    chk (decide (0 ≤ i3) && decide (i3 < (([u, r4.2, r4.2, u] : List Rules).length : Int))) <|
    chk (decide (i3.toNat < ([u, r4.2, r4.2, u] : List Rules).length)) <|
    (rCheckRules (([u, r4.2, r4.2, u] : List Rules).getD i3.toNat dfltRules)).bind fun r25 =>
    bif (r24 != r25) then
      some false
    else
      chk (decide (0 ≤ i3) && decide (i3 < (([d, r5.2, d, r5.2] : List Driver).length : Int))) <|
      chk (decide (i3.toNat < ([d, r5.2, d, r5.2] : List Driver).length)) <|
      (pCheck (([d, r5.2, d, r5.2] : List Driver).getD i3.toNat dfltDriver)).bind fun r26 =>
      chk (decide (0 ≤ i3) && decide (i3 < (([d, r5.2, d, r5.2] : List Driver).length : Int))) <|
      chk (decide (i3.toNat < ([d, r5.2, d, r5.2] : List Driver).length)) <|
      (rCheck (([d, r5.2, d, r5.2] : List Driver).getD i3.toNat dfltDriver)).bind fun r27 =>
      bif (r26 != r27) then
        some false
      else
        bif (r22.1 != r23.1) then
          some false
        else
          bif (r22.2.1 != r23.2.1) then
            some false
          else
            bif (r22.2.2.1 != r23.2.2.1) then
              some false
            else
              bif (r22.2.2.2 != r23.2.2.2) then
                some false
              else
                kn_3 (w64 (i3 + 1))
  else
    (awake).bind fun r28 =>
    some r28
def CrewLegals' (it : It Bool) (u : Rules) (d : Driver) (t : Turn) (nums : List Int) : Option Bool :=
  (big d).bind fun r =>
  bif r then
    (awake).bind fun r2 =>
    some r2
  else
    (NewSeed nums).bind fun r3 =>
    (RulesOf r3).bind fun r4 =>
    (DriverOf r4.1 (⟨#[97, 110, 110]⟩ : ByteArray) 6).bind fun r5 =>
    bif (decide ((r5.2.Turns.length : Int) > 0)) then
      (Yes r5.1 4).bind fun r6 =>
      bif r6.2 then
        (Below r6.1 (r5.2.Turns.length : Int)).bind fun r7 =>
        chk (decide (0 ≤ r7.2) && decide (r7.2 < (r5.2.Turns.length : Int))) <|
        chk (decide (r7.2.toNat < r5.2.Turns.length)) <|
        it _ (fun (v_0 : (Unit × Unit × Int × Unit) × (Unit)) kn => CrewLegals_L9 u r4 d r5 r7 t v_0.1.2.2.1 (fun y0 => kn (((), (), y0, ()), (())))) (((), (), 0, ()), (()))
      else
        it _ (fun (v_0 : (Unit × Unit × Int × Unit) × (Unit)) kn => CrewLegals_L9__2 u r4 d r5 v_0.1.2.2.1 (fun y0 => kn (((), (), y0, ()), (())))) (((), (), 0, ()), (()))
    else
      it _ (fun (v_0 : (Unit × Unit × Int × Unit) × (Unit)) kn => CrewLegals_L9__3 u r4 d r5 v_0.1.2.2.1 (fun y0 => kn (((), (), y0, ()), (())))) (((), (), 0, ()), (()))
def CrewLegals : Rules → Driver → Turn → (List Int) → Option Bool := opq (fun u d t nums => CrewLegals' itN u d t nums)
theorem CrewLegals_eq (u : Rules) (d : Driver) (t : Turn) (nums : List Int) : CrewLegals u d t nums = CrewLegals' itN u d t nums := by unfold CrewLegals; rw [opq_eq]
def E3 : FEnv iseat := ⟨⟨138, [sp14, sp15, sp21, sp22, sp23, sp24, sp25, sp26], [sp17, sp19, sp20], [sp16], [], [], [sp18o], [], [], true⟩, [(9, ⟨⟨[(12, .osr 53), (13, .osr 58), (14, .v (.int .i64))], []⟩, [], [53, 58]⟩), (1000007, ⟨⟨[], []⟩, [], [31]⟩)]⟩
theorem e3 (it : It Bool) (u : Rules) (d : Driver) (t : Turn) (nums : List Int) : fnRun (ts := [.bool]) it E3 (bodyOf Tryd.f3) Tryd.f3.results.toList (encA [.Rules, .Driver, .Turn, .sl (.int .i64)] (u, d, t, nums, ())) = CrewLegals' it u d t nums := by kernel_rfl
end
end Go.Proofs.Crew


/- The crew: the law of rules and drivers that may be. -/
namespace Go.Proofs.Crew
open Go Go.Ab
set_option linter.all false
theorem legal_both {u : Rules} {d : Driver} (hs : d.Name.size ≤ 1000) (hl : d.Turns.length ≤ 1000) : ∃ r, pLegal u d = some r ∧ rLegal u d = some r := by
  cases hb : bothE u d != 0 with
  | true =>
    refine ⟨(0, 0, 0, bothE u d), ?_, ?_⟩
    · rw [pLegal_eq]; unfold pLegal'
      rw [checkShift_any u d hs hl]
      simp only [Option.bind_some, hb, cond_true]
    · rw [rLegal_eq]; unfold rLegal'
      rw [checkBoth_any u d hs hl]
      simp only [Option.bind_some, hb, cond_true]
  | false =>
    have h0 : bothE u d = 0 := by simpa using hb
    obtain ⟨hu, hd⟩ := bothE_ok hs h0
    refine ⟨_, pLegal_sp hu hd, ?_⟩
    have hlv : LV d.Turns := ⟨hl, hd.tv⟩
    obtain ⟨r1, h1, i1⟩ := Minutes_sp hlv true
    rw [rLegal_eq]; unfold rLegal'
    rw [checkBoth_any u d hs hl, h0, h1, rVerdict_sp d hlv hu]
    simp only [Option.bind_some]
    rw [Broken_sp i1 hu]
    rfl
theorem legalLoop (ha : awake = some true) {U : List Rules} {D : List Driver} (lU : U.length = 4) (lD : D.length = 4) (hD : ∀ x ∈ D, x.Name.size ≤ 1000 ∧ x.Turns.length ≤ 1000)
    {F : ((Unit × Unit × Int × Unit) × Unit) → (((Unit × Unit × Int × Unit) × Unit) → Option Bool) → Option Bool}
    (hF : ∀ i kn, F (((), (), i, ()), ()) kn = bif (decide (i < (U.length : Int))) then
      chk (decide (0 ≤ i) && decide (i < (U.length : Int))) <| chk (decide (i.toNat < U.length)) <|
      chk (decide (0 ≤ i) && decide (i < (D.length : Int))) <| chk (decide (i.toNat < D.length)) <|
      (pLegal (U.getD i.toNat dfltRules) (D.getD i.toNat dfltDriver)).bind fun r8 =>
      chk (decide (0 ≤ i) && decide (i < (U.length : Int))) <| chk (decide (i.toNat < U.length)) <|
      chk (decide (0 ≤ i) && decide (i < (D.length : Int))) <| chk (decide (i.toNat < D.length)) <|
      (rLegal (U.getD i.toNat dfltRules) (D.getD i.toNat dfltDriver)).bind fun r9 =>
      chk (decide (0 ≤ i) && decide (i < (U.length : Int))) <| chk (decide (i.toNat < U.length)) <|
      (pCheckRules (U.getD i.toNat dfltRules)).bind fun r10 =>
      chk (decide (0 ≤ i) && decide (i < (U.length : Int))) <| chk (decide (i.toNat < U.length)) <|
      (rCheckRules (U.getD i.toNat dfltRules)).bind fun r11 =>
      bif (r10 != r11) then some false
      else
        chk (decide (0 ≤ i) && decide (i < (D.length : Int))) <| chk (decide (i.toNat < D.length)) <|
        (pCheck (D.getD i.toNat dfltDriver)).bind fun r12 =>
        chk (decide (0 ≤ i) && decide (i < (D.length : Int))) <| chk (decide (i.toNat < D.length)) <|
        (rCheck (D.getD i.toNat dfltDriver)).bind fun r13 =>
        bif (r12 != r13) then some false
        else bif (r8.1 != r9.1) then some false
          else bif (r8.2.1 != r9.2.1) then some false
            else bif (r8.2.2.1 != r9.2.2.1) then some false
              else bif (r8.2.2.2 != r9.2.2.2) then some false
                else kn (((), (), w64 (i + 1), ()), ())
      else (awake).bind fun r14 => some r14) :
    Ok (fun b => b = true) (itN _ F (((), (), 0, ()), ())) := by
  refine Ok.rounds (fun v => 0 ≤ v.1.2.2.1 ∧ v.1.2.2.1 ≤ 4) (fun v => (4 - v.1.2.2.1).toNat) ?_ ⟨by decide, by decide⟩ ?_
  · simp only; unfold FUEL; decide
  rintro ⟨⟨v1, v2, k, v5⟩, v6⟩ kn2 ⟨k0, k3⟩ hk2
  simp only at k0 k3 hk2 ⊢
  rw [hF, lU, lD]
  refine Ok.ite (fun hc => ?_) (fun hc => Ok.beq ha (Ok.some rfl))
  have hk3 : k < 4 := of_decide_eq_true hc
  have c1 := ib (n := 4) k0 hk3
  have c2 : decide (k.toNat < 4) = true := decide_eq_true (by omega)
  have ek : w64 (k + 1) = k + 1 := w64_id (by omega) (by omega)
  obtain ⟨s1, s2⟩ := hD _ (getD_mem (d := dfltDriver) (l := D) (i := k.toNat) (by omega))
  obtain ⟨r, h1, h2⟩ := legal_both s1 s2 (u := U.getD k.toNat dfltRules)
  refine Ok.chk c1 (Ok.chk c2 (Ok.chk c1 (Ok.chk c2 ?_)))
  refine Ok.beq h1 ?_
  refine Ok.chk c1 (Ok.chk c2 (Ok.chk c1 (Ok.chk c2 ?_)))
  refine Ok.beq h2 ?_
  refine Ok.chk c1 (Ok.chk c2 ?_)
  refine Ok.beq (pCheckRules_any _) ?_
  refine Ok.chk c1 (Ok.chk c2 ?_)
  refine Ok.beq (rCheckRules_any _) ?_
  refine Ok.no (by simp) ?_
  refine Ok.chk c1 (Ok.chk c2 ?_)
  refine Ok.beq (pCheck_any _ s1 s2) ?_
  refine Ok.chk c1 (Ok.chk c2 ?_)
  refine Ok.beq (rCheck_any _ s1 s2) ?_
  refine Ok.no (by simp) (Ok.no (by simp) (Ok.no (by simp) (Ok.no (by simp) (Ok.no (by simp) ?_))))
  rw [ek]
  exact hk2 (((), (), k + 1, ()), ()) ⟨by simp only; omega, by simp only; omega⟩ (by simp only; omega)
theorem big_sp' (d : Driver) : big d = some (bif decide ((d.Name.size : Int) > 40) then true else decide ((d.Turns.length : Int) > 30)) := by
  rw [big_eq]; unfold big'
  cases decide ((d.Name.size : Int) > 40) <;> rfl
theorem CrewLegals_true (ha : awake = some true) (u : Rules) (d : Driver) (t : Turn) {nums : List Int} (hn : nums.length ≤ 9223372036854775807) : CrewLegals u d t nums = some true := by
  apply ok_eq
  rw [CrewLegals_eq]
  unfold CrewLegals'
  refine Ok.beq (big_sp' d) ?_
  refine Ok.ite (fun _ => Ok.beq ha (Ok.some rfl)) (fun hb => ?_)
  have hbig : d.Name.size ≤ 40 ∧ d.Turns.length ≤ 30 := by
    cases h1 : decide ((d.Name.size : Int) > 40) with
    | true => rw [h1] at hb; cases hb
    | false =>
      rw [h1] at hb
      have := of_decide_eq_false h1
      have := of_decide_eq_false (show decide ((d.Turns.length : Int) > 30) = false from hb)
      omega
  refine Ok.bind (NewSeed_ok hn) fun r3 _ => ?_
  refine Ok.bind (RulesOf_ok r3) fun r4 hr => ?_
  refine Ok.bind (DriverOf_ok _ _ (by decide) (by decide)) fun r5 h5 => ?_
  have h5l := h5.len
  have h5n : r5.2.Name.size = 3 := by rw [h5.nm]; rfl
  have fine : ∀ ts : List Turn, ts.length ≤ 1000 → ∀ x ∈ ([d, ⟨r5.2.Name, r5.2.Skills, ts⟩, d, ⟨r5.2.Name, r5.2.Skills, ts⟩] : List Driver), x.Name.size ≤ 1000 ∧ x.Turns.length ≤ 1000 := fun ts hts x hx => by
    simp only [List.mem_cons, List.not_mem_nil, or_false] at hx
    rcases hx with hx | hx | hx | hx <;> subst hx <;> exact ⟨by first | omega | (simp only; omega), by first | omega | (simp only; omega)⟩
  refine Ok.ite (fun hc => ?_) (fun hc => ?_)
  · refine Ok.bind (Yes_ok _ (by decide)) fun r6 _ => ?_
    refine Ok.ite (fun hy => ?_) (fun hy => ?_)
    · have hpos := of_decide_eq_true hc
      refine Ok.bind (Below_ok _ (by omega)) fun r7 q7 => ?_
      refine Ok.chk (by simp; omega) (Ok.chk (decide_eq_true (by omega)) ?_)
      exact legalLoop ha (U := [u, r4.2, r4.2, u]) (D := [d, ⟨r5.2.Name, r5.2.Skills, r5.2.Turns.set r7.2.toNat t⟩, d, ⟨r5.2.Name, r5.2.Skills, r5.2.Turns.set r7.2.toNat t⟩]) rfl rfl (fine _ (by rw [List.length_set]; omega)) (fun _ _ => rfl)
    · exact legalLoop ha (U := [u, r4.2, r4.2, u]) (D := [d, r5.2, d, r5.2]) rfl rfl (fine r5.2.Turns (by omega)) (fun _ _ => rfl)
  · exact legalLoop ha (U := [u, r4.2, r4.2, u]) (D := [d, r5.2, d, r5.2]) rfl rfl (fine r5.2.Turns (by omega)) (fun _ _ => rfl)
end Go.Proofs.Crew


/- How the arguments of a law are read as plain data of Lean, what the table of the four cases holds, and what a law that writes nothing older than itself leaves: its arguments read as they did. -/
namespace Go.Proofs.YthmgcjmoiilggaaDoor
open Go Go.Ab Go.ChangeShapes Go.WideShapes Go.ChangeAt Go.RowKit
set_option maxRecDepth 100000

/-- All that a world's memory holds. -/
def allK (w : World) : Nat → Nat → Option Value := fun b o => w.cell? ⟨b, o, none⟩
theorem allK_fits (w : World) : Fits (allK w) w := fun _ _ _ h => h

theorem cells3 : Tryd.prog.cellsOf 3 = 1 := by kernel_rfl
section
variable {H : Type} {enc : TypeId × Value → H} {W : World}

/-- Whatever reads as the type, stands for a datum of Lean. -/
def Rd {α : Type} (enc : TypeId × Value → H) (W : World) (t : TypeId) (ec : α → List D) : Prop :=
  ∀ n cs x, DataW.trod enc Tryd.prog W 0 (fun _ => true) true n t cs = some x → ∃ a : α, RepL (allK W) γ0 sv0 (ec a) cs

theorem rd_int : Rd enc W 3 encI := by
  intro n cs x h
  obtain ⟨a, rfl, _⟩ := DataW.trod_int Tryd.underlying3 h
  exact ⟨a, .cons _ _ _ _ (.int _ _) .nil⟩

theorem rd_slice {α : Type} [Inhabited α] {t e z : Nat} {ec : α → List D} (ht : Tryd.prog.underlying t = some (.slice e)) (hz : Tryd.prog.cellsOf e = z) (hz0 : 0 < z) (hl : ∀ a, (ec a).length = z)
    (hc : ∀ a, allCell (ec a) = true) (hr : Rd enc W e ec) : Rd enc W t (fun l : List α => [slOf z ec l]) := by
  intro n cs x h
  rcases Deep.open_slice ht h with ⟨rfl, rfl⟩ | ⟨a, len, cap, m, n', D, Pl, rfl, _, hlc, _, hm, rfl, hx⟩
  · exact ⟨[], .cons _ _ _ _ (.sl0 _ _) .nil⟩
  · simp only [if_true] at hm
    subst hm
    rw [hz] at hx
    rcases Nat.eq_zero_or_pos len with rfl | hpos
    · exact ⟨[], .cons _ _ _ _ (.slE _ _ _ _) .nil⟩
    · have hx' : ∀ i, i < len → ∃ p : α × List Value, W.cells? 0 (a.add (i * z)) z = some p.2 ∧ RepL (allK W) γ0 sv0 (ec p.1) p.2 := fun i hi => by
        obtain ⟨cs', h1, h2⟩ := hx i (by omega)
        obtain ⟨b, hb⟩ := hr _ _ _ h2
        exact ⟨(b, cs'), h1, hb⟩
      obtain ⟨F, hF⟩ := Deep.choose_lt hx'
      have hsp : a.spot = none := by
        obtain ⟨_, h1, h2⟩ := World.cells?_some (hF 0 hpos).1
        have h3 := h2 0 hz0
        rw [List.getElem?_eq_getElem (by omega)] at h3
        simpa [Addr.add] using World.cell?_spot h3
      obtain ⟨b, off, sp⟩ := a
      simp only at hsp
      subst hsp
      refine ⟨(List.range len).map (fun i => (F i).1), .cons _ _ _ _ ?_ .nil⟩
      have hlen : ((List.range len).map (fun i => (F i).1)).length = len := by simp
      have hg : ∀ i, i < len → ((List.range len).map (fun i => (F i).1)).getD i default = (F i).1 := fun i hi => by simp [List.getD, hi]
      unfold slOf
      rw [hlen]
      refine .sl z len _ b off m (fun i => (F i).2) hlc (fun i _ => hl _) (fun i _ => hc _) (fun i hi => by rw [hg i hi]; exact (hF i hi).2) (fun i j v hi hj => ?_)
      obtain ⟨_, h1, h2⟩ := World.cells?_some (hF i hi).1
      have hjl := (List.getElem?_eq_some_iff.1 hj).1
      have h3 := h2 j (by omega)
      rw [add_plain, add_plain, hj] at h3
      exact h3

theorem arg_ints {v : Value} {d : DataW H} {ps : List MemPlace} {base : Nat} (hv : Value.okWide Tryd.prog W .any base 31 v) (h : DataW.Trod enc Tryd.prog W 0 (fun _ => true) true 31 v d ps) :
    ∃ l : List Int, Rep (allK W) γ0 sv0 (slOf 1 encI l) v := by
  obtain ⟨n, hn⟩ := h
  obtain ⟨l, hl⟩ := rd_slice (ec := encI) Tryd.underlying31 cells3 (by decide) (fun _ => rfl) (fun _ => rfl) rd_int _ _ _ hn
  obtain ⟨a0, len, cap, rfl⟩ := okWide_slice Tryd.underlying31 hv
  cases hl with
  | cons _ _ _ _ k _ => exact ⟨l, k⟩
end
theorem glob_of {W : World} : GlobOk seat (allK W) := fun g l h => by cases h
theorem laidOut : laidOutB Tryd.prog = true := by kernel_rfl
theorem own : ownKnob Tryd.prog.godebug = none := by kernel_rfl

theorem trodAll_stays {H : Type} {enc : TypeId × Value → H} {W W' : World} {sp' : Nat → Bool} (hb : Below W.heap.size W W') : ∀ {ts : List TypeId} {vs : List Value} {ds : List (DataW H)} {ps : List MemPlace},
    (∀ t ∈ ts, Tryd.prog.readableRec t = true ∧ t < Tryd.prog.types.size) → DataW.TrodAll enc Tryd.prog W 0 (fun _ => true) true ts vs ds ps → (∀ p ∈ ps, p.block < W.heap.size) → (∀ p ∈ ps, sp' p.block = true) →
    DataW.TrodAll enc Tryd.prog W' 0 sp' true ts vs ds ps
  | [], [], [], _, _, h, _, _ => h
  | _ :: _, _ :: _, _ :: _, _, hT, ⟨p, q, h1, h2, e⟩, hlt, hs => ⟨p, q,
      WideElems.Trod_stays laidOut (hT _ (List.mem_cons_self ..)).1 (hT _ (List.mem_cons_self ..)).2 h1 (fun x hx => hb.same (hlt x (by rw [e]; exact List.mem_append_left _ hx))) (fun x hx => hs x (by rw [e]; exact List.mem_append_left _ hx)),
      trodAll_stays hb (fun t ht => hT t (List.mem_cons_of_mem _ ht)) h2 (fun x hx => hlt x (by rw [e]; exact List.mem_append_right _ hx)) (fun x hx => hs x (by rw [e]; exact List.mem_append_right _ hx)), e⟩

/-- A law that says yes and writes nothing older than itself. -/
theorem post_yes {H : Type} {enc : TypeId × Value → H} {f : Func} {s : ChangeSpec} {W W' : World} {args : Array Value} {ds gs : List (DataW H)} {before : List MemPlace}
    (hW : DataW.Whole enc Tryd.prog f.params.toList s.vars false W args.toList ds gs before) (hv : s.vars = []) (hb : Below W.heap.size W W')
    (hT : ∀ t ∈ f.params.toList, Tryd.prog.readableRec t = true ∧ t < Tryd.prog.types.size) (hrt : f.resultTypes = #[4])
    (hr : (s.fn H (ds ++ gs)).results = [.lit (.bool true)]) (ha : (s.fn H (ds ++ gs)).args = ds) (hvs : (s.fn H (ds ++ gs)).vars = []) :
    s.post enc Tryd.prog f false true false false W args (.bool true) W' := by
  have hlt := hW.lt
  have hW2 := hW
  obtain ⟨p, q, hA, hV, rfl, _, _⟩ := hW
  rw [hv] at hV
  obtain ⟨rfl, rfl⟩ := trodVars_none hV
  refine ⟨ds, [], p ++ [], [], p, [], hW2, ?_, ?_, ?_, hb.frame _, fun h => by cases h⟩
  · rw [hr, hrt]
    exact trodAll_mk1 (shut_bool Tryd.underlying4 _)
  · rw [ha]
    exact trodAll_stays hb hT hA (fun x hx => hlt x (by simpa using hx)) (fun x hx => by simpa using hlt x (by simpa using hx))
  · rw [hvs, hv]; rfl

/-- A world for the witness: the settled one, the table holding what its initialiser lays. -/
def layObj (l : List Nat) : Obj → Obj
  | .cells _ t frozen => .cells (l.map fun (n : Nat) => Value.int .u8 (n : Int)).toArray t frozen
  | o => o
noncomputable def laidWorld (os : Os) : World :=
  { World.holding Tryd.prog os ⟨#[], #[], []⟩ with heap := ((World.holding Tryd.prog os ⟨#[], #[], []⟩).heap.modify 1 (layObj [128, 191, 160, 191, 128, 159, 144, 191, 128, 143, 0, 0, 0, 0, 0, 0, 0, 0, 0, 0, 0, 0, 0, 0, 0, 0, 0, 0, 0, 0, 0, 0])).modify 0 (layObj Go.Pinned.utf8FirstZ) }
theorem ints_len {κ : Nat → Nat → Option Value} {γ : Nat → Nat} {sv : Nat → Value} {W : World} {base : Nat} {v : Value} {l : List Int} (hv : Value.okWide Tryd.prog W .any base 31 v) (h : Rep κ γ sv (slOf 1 encI l) v) : l.length ≤ 9223372036854775807 := by
  unfold slOf at h
  generalize hn : l.length = n at h
  cases h with
  | sl0 => omega
  | slE => omega
  | sl _ _ _ b off cap u hc =>
    simp only [Value.okWide, Cell.okWide, Cell.ok, Tryd.underlying31] at hv
    have h1 := hv.2.1
    have h2 : IntKind.i64.max = 9223372036854775807 := by decide
    rw [h2] at h1
    omega
section
variable {H : Type} {enc : TypeId × Value → H} {W : World}
end
end Go.Proofs.YthmgcjmoiilggaaDoor


/- Further readers of arguments: numbers, scales, limits, rules, turns, drivers. -/
namespace Go.Proofs.YthmgcjmoiilggaaDoor
open Go Go.Ab Go.ChangeShapes Go.WideShapes Go.ChangeAt Go.RowKit
set_option linter.all false
set_option maxRecDepth 100000
theorem cells9 : Tryd.prog.cellsOf 9 = 1 := by kernel_rfl
theorem cells23 : Tryd.prog.cellsOf 23 = 4 := by kernel_rfl
theorem cells24 : Tryd.prog.cellsOf 24 = 1 := by kernel_rfl
theorem cells26 : Tryd.prog.cellsOf 26 = 3 := by kernel_rfl
theorem cells28 : Tryd.prog.cellsOf 28 = 2 := by kernel_rfl
theorem cells30 : Tryd.prog.cellsOf 30 = 4 := by kernel_rfl
section
variable {H : Type} {enc : TypeId × Value → H} {W : World}
theorem fld {fs : Array Field} {xs : List (DataW H × List MemPlace)} {cs : List Value} {n : Nat}
    (hf : ∀ (i : Nat) (f : Field), fs[i]? = some f → DataW.trod enc Tryd.prog W 0 (fun _ => true) true n f.type ((cs.drop f.offset).take (Tryd.prog.cellsOf f.type)) = xs[i]?)
    (hl : xs.length = fs.size) (i : Nat) (f : Field) (hi : fs[i]? = some f) : ∃ y, DataW.trod enc Tryd.prog W 0 (fun _ => true) true n f.type ((cs.drop f.offset).take (Tryd.prog.cellsOf f.type)) = some y := by
  have h1 := (Array.getElem?_eq_some_iff.1 hi).1
  rw [← hl] at h1
  exact ⟨xs[i], by rw [hf i f hi]; exact List.getElem?_eq_getElem h1⟩
theorem rd_span : Rd enc W 28 encDSpan := by
  intro n cs x h
  obtain ⟨xs, m, rfl, rfl, hlen, hxl, hf⟩ := DataW.trod_struct Tryd.underlying28 h
  obtain ⟨y0, h0⟩ := fld hf hxl 0 _ rfl
  obtain ⟨y1, h1⟩ := fld hf hxl 1 _ rfl
  obtain ⟨a0, e0, _⟩ := DataW.trod_int Tryd.underlying3 h0
  obtain ⟨a1, e1, _⟩ := DataW.trod_int Tryd.underlying3 h1
  rw [cells28] at hlen
  rcases cs with _ | ⟨c0, _ | ⟨c1, _ | ⟨c2, cs⟩⟩⟩ <;> simp at hlen
  simp [cells3] at e0 e1
  subst e0 e1
  exact ⟨⟨a0, a1⟩, .cons _ _ _ _ (.int _ _) (.cons _ _ _ _ (.int _ _) .nil)⟩
theorem rd_turn : Rd enc W 30 encDTurn := by
  intro n cs x h
  obtain ⟨xs, m, rfl, rfl, hlen, hxl, hf⟩ := DataW.trod_struct Tryd.underlying30 h
  obtain ⟨y0, h0⟩ := fld hf hxl 0 _ rfl
  obtain ⟨y1, h1⟩ := fld hf hxl 1 _ rfl
  obtain ⟨a0, e0⟩ := rd_span _ _ _ h0
  obtain ⟨a1, e1⟩ := rd_span _ _ _ h1
  rw [cells30] at hlen
  rcases cs with _ | ⟨c0, _ | ⟨c1, _ | ⟨c2, _ | ⟨c3, _ | ⟨c4, cs⟩⟩⟩⟩⟩ <;> simp at hlen
  simp [cells28] at e0 e1
  cases e0 with
  | cons _ _ _ _ k0 r0 =>
    cases r0 with
    | cons _ _ _ _ k1 _ =>
      cases e1 with
      | cons _ _ _ _ k2 r2 =>
        cases r2 with
        | cons _ _ _ _ k3 _ => exact ⟨⟨a0, a1⟩, .cons _ _ _ _ k0 (.cons _ _ _ _ k1 (.cons _ _ _ _ k2 (.cons _ _ _ _ k3 .nil)))⟩
theorem rd_rules : Rd enc W 23 encDRules := by
  intro n cs x h
  obtain ⟨xs, m, rfl, rfl, hlen, hxl, hf⟩ := DataW.trod_struct Tryd.underlying23 h
  obtain ⟨y0, h0⟩ := fld hf hxl 0 _ rfl
  obtain ⟨y1, h1⟩ := fld hf hxl 1 _ rfl
  obtain ⟨y2, h2⟩ := fld hf hxl 2 _ rfl
  obtain ⟨y3, h3⟩ := fld hf hxl 3 _ rfl
  obtain ⟨a0, e0, _⟩ := DataW.trod_int Tryd.underlying3 h0
  obtain ⟨a1, e1, _⟩ := DataW.trod_int Tryd.underlying3 h1
  obtain ⟨a2, e2, _⟩ := DataW.trod_int Tryd.underlying3 h2
  obtain ⟨a3, e3, _⟩ := DataW.trod_int Tryd.underlying3 h3
  rw [cells23] at hlen
  rcases cs with _ | ⟨c0, _ | ⟨c1, _ | ⟨c2, _ | ⟨c3, _ | ⟨c4, cs⟩⟩⟩⟩⟩ <;> simp at hlen
  simp [cells3] at e0 e1 e2 e3
  subst e0 e1 e2 e3
  exact ⟨⟨a0, a1, a2, a3⟩, .cons _ _ _ _ (.int _ _) (.cons _ _ _ _ (.int _ _) (.cons _ _ _ _ (.int _ _) (.cons _ _ _ _ (.int _ _) .nil)))⟩
theorem rd_driver : Rd enc W 26 encDDriver := by
  intro n cs x h
  obtain ⟨xs, m, rfl, rfl, hlen, hxl, hf⟩ := DataW.trod_struct Tryd.underlying26 h
  obtain ⟨y0, h0⟩ := fld hf hxl 0 _ rfl
  obtain ⟨y1, h1⟩ := fld hf hxl 1 _ rfl
  obtain ⟨y2, h2⟩ := fld hf hxl 2 _ rfl
  obtain ⟨a0, e0, _⟩ := DataW.trod_string Tryd.underlying9 h0
  obtain ⟨a1, e1, _⟩ := DataW.trod_int Tryd.underlying3 h1
  obtain ⟨l, e2⟩ := rd_slice (ec := encDTurn) Tryd.underlying24 cells30 (by decide) (fun _ => rfl) (fun _ => rfl) rd_turn _ _ _ h2
  rw [cells26] at hlen
  rcases cs with _ | ⟨c0, _ | ⟨c1, _ | ⟨c2, _ | ⟨c3, cs⟩⟩⟩⟩ <;> simp at hlen
  simp [cells3, cells9, cells24] at e0 e1 e2
  subst e0 e1
  cases e2 with
  | cons _ _ _ _ k2 _ => exact ⟨⟨a0, a1, l⟩, .cons _ _ _ _ (.str _) (.cons _ _ _ _ (.int _ _) (.cons _ _ _ _ k2 .nil))⟩
theorem arg_struct {α : Type} {ec : α → List D} {t : TypeId} {fs : Array Field} (hu : Tryd.prog.underlying t = some (.struct fs)) (hr : Rd enc W t ec) {v : Value} {d : DataW H} {ps : List MemPlace} {base : Nat} (hv : Value.okWide Tryd.prog W .any base t v) (h : DataW.Trod enc Tryd.prog W 0 (fun _ => true) true t v d ps) :
    ∃ c : α, Rep (allK W) γ0 sv0 (.agg (ec c)) v := by
  simp only [Value.okWide, hu] at hv
  obtain ⟨cs, rfl, _⟩ := hv
  obtain ⟨n, hn⟩ := h
  obtain ⟨c, hc⟩ := hr _ _ _ hn
  have := Rep.agg _ _ hc
  simp [Value.cells] at this
  exact ⟨c, this⟩
end
end Go.Proofs.YthmgcjmoiilggaaDoor

