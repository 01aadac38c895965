/- Walks by computing: what each function of the program that the laws reach gives for what it gets, as plain Lean, and that it is so; without a condition but those that stand in each theorem. -/
import Derived.Test.YtbkogeihjcnejaaGreatDoorW1
import Derived.Test.YtbkogeihjcnejaaGreatDoorW2
import Derived.Test.YtbkogeihjcnejaaGreatDoorW3
import Derived.Test.YtbkogeihjcnejaaGreatDoorW4
import Derived.Test.YtbkogeihjcnejaaGreatDoorW5
import Derived.Test.YtbkogeihjcnejaaGreatDoorW6
import Derived.Test.YtbkogeihjcnejaaGreatDoorW7
import Derived.Test.YtbkogeihjcnejaaGreatDoorW8
import Derived.Test.YtbkogeihjcnejaaGreatDoorW9
import Derived.Test.YtbkogeihjcnejaaGreatDoorW10
import Derived.Test.YtbkogeihjcnejaaGreatDoorW11
import Derived.Test.YtbkogeihjcnejaaGreatDoorW12
import Derived.Test.YtbkogeihjcnejaaGreatDoorW13
set_option linter.all false
namespace Go.Proofs.Crew
open Go Go.Ab
set_option linter.all false
theorem ok_eq {α : Type} {x : Option α} {a : α} (h : Ok (fun b => b = a) x) : x = some a := by obtain ⟨b, h1, rfl⟩ := h; exact h1
theorem Ok.beq {α β : Type} {Q : β → Prop} {x : Option α} {a : α} {f : α → Option β} (hx : x = some a) (hf : Ok Q (f a)) : Ok Q (x.bind f) := by subst hx; exact hf
theorem Ok.roundsD {α γ : Type} {F : γ → (γ → Option α) → Option α} {v0 : γ} (inv : γ → Prop) (μ : γ → Nat) (P : γ → α → Prop) (hμ : μ v0 < FUEL) (h0 : inv v0)
  (step : ∀ v kn, inv v → (∀ v', inv v' → μ v' < μ v → Ok (P v') (kn v')) → Ok (P v) (F v kn)) : Ok (P v0) (itN γ F v0) := by
 have key : ∀ n v, inv v → μ v < n → Ok (P v) (iter F n v) := by
  intro n
  induction n with
  | zero => intro v _ h; omega
  | succ n ih =>
   intro v hv hn
   exact step v (iter F n) hv fun v' hv' hlt => ih v' hv' (by omega)
 exact key FUEL v0 h0 hμ
theorem Ok.no {α : Type} {b : Bool} {x y : Option α} {P : α → Prop} (h : b = false) (hx : Ok P y) : Ok P (bif b then x else y) := by subst h; exact hx
theorem ib {i : Int} {n : Nat} (h1 : 0 ≤ i) (h2 : i < n) : (decide (0 ≤ i) && decide (i < (n : Int))) = true := by simp; omega
theorem drop_get {α : Type} {l : List α} {d : α} {i : Nat} (h : i < l.length) : l.drop i = l.getD i d :: l.drop (i + 1) := by
 rw [List.drop_eq_getElem_cons h]
 simp [List.getD_eq_getElem?_getD, h]
theorem getD_mem {α : Type} {l : List α} {d : α} {i : Nat} (h : i < l.length) : l.getD i d ∈ l := by
 rw [List.getD_eq_getElem?_getD, List.getElem?_eq_getElem h]
 exact List.getElem_mem h
theorem toNat_succ {i : Int} (h : 0 ≤ i) : (i + 1).toNat = i.toNat + 1 := by omega
theorem fitA_ok {n b : Nat} (hn : n ≤ 1000000) (hb : b ≤ 1000000) : fitA n b = true := by
 unfold fitA
 have : n * b ≤ 1000000 * 1000000 := Nat.mul_le_mul hn hb
 simp; omega
def drv (ts : List (Int × Int)) (m : Int) : Bool := ts.any fun t => decide (t.1 ≤ m) && decide (m < t.2)
def turnsL (l : List Turn) : List (Int × Int) := l.map fun t => (t.From.Lo, t.To.Hi)
def turnsS (l : List Turn) : List (Int × Int) := l.map fun t => (t.From.Hi, t.To.Lo)
def itemsOf (D : Int → Bool) (a n : Nat) : List (Int × Bool × Unit) := (List.range' a n).map fun (m : Nat) => ((m : Int), D (m : Int), ())
theorem items_succ (D : Int → Bool) (a n : Nat) : itemsOf D a (n + 1) = ((a : Int), D a, ()) :: itemsOf D (a + 1) n := by simp [itemsOf, List.range'_succ]
theorem drv_take (ts : List (Int × Int)) (m : Int) (i : Nat) (h : i < ts.length) : drv (ts.take (i + 1)) m = (drv (ts.take i) m || (decide ((ts.getD i (0, 0)).1 ≤ m) && decide (m < (ts.getD i (0, 0)).2))) := by
 unfold drv
 rw [List.take_succ, List.any_append, List.getD_eq_getElem?_getD, List.getElem?_eq_getElem h]
 simp
theorem longest_sp (s : Shift) (t : Turn) : longest s t = some (t.From.Lo, t.To.Hi) := by rw [longest_eq]; rfl
theorem minutesL_sp (a b : Shift) (hn : a.Driver.Turns.length ≤ 1000) : minutesL a b = some (itemsOf (drv (turnsL a.Driver.Turns)) 0 3000) := by
 apply ok_eq
 rw [minutesL_eq]
 unfold minutesL'
 refine (Ok.roundsD (P := fun (v : (Unit × Int × Unit) × Unit) r => r = itemsOf (drv (turnsL a.Driver.Turns)) v.1.2.1.toNat (3000 - v.1.2.1.toNat)) (fun (v : (Unit × Int × Unit) × Unit) => 0 ≤ v.1.2.1 ∧ v.1.2.1 ≤ 3000) (fun (v : (Unit × Int × Unit) × Unit) => (3000 - v.1.2.1).toNat) (by show (3000 - (0:Int)).toNat < FUEL; unfold FUEL; decide) ⟨by decide, by decide⟩ ?_)
 rintro ⟨⟨u1, x, u2⟩, u3⟩ kn ⟨h0, h1⟩ hk
 simp only at h0 h1 ⊢
 unfold minutesL_L1
 refine Ok.ite (fun hc => ?_) (fun hc => ?_)
 ·have hx := of_decide_eq_true hc
  refine Ok.rounds (fun v => 0 ≤ v.1.2.2.1 ∧ v.1.2.2.1 ≤ a.Driver.Turns.length ∧ v.1.2.1 = drv ((turnsL a.Driver.Turns).take v.1.2.2.1.toNat) x) (fun v => (a.Driver.Turns.length - v.1.2.2.1).toNat) ?_ ⟨by decide, by simp, by simp [drv]⟩ ?_
  ·simp only; unfold FUEL; omega
  rintro ⟨⟨v1, d, i, v2⟩, v3⟩ kn2 ⟨i0, i1, i2⟩ hk2
  simp only at i0 i1 i2 hk2 ⊢
  unfold minutesL_L5
  refine Ok.ite (fun hc => ?_) (fun hc => ?_)
  ·have hi := of_decide_eq_true hc
   refine Ok.chk (ib i0 hi) ?_
   refine Ok.beq (longest_sp _ _) ?_
   have hi' : i.toNat < a.Driver.Turns.length := by omega
   have hl : i.toNat < (turnsL a.Driver.Turns).length := by simp [turnsL]; omega
   have e1 : w64 (i + 1) = i + 1 := w64_id (by omega) (by omega)
   have hg : (turnsL a.Driver.Turns).getD i.toNat (0, 0) = ((a.Driver.Turns.getD i.toNat dfltTurn).From.Lo, (a.Driver.Turns.getD i.toNat dfltTurn).To.Hi) := by
    simp only [turnsL, List.getD_eq_getElem?_getD, List.getElem?_map, List.getElem?_eq_getElem hi']; rfl
   have hd := drv_take (turnsL a.Driver.Turns) x i.toNat hl
   rw [hg, ← i2] at hd
   simp only [e1]
   have hfin : ∀ b : Bool, b = (d || (decide ((a.Driver.Turns.getD i.toNat dfltTurn).From.Lo ≤ x) && decide (x < (a.Driver.Turns.getD i.toNat dfltTurn).To.Hi))) → Ok (fun r => r = itemsOf (drv (turnsL a.Driver.Turns)) x.toNat (3000 - x.toNat)) (kn2 ((v1, b, i + 1, v2), v3)) := fun b hb => by
    refine hk2 ((v1, b, i + 1, v2), v3) ⟨by simp only; omega, by simp only; omega, ?_⟩ (by simp only; omega)
    simp only
    rw [toNat_succ i0, hd, hb]
   refine Ok.ite (fun hd2 => ?_) (fun hd2 => ?_)
   ·exact hfin true (by rw [hd2]; rfl)
   ·refine Ok.ite (fun h3 => ?_) (fun h3 => ?_)
    ·exact hfin _ (by rw [hd2, h3]; simp)
    ·exact hfin _ (by rw [hd2, h3]; simp)
  ·have hi : i = a.Driver.Turns.length := by have := of_decide_eq_false hc; omega
   subst hi
   have e1 : w64 (x + 1) = x + 1 := w64_id (by omega) (by omega)
   have hd : d = drv (turnsL a.Driver.Turns) x := by
    rw [i2, Int.toNat_natCast, List.take_of_length_le (by simp [turnsL])]
   have hn0 : 3000 - x.toNat = (3000 - (x + 1).toNat) + 1 := by omega
   obtain ⟨l, hl1, hl2⟩ := hk ((u1, x + 1, u2), u3) ⟨by simp only; omega, by simp only; omega⟩ (by simp only; omega)
   simp only at hl2
   refine ⟨(x, d, ()) :: l, ?_, ?_⟩
   ·simp only [consM, e1, hl1]
   ·rw [hn0, items_succ, hl2, hd, toNat_succ h0, Int.toNat_of_nonneg h0]
 ·have hx : x = 3000 := by have := of_decide_eq_false hc; omega
  subst hx
  exact Ok.some rfl
theorem shortest_sp (s : Shift) (t : Turn) : shortest s t = some (t.From.Hi, t.To.Lo) := by rw [shortest_eq]; rfl
theorem minutesS_sp (a b : Shift) (hn : a.Driver.Turns.length ≤ 1000) : minutesS a b = some (itemsOf (drv (turnsS a.Driver.Turns)) 0 3000) := by
 apply ok_eq
 rw [minutesS_eq]
 unfold minutesS'
 refine (Ok.roundsD (P := fun (v : (Unit × Int × Unit) × Unit) r => r = itemsOf (drv (turnsS a.Driver.Turns)) v.1.2.1.toNat (3000 - v.1.2.1.toNat)) (fun (v : (Unit × Int × Unit) × Unit) => 0 ≤ v.1.2.1 ∧ v.1.2.1 ≤ 3000) (fun (v : (Unit × Int × Unit) × Unit) => (3000 - v.1.2.1).toNat) (by show (3000 - (0:Int)).toNat < FUEL; unfold FUEL; decide) ⟨by decide, by decide⟩ ?_)
 rintro ⟨⟨u1, x, u2⟩, u3⟩ kn ⟨h0, h1⟩ hk
 simp only at h0 h1 ⊢
 unfold minutesS_L1
 refine Ok.ite (fun hc => ?_) (fun hc => ?_)
 ·have hx := of_decide_eq_true hc
  refine Ok.rounds (fun v => 0 ≤ v.1.2.2.1 ∧ v.1.2.2.1 ≤ a.Driver.Turns.length ∧ v.1.2.1 = drv ((turnsS a.Driver.Turns).take v.1.2.2.1.toNat) x) (fun v => (a.Driver.Turns.length - v.1.2.2.1).toNat) ?_ ⟨by decide, by simp, by simp [drv]⟩ ?_
  ·simp only; unfold FUEL; omega
  rintro ⟨⟨v1, d, i, v2⟩, v3⟩ kn2 ⟨i0, i1, i2⟩ hk2
  simp only at i0 i1 i2 hk2 ⊢
  unfold minutesS_L5
  refine Ok.ite (fun hc => ?_) (fun hc => ?_)
  ·have hi := of_decide_eq_true hc
   refine Ok.chk (ib i0 hi) ?_
   refine Ok.beq (shortest_sp _ _) ?_
   have hi' : i.toNat < a.Driver.Turns.length := by omega
   have hl : i.toNat < (turnsS a.Driver.Turns).length := by simp [turnsS]; omega
   have e1 : w64 (i + 1) = i + 1 := w64_id (by omega) (by omega)
   have hg : (turnsS a.Driver.Turns).getD i.toNat (0, 0) = ((a.Driver.Turns.getD i.toNat dfltTurn).From.Hi, (a.Driver.Turns.getD i.toNat dfltTurn).To.Lo) := by
    simp only [turnsS, List.getD_eq_getElem?_getD, List.getElem?_map, List.getElem?_eq_getElem hi']; rfl
   have hd := drv_take (turnsS a.Driver.Turns) x i.toNat hl
   rw [hg, ← i2] at hd
   simp only [e1]
   have hfin : ∀ b : Bool, b = (d || (decide ((a.Driver.Turns.getD i.toNat dfltTurn).From.Hi ≤ x) && decide (x < (a.Driver.Turns.getD i.toNat dfltTurn).To.Lo))) → Ok (fun r => r = itemsOf (drv (turnsS a.Driver.Turns)) x.toNat (3000 - x.toNat)) (kn2 ((v1, b, i + 1, v2), v3)) := fun b hb => by
    refine hk2 ((v1, b, i + 1, v2), v3) ⟨by simp only; omega, by simp only; omega, ?_⟩ (by simp only; omega)
    simp only
    rw [toNat_succ i0, hd, hb]
   refine Ok.ite (fun hd2 => ?_) (fun hd2 => ?_)
   ·exact hfin true (by rw [hd2]; rfl)
   ·refine Ok.ite (fun h3 => ?_) (fun h3 => ?_)
    ·exact hfin _ (by rw [hd2, h3]; simp)
    ·exact hfin _ (by rw [hd2, h3]; simp)
  ·have hi : i = a.Driver.Turns.length := by have := of_decide_eq_false hc; omega
   subst hi
   have e1 : w64 (x + 1) = x + 1 := w64_id (by omega) (by omega)
   have hd : d = drv (turnsS a.Driver.Turns) x := by
    rw [i2, Int.toNat_natCast, List.take_of_length_le (by simp [turnsS])]
   have hn0 : 3000 - x.toNat = (3000 - (x + 1).toNat) + 1 := by omega
   obtain ⟨l, hl1, hl2⟩ := hk ((u1, x + 1, u2), u3) ⟨by simp only; omega, by simp only; omega⟩ (by simp only; omega)
   simp only at hl2
   refine ⟨(x, d, ()) :: l, ?_, ?_⟩
   ·simp only [consM, e1, hl1]
   ·rw [hn0, items_succ, hl2, hd, toNat_succ h0, Int.toNat_of_nonneg h0]
 ·have hx : x = 3000 := by have := of_decide_eq_false hc; omega
  subst hx
  exact Ok.some rfl
def stS (R : Int) (D : Int → Bool) : Nat → Int × Int
 | 0 => (0, 0)
 | m + 1 => bif D (m : Int) then ((stS R D m).1 + 1, 0) else (bif decide ((stS R D m).2 + 1 ≥ R) then 0 else (stS R D m).1, (stS R D m).2 + 1)
theorem stS_bnd (R : Int) (D : Int → Bool) : ∀ m : Nat, 0 ≤ (stS R D m).1 ∧ (stS R D m).1 ≤ m ∧ 0 ≤ (stS R D m).2 ∧ (stS R D m).2 ≤ m
 | 0 => by simp [stS]
 | m + 1 => by
  obtain ⟨h1, h2, h3, h4⟩ := stS_bnd R D m
  simp only [stS]
  cases D (m : Int) with
  | true => simp only [cond_true]; omega
  | false => simp only [cond_false]; cases decide ((stS R D m).2 + 1 ≥ R) <;> simp only [cond_true, cond_false] <;> omega
def dlist (D : Int → Bool) (m : Nat) : List Int := ((List.range m).filter fun (k : Nat) => D (k : Int)).map fun (k : Nat) => (k : Int)
theorem dlist_succ (D : Int → Bool) (m : Nat) : dlist D (m + 1) = bif D (m : Int) then dlist D m ++ [(m : Int)] else dlist D m := by
 simp only [dlist, List.range_succ, List.filter_append, List.map_append]
 cases h : D (m : Int) <;> simp [h]
theorem dlist_lt (D : Int → Bool) : ∀ (m : Nat) (k : Int), k ∈ dlist D m → 0 ≤ k ∧ k < m := fun m k hk => by
 simp only [dlist, List.mem_map, List.mem_filter, List.mem_range] at hk
 obtain ⟨a, ⟨h1, _⟩, rfl⟩ := hk
 omega
theorem dlist_len (D : Int → Bool) (m : Nat) : (dlist D m).length ≤ m := by
 simp only [dlist, List.length_map]
 exact Nat.le_trans (List.length_filter_le _ _) (by simp)
theorem dlist_srt (D : Int → Bool) : ∀ m : Nat, (dlist D m).Pairwise (· < ·)
 | 0 => .nil
 | m + 1 => by
  rw [dlist_succ]
  cases D (m : Int) with
  | true =>
   simp only [cond_true]
   rw [List.pairwise_append]
   refine ⟨dlist_srt D m, List.pairwise_singleton _ _, fun a ha b hb => ?_⟩
   rw [List.mem_singleton.1 hb]
   exact (dlist_lt D m a ha).2
  | false => exact dlist_srt D m
def over (l : List Int) (t : Int) : List Int := l.filter fun k => decide (t < k)
theorem over_tail {l : List Int} (hl : l.Pairwise (· < ·)) {t h : Int} {tl : List Int} (he : over l t = h :: tl) : tl = over l h ∧ t < h ∧ h ∈ l := by
 have hm : h ∈ over l t := by rw [he]; exact List.mem_cons_self ..
 simp only [over, List.mem_filter, decide_eq_true_eq] at hm
 have hs : (h :: tl).Pairwise (· < ·) := by rw [← he]; exact hl.filter _
 refine ⟨?_, hm.2, hm.1⟩
 have e1 : over l h = over (over l t) h := by
  simp only [over, List.filter_filter]
  apply List.filter_congr
  intro x _
  have := hm.2
  by_cases h1 : h < x
  ·have : t < x := by omega
   simp [h1, this]
  ·simp [h1]
 rw [e1, he]
 simp only [over, List.filter_cons, Int.lt_irrefl, decide_false, Bool.false_eq_true, if_false]
 symm
 rw [List.filter_eq_self]
 intro x hx
 simpa using (List.pairwise_cons.1 hs).1 x hx
theorem over_same {l : List Int} (hl : l.Pairwise (· < ·)) {t t' h : Int} {tl : List Int} (he : over l t = h :: tl) (ht : t ≤ t') (hh : t' < h) : over l t = over l t' := by
 have hs : (h :: tl).Pairwise (· < ·) := by rw [← he]; exact hl.filter _
 simp only [over]
 apply List.filter_congr
 intro x hx
 by_cases h1 : t < x
 ·have hm : x ∈ over l t := by simp only [over, List.mem_filter, decide_eq_true_eq]; exact ⟨hx, h1⟩
  rw [he] at hm
  have : h ≤ x := by
   rcases List.mem_cons.1 hm with rfl | hm
   ·omega
   ·have := (List.pairwise_cons.1 hs).1 x hm; omega
  have h2 : t' < x := by omega
  simp [h1, h2]
 ·have h2 : ¬ t' < x := by omega
  simp [h1, h2]
def wnd (D : Int → Bool) (Day : Int) (m : Nat) : Nat := (over (dlist D (m + 1)) (m - Day)).length
def brkAt (u : Rules) (D : Int → Bool) (m : Nat) : Int := bif D (m : Int) then (bif decide ((stS u.Rest D m).1 + 1 > u.Drive) then 1 else bif decide ((wnd D u.Day m : Int) > u.Most) then 2 else 0) else 0
def firstB (u : Rules) (D : Int → Bool) : Nat → Nat → Int × Int
 | _, 0 => (0, 0)
 | a, n + 1 => bif brkAt u D a == 0 then firstB u D (a + 1) n else (brkAt u D a, (a : Int))
def RulesIn (u : Rules) : Prop := 1 ≤ u.Drive ∧ u.Drive ≤ 3000 ∧ 1 ≤ u.Rest ∧ u.Rest ≤ 3000 ∧ 1 ≤ u.Day ∧ u.Day ≤ 3000 ∧ 1 ≤ u.Most ∧ u.Most ≤ 3000
abbrev BV := ((Unit × Unit × Unit × Unit × Unit × Unit × Unit) × ((Int × Unit) × (Int × Unit) × (Int × Unit) × (Int × Unit) × ((List Int) × Unit) × Unit)) × List (Int × Bool × Unit)
theorem minL_sp (s t : Shift) : minL s t = some (s, t) := by rw [minL_eq]; rfl
theorem brokenL_sp (s t : Shift) (hn : s.Driver.Turns.length ≤ 1000) (hu : RulesIn s.rules) : brokenL s t = some (firstB s.rules (drv (turnsL s.Driver.Turns)) 0 3000) := by
 apply ok_eq
 rw [brokenL_eq]
 unfold brokenL'
 refine Ok.beq (minL_sp _ _) ?_
 refine Ok.beq (minutesL_sp _ _ hn) ?_
 obtain ⟨D, hD⟩ : ∃ D, drv (turnsL s.Driver.Turns) = D := ⟨_, rfl⟩
 rw [hD]
 obtain ⟨_, _, _, _, hd1, hd2, _, _⟩ := hu
 refine (Ok.roundsD (P := fun (v : BV) r => r = firstB s.rules D (3000 - v.2.length) v.2.length) (fun (v : BV) => ∃ a : Nat, a ≤ 3000 ∧ v.2 = itemsOf D a (3000 - a) ∧ v.1.2.2.2.1.1 = (stS s.rules.Rest D a).1 ∧ v.1.2.2.2.2.1.1 = (stS s.rules.Rest D a).2 ∧ ∃ t : Int, t < a - s.rules.Day ∧ v.1.2.2.2.2.2.1.1 = over (dlist D a) t) (fun (v : BV) => v.2.length) ?_ ?_ ?_).mono ?_
 ·simp [itemsOf, FUEL]
 ·refine ⟨0, by omega, rfl, rfl, rfl, -3001, by simp; omega, rfl⟩
 ·rintro ⟨⟨⟨u1, u2, u3, u4, u5, u6, u7⟩, ⟨ru, ⟨⟩⟩, ⟨mi, ⟨⟩⟩, ⟨si, ⟨⟩⟩, ⟨id, ⟨⟩⟩, ⟨dr, ⟨⟩⟩, ⟨⟩⟩, its⟩ kn ⟨a, ha, h1, h2, h3, t0, h4, h5⟩ hk
  simp only at h1 h2 h3 h5 hk ⊢
  have hl : its.length = 3000 - a := by rw [h1]; simp [itemsOf]
  cases its with
  | nil =>
   simp only [brokenL_E4]
   exact Ok.some rfl
  | cons it0 its =>
   have hl' : its.length + 1 = 3000 - a := hl
   have ha' : a < 3000 := by omega
   obtain ⟨n, hn0⟩ : ∃ n, 3000 - a = n + 1 := ⟨2999 - a, by omega⟩
   rw [hn0, items_succ] at h1
   obtain ⟨rfl, rfl⟩ := List.cons.inj h1
   have hn1 : n = 3000 - (a + 1) := by omega
   simp only
   unfold brokenL_L4
   obtain ⟨b1, b2, b3, b4⟩ := stS_bnd s.rules.Rest D a
   have hlen : (itemsOf D (a + 1) n).length = n := by simp [itemsOf]
   have e0 : 3000 - ((((a : Int), D a, ()) :: itemsOf D (a + 1) n).length) = a := by rw [List.length_cons, hlen]; omega
   have e1 : (((a : Int), D a, ()) :: itemsOf D (a + 1) n).length = n + 1 := by rw [List.length_cons, hlen]
   have hstep : brkAt s.rules D a = 0 → firstB s.rules D a (n + 1) = firstB s.rules D (a + 1) n := fun h => by simp only [firstB, h]; rfl
   have next : ∀ (ru mi si id : Int) (dr : List Int), brkAt s.rules D a = 0 → si = (stS s.rules.Rest D (a + 1)).1 → id = (stS s.rules.Rest D (a + 1)).2 → (∃ t : Int, t < ((a + 1 : Nat) : Int) - s.rules.Day ∧ dr = over (dlist D (a + 1)) t) →
     Ok (fun r => r = firstB s.rules D (3000 - ((((a : Int), D a, ()) :: itemsOf D (a + 1) n).length)) ((((a : Int), D a, ()) :: itemsOf D (a + 1) n).length)) (kn ((((), (), (), (), (), (), ()), ((ru, ()), (mi, ()), (si, ()), (id, ()), (dr, ()), ())), itemsOf D (a + 1) n)) := fun ru mi si id dr hb hs hi ht => by
    obtain ⟨r, hr1, hr2⟩ := hk ((((), (), (), (), (), (), ()), ((ru, ()), (mi, ()), (si, ()), (id, ()), (dr, ()), ())), itemsOf D (a + 1) n) ⟨a + 1, by omega, by rw [hn1], hs, hi, ht⟩ (by rw [e1, hlen]; omega)
    refine ⟨r, hr1, ?_⟩
    simp only [hlen] at hr2
    rw [e0, e1, hstep hb, hr2]
    congr 1; omega
   cases hDa : D (a : Int) with
   | false =>
    have hb0 : brkAt s.rules D a = 0 := by simp [brkAt, hDa]
    have hd0 : dlist D (a + 1) = dlist D a := by rw [dlist_succ, hDa]; rfl
    rw [hDa] at next
    have e2 : w64 (id + 1) = id + 1 := w64_id (by omega) (by omega)
    simp only [Bool.not_false, cond_true, e2]
    have hst : stS s.rules.Rest D (a + 1) = (bif decide (id + 1 ≥ s.rules.Rest) then 0 else si, id + 1) := by simp only [stS, hDa, cond_false, h2, h3]
    refine Ok.ite (fun hc => ?_) (fun hc => ?_)
    ·exact next ru mi 0 (id + 1) dr hb0 (by rw [hst, hc]; rfl) (by rw [hst]) ⟨t0, by push_cast; omega, by rw [hd0, h5]⟩
    ·exact next ru mi si (id + 1) dr hb0 (by rw [hst, hc]; rfl) (by rw [hst]) ⟨t0, by push_cast; omega, by rw [hd0, h5]⟩
   | true =>
    rw [hDa] at next
    have hd0 : dlist D (a + 1) = dlist D a ++ [(a : Int)] := by rw [dlist_succ, hDa]; rfl
    have hsr := dlist_srt D (a + 1)
    have hov : dr ++ [(a : Int)] = over (dlist D (a + 1)) t0 := by
     have : t0 < (a : Int) := by omega
     rw [hd0, h5]; simp [over, this]
    have hdl : dr.length ≤ 3000 := by
     rw [h5]
     exact Nat.le_trans (List.length_filter_le _ _) (Nat.le_trans (dlist_len D a) ha)
    simp only [Bool.not_true, cond_false]
    refine Ok.chk (fitA_ok (by simp only [List.length_cons, List.length_nil]; omega) (by decide)) ?_
    have e3 : w64 ((a : Int) - s.rules.Day) = (a : Int) - s.rules.Day := w64_id (by omega) (by omega)
    have e4 : w64 (si + 1) = si + 1 := w64_id (by omega) (by omega)
    have hst : stS s.rules.Rest D (a + 1) = (si + 1, 0) := by simp only [stS, hDa, cond_true, h2]
    refine Ok.rounds (fun v => ∃ t : Int, t ≤ (a : Int) - s.rules.Day ∧ v.2.1.1 = over (dlist D (a + 1)) t) (fun v => v.2.1.1.length) ?_ ⟨t0, by omega, hov⟩ ?_
    ·simp only [List.length_append, List.length_cons, List.length_nil]; unfold FUEL; omega
    rintro ⟨⟨w1, w2, w3, w4, w5, w6, w7⟩, ⟨d, ⟨⟩⟩, ⟨⟩⟩ kn2 ⟨t, ht, hd⟩ hk2
    simp only at hd hk2 ⊢
    unfold brokenL_L11
    have hma : (a : Int) ∈ d := by
     rw [hd]; simp only [over, List.mem_filter, decide_eq_true_eq]
     exact ⟨by rw [hd0]; simp, by omega⟩
    cases d with
    | nil => cases hma
    | cons h tl =>
     refine Ok.chk (by simp) ?_
     refine Ok.chk (by simp) ?_
     obtain ⟨q1, q2, q3⟩ := over_tail hsr hd.symm
     simp only [List.getD_cons_zero, e3]
     refine Ok.ite (fun hc => ?_) (fun hc => ?_)
     ·have hc := of_decide_eq_true hc
      refine Ok.chk (by simp; omega) ?_
      have e5 : subL (h :: tl) 1 ((h :: tl).length : Int) = tl := by simp [subL]
      rw [e5]
      exact hk2 (((), (), (), (), (), (), ()), ((tl, ()), ())) ⟨h, hc, q1⟩ (by simp)
     ·have hc := of_decide_eq_false hc
      have hw : (h :: tl) = over (dlist D (a + 1)) ((a : Int) - s.rules.Day) := by rw [hd]; exact over_same hsr hd.symm ht (by omega)
      have hlw : (h :: tl).length = wnd D s.rules.Day a := by rw [hw]; rfl
      rw [e4, hlw]
      have hb : brkAt s.rules D a = bif decide (si + 1 > s.rules.Drive) then 1 else bif decide ((wnd D s.rules.Day a : Int) > s.rules.Most) then 2 else 0 := by simp only [brkAt, hDa, cond_true, h2]
      have hst2 : ∀ k : Int, k ≠ 0 → brkAt s.rules D a = k → firstB s.rules D a (n + 1) = (k, (a : Int)) := fun k h0 hk => by
       have : (k == 0) = false := by simpa using h0
       simp only [firstB, hk, this, cond_false]
      refine Ok.ite (fun hc1 => ?_) (fun hc1 => ?_)
      ·refine Ok.some ?_
       rw [hDa] at e0 e1
       rw [e0, e1, hst2 1 (by decide) (by rw [hb, hc1]; rfl)]
      ·refine Ok.ite (fun hc2 => ?_) (fun hc2 => ?_)
       ·refine Ok.some ?_
        rw [hDa] at e0 e1
        rw [e0, e1, hst2 2 (by decide) (by rw [hb, hc1, hc2]; rfl)]
       ·exact next ru mi (si + 1) 0 (h :: tl) (by rw [hb, hc1, hc2]; rfl) (by rw [hst]) (by rw [hst]) ⟨(a : Int) - s.rules.Day, by push_cast; omega, hw⟩
 ·intro r hr
  rw [hr]
  simp [itemsOf]
theorem minS_sp (s t : Shift) : minS s t = some (s, t) := by rw [minS_eq]; rfl
theorem brokenS_sp (s t : Shift) (hn : s.Driver.Turns.length ≤ 1000) (hu : RulesIn s.rules) : brokenS s t = some (firstB s.rules (drv (turnsS s.Driver.Turns)) 0 3000) := by
 apply ok_eq
 rw [brokenS_eq]
 unfold brokenS'
 refine Ok.beq (minS_sp _ _) ?_
 refine Ok.beq (minutesS_sp _ _ hn) ?_
 obtain ⟨D, hD⟩ : ∃ D, drv (turnsS s.Driver.Turns) = D := ⟨_, rfl⟩
 rw [hD]
 obtain ⟨_, _, _, _, hd1, hd2, _, _⟩ := hu
 refine (Ok.roundsD (P := fun (v : BV) r => r = firstB s.rules D (3000 - v.2.length) v.2.length) (fun (v : BV) => ∃ a : Nat, a ≤ 3000 ∧ v.2 = itemsOf D a (3000 - a) ∧ v.1.2.2.2.1.1 = (stS s.rules.Rest D a).1 ∧ v.1.2.2.2.2.1.1 = (stS s.rules.Rest D a).2 ∧ ∃ t : Int, t < a - s.rules.Day ∧ v.1.2.2.2.2.2.1.1 = over (dlist D a) t) (fun (v : BV) => v.2.length) ?_ ?_ ?_).mono ?_
 ·simp [itemsOf, FUEL]
 ·refine ⟨0, by omega, rfl, rfl, rfl, -3001, by simp; omega, rfl⟩
 ·rintro ⟨⟨⟨u1, u2, u3, u4, u5, u6, u7⟩, ⟨ru, ⟨⟩⟩, ⟨mi, ⟨⟩⟩, ⟨si, ⟨⟩⟩, ⟨id, ⟨⟩⟩, ⟨dr, ⟨⟩⟩, ⟨⟩⟩, its⟩ kn ⟨a, ha, h1, h2, h3, t0, h4, h5⟩ hk
  simp only at h1 h2 h3 h5 hk ⊢
  have hl : its.length = 3000 - a := by rw [h1]; simp [itemsOf]
  cases its with
  | nil =>
   simp only [brokenS_E4]
   exact Ok.some rfl
  | cons it0 its =>
   have hl' : its.length + 1 = 3000 - a := hl
   have ha' : a < 3000 := by omega
   obtain ⟨n, hn0⟩ : ∃ n, 3000 - a = n + 1 := ⟨2999 - a, by omega⟩
   rw [hn0, items_succ] at h1
   obtain ⟨rfl, rfl⟩ := List.cons.inj h1
   have hn1 : n = 3000 - (a + 1) := by omega
   simp only
   unfold brokenS_L4
   obtain ⟨b1, b2, b3, b4⟩ := stS_bnd s.rules.Rest D a
   have hlen : (itemsOf D (a + 1) n).length = n := by simp [itemsOf]
   have e0 : 3000 - ((((a : Int), D a, ()) :: itemsOf D (a + 1) n).length) = a := by rw [List.length_cons, hlen]; omega
   have e1 : (((a : Int), D a, ()) :: itemsOf D (a + 1) n).length = n + 1 := by rw [List.length_cons, hlen]
   have hstep : brkAt s.rules D a = 0 → firstB s.rules D a (n + 1) = firstB s.rules D (a + 1) n := fun h => by simp only [firstB, h]; rfl
   have next : ∀ (ru mi si id : Int) (dr : List Int), brkAt s.rules D a = 0 → si = (stS s.rules.Rest D (a + 1)).1 → id = (stS s.rules.Rest D (a + 1)).2 → (∃ t : Int, t < ((a + 1 : Nat) : Int) - s.rules.Day ∧ dr = over (dlist D (a + 1)) t) →
     Ok (fun r => r = firstB s.rules D (3000 - ((((a : Int), D a, ()) :: itemsOf D (a + 1) n).length)) ((((a : Int), D a, ()) :: itemsOf D (a + 1) n).length)) (kn ((((), (), (), (), (), (), ()), ((ru, ()), (mi, ()), (si, ()), (id, ()), (dr, ()), ())), itemsOf D (a + 1) n)) := fun ru mi si id dr hb hs hi ht => by
    obtain ⟨r, hr1, hr2⟩ := hk ((((), (), (), (), (), (), ()), ((ru, ()), (mi, ()), (si, ()), (id, ()), (dr, ()), ())), itemsOf D (a + 1) n) ⟨a + 1, by omega, by rw [hn1], hs, hi, ht⟩ (by rw [e1, hlen]; omega)
    refine ⟨r, hr1, ?_⟩
    simp only [hlen] at hr2
    rw [e0, e1, hstep hb, hr2]
    congr 1; omega
   cases hDa : D (a : Int) with
   | false =>
    have hb0 : brkAt s.rules D a = 0 := by simp [brkAt, hDa]
    have hd0 : dlist D (a + 1) = dlist D a := by rw [dlist_succ, hDa]; rfl
    rw [hDa] at next
    have e2 : w64 (id + 1) = id + 1 := w64_id (by omega) (by omega)
    simp only [Bool.not_false, cond_true, e2]
    have hst : stS s.rules.Rest D (a + 1) = (bif decide (id + 1 ≥ s.rules.Rest) then 0 else si, id + 1) := by simp only [stS, hDa, cond_false, h2, h3]
    refine Ok.ite (fun hc => ?_) (fun hc => ?_)
    ·exact next ru mi 0 (id + 1) dr hb0 (by rw [hst, hc]; rfl) (by rw [hst]) ⟨t0, by push_cast; omega, by rw [hd0, h5]⟩
    ·exact next ru mi si (id + 1) dr hb0 (by rw [hst, hc]; rfl) (by rw [hst]) ⟨t0, by push_cast; omega, by rw [hd0, h5]⟩
   | true =>
    rw [hDa] at next
    have hd0 : dlist D (a + 1) = dlist D a ++ [(a : Int)] := by rw [dlist_succ, hDa]; rfl
    have hsr := dlist_srt D (a + 1)
    have hov : dr ++ [(a : Int)] = over (dlist D (a + 1)) t0 := by
     have : t0 < (a : Int) := by omega
     rw [hd0, h5]; simp [over, this]
    have hdl : dr.length ≤ 3000 := by
     rw [h5]
     exact Nat.le_trans (List.length_filter_le _ _) (Nat.le_trans (dlist_len D a) ha)
    simp only [Bool.not_true, cond_false]
    refine Ok.chk (fitA_ok (by simp only [List.length_cons, List.length_nil]; omega) (by decide)) ?_
    have e3 : w64 ((a : Int) - s.rules.Day) = (a : Int) - s.rules.Day := w64_id (by omega) (by omega)
    have e4 : w64 (si + 1) = si + 1 := w64_id (by omega) (by omega)
    have hst : stS s.rules.Rest D (a + 1) = (si + 1, 0) := by simp only [stS, hDa, cond_true, h2]
    refine Ok.rounds (fun v => ∃ t : Int, t ≤ (a : Int) - s.rules.Day ∧ v.2.1.1 = over (dlist D (a + 1)) t) (fun v => v.2.1.1.length) ?_ ⟨t0, by omega, hov⟩ ?_
    ·simp only [List.length_append, List.length_cons, List.length_nil]; unfold FUEL; omega
    rintro ⟨⟨w1, w2, w3, w4, w5, w6, w7⟩, ⟨d, ⟨⟩⟩, ⟨⟩⟩ kn2 ⟨t, ht, hd⟩ hk2
    simp only at hd hk2 ⊢
    unfold brokenS_L11
    have hma : (a : Int) ∈ d := by
     rw [hd]; simp only [over, List.mem_filter, decide_eq_true_eq]
     exact ⟨by rw [hd0]; simp, by omega⟩
    cases d with
    | nil => cases hma
    | cons h tl =>
     refine Ok.chk (by simp) ?_
     refine Ok.chk (by simp) ?_
     obtain ⟨q1, q2, q3⟩ := over_tail hsr hd.symm
     simp only [List.getD_cons_zero, e3]
     refine Ok.ite (fun hc => ?_) (fun hc => ?_)
     ·have hc := of_decide_eq_true hc
      refine Ok.chk (by simp; omega) ?_
      have e5 : subL (h :: tl) 1 ((h :: tl).length : Int) = tl := by simp [subL]
      rw [e5]
      exact hk2 (((), (), (), (), (), (), ()), ((tl, ()), ())) ⟨h, hc, q1⟩ (by simp)
     ·have hc := of_decide_eq_false hc
      have hw : (h :: tl) = over (dlist D (a + 1)) ((a : Int) - s.rules.Day) := by rw [hd]; exact over_same hsr hd.symm ht (by omega)
      have hlw : (h :: tl).length = wnd D s.rules.Day a := by rw [hw]; rfl
      rw [e4, hlw]
      have hb : brkAt s.rules D a = bif decide (si + 1 > s.rules.Drive) then 1 else bif decide ((wnd D s.rules.Day a : Int) > s.rules.Most) then 2 else 0 := by simp only [brkAt, hDa, cond_true, h2]
      have hst2 : ∀ k : Int, k ≠ 0 → brkAt s.rules D a = k → firstB s.rules D a (n + 1) = (k, (a : Int)) := fun k h0 hk => by
       have : (k == 0) = false := by simpa using h0
       simp only [firstB, hk, this, cond_false]
      refine Ok.ite (fun hc1 => ?_) (fun hc1 => ?_)
      ·refine Ok.some ?_
       rw [hDa] at e0 e1
       rw [e0, e1, hst2 1 (by decide) (by rw [hb, hc1]; rfl)]
      ·refine Ok.ite (fun hc2 => ?_) (fun hc2 => ?_)
       ·refine Ok.some ?_
        rw [hDa] at e0 e1
        rw [e0, e1, hst2 2 (by decide) (by rw [hb, hc1, hc2]; rfl)]
       ·exact next ru mi (si + 1) 0 (h :: tl) (by rw [hb, hc1, hc2]; rfl) (by rw [hst]) (by rw [hst]) ⟨(a : Int) - s.rules.Day, by push_cast; omega, hw⟩
 ·intro r hr
  rw [hr]
  simp [itemsOf]
theorem firstB_zero {u : Rules} {D : Int → Bool} : ∀ {n a : Nat}, (∀ m, a ≤ m → m < a + n → brkAt u D m = 0) → firstB u D a n = (0, 0)
 | 0, a, _ => rfl
 | n + 1, a, h => by
  have h0 := h a (Nat.le_refl _) (by omega)
  simp only [firstB, h0]
  exact firstB_zero fun m h1 h2 => h m (by omega) (by omega)
theorem firstB_cut {u : Rules} {D : Int → Bool} : ∀ {n a k : Nat}, (∀ m, a + n ≤ m → brkAt u D m = 0) → firstB u D a (n + k) = firstB u D a n
 | 0, a, k, h => by
  rw [firstB_zero fun m h1 h2 => h m (by omega)]; rfl
 | n + 1, a, k, h => by
  rw [show n + 1 + k = (n + k) + 1 by omega]
  simp only [firstB]
  rw [firstB_cut fun m hm => h m (by omega)]
theorem drv_false {ts : List (Int × Int)} {m : Int} (h : ∀ t ∈ ts, t.2 ≤ m) : drv ts m = false := by
 unfold drv
 rw [List.any_eq_false]
 intro t ht
 have := h t ht
 simp; omega
def TV (t : Turn) : Prop := 0 ≤ t.From.Lo ∧ t.From.Lo ≤ t.From.Hi ∧ t.From.Hi ≤ t.To.Lo ∧ t.To.Lo ≤ t.To.Hi
theorem within_sp (n a b : Int) : within n a b = some (decide (a ≤ n) && decide (n ≤ b)) := by
 rw [within_eq]
 unfold within'
 cases decide (a ≤ n) <;> rfl
theorem within_yes {n a b : Int} (h1 : a ≤ n) (h2 : n ≤ b) : within n a b = some true := by rw [within_sp, decide_eq_true h1, decide_eq_true h2]; rfl
theorem moment_ok {x : Span} (h0 : 0 ≤ x.Lo) (h1 : x.Lo ≤ x.Hi) (h2 : x.Hi ≤ 3000) : moment x = some 0 := by
 rw [moment_eq]
 unfold moment'
 rw [within_yes h0 (by omega), within_yes (by omega) h2]
 have : decide (x.Lo > x.Hi) = false := decide_eq_false (by omega)
 simp [this]
def az : ByteArray := ⟨#[97, 98, 99, 100, 101, 102, 103, 104, 105, 106, 107, 108, 109, 110, 111, 112, 113, 114, 115, 116, 117, 118, 119, 120, 121, 122]⟩
def NameOk (b : ByteArray) : Prop := 1 ≤ b.size ∧ b.size ≤ 8 ∧ ∃ r, Tx.trim b az = some r ∧ (r.toList == (⟨#[]⟩ : ByteArray).toList) = true
structure DOk (d : Driver) : Prop where
 nm : NameOk d.Name
 sk : 0 ≤ d.Skills ∧ d.Skills ≤ 255
 len : d.Turns.length ≤ 20
 tv : ∀ t ∈ d.Turns, TV t ∧ t.To.Hi ≤ 3000
 srt : d.Turns.Pairwise fun a b => a.To.Hi ≤ b.From.Lo
theorem srt_at {l : List Turn} (h : l.Pairwise fun a b => a.To.Hi ≤ b.From.Lo) {i : Nat} (hi : i + 1 < l.length) : (l.getD i dfltTurn).To.Hi ≤ (l.getD (i + 1) dfltTurn).From.Lo := by
 rw [List.getD_eq_getElem?_getD, List.getD_eq_getElem?_getD, List.getElem?_eq_getElem (by omega), List.getElem?_eq_getElem hi]
 exact List.pairwise_iff_getElem.1 h i (i + 1) (by omega) hi (by omega)
theorem pCheck_ok {d : Driver} (h : DOk d) : pCheck d = some 0 := by
 obtain ⟨⟨s1, s2, r, hr, he⟩, ⟨k1, k2⟩, hl, ht, hs⟩ := h
 apply ok_eq
 rw [pCheck_eq]
 unfold pCheck'
 refine Ok.no (decide_eq_false (by omega)) ?_
 refine Ok.no (decide_eq_false (by omega)) ?_
 refine Ok.beq hr ?_
 refine Ok.no (by rw [he]; rfl) ?_
 refine Ok.beq (within_yes k1 k2) ?_
 refine Ok.no rfl ?_
 refine Ok.no (decide_eq_false (by omega)) ?_
 refine Ok.rounds (fun v => 0 ≤ v.1.2.1 ∧ v.1.2.1 ≤ d.Turns.length) (fun v => (d.Turns.length - v.1.2.1).toNat) ?_ ⟨by decide, by simp⟩ ?_
 ·simp only; unfold FUEL; omega
 rintro ⟨⟨u1, i, u2⟩, u3⟩ kn ⟨h1, h2⟩ hk
 simp only at h1 h2 hk ⊢
 unfold pCheck_L10__3
 refine Ok.ite (fun hc => ?_) (fun hc => Ok.some rfl)
 have hi := of_decide_eq_true hc
 obtain ⟨tv, t3⟩ := ht _ (getD_mem (d := dfltTurn) (l := d.Turns) (i := i.toNat) (by omega))
 obtain ⟨t0, t1, t2, t4⟩ := tv
 have e1 : w64 (i + 1) = i + 1 := w64_id (by omega) (by omega)
 have next : Ok (fun r => r = 0) (kn ((u1, i + 1, u2), u3)) := hk ((u1, i + 1, u2), u3) ⟨by simp only; omega, by simp only; omega⟩ (by simp only; omega)
 simp only [e1]
 refine Ok.chk (ib h1 hi) ?_
 refine Ok.beq (moment_ok t0 t1 (by omega)) ?_
 refine Ok.no rfl ?_
 refine Ok.beq (moment_ok (by omega) t4 t3) ?_
 refine Ok.no rfl ?_
 refine Ok.no (decide_eq_false (by omega)) ?_
 refine Ok.ite (fun hc2 => ?_) (fun _ => next)
 have hp := of_decide_eq_true hc2
 have e2 : w64 (i - 1) = i - 1 := w64_id (by omega) (by omega)
 simp only [e2]
 refine Ok.chk (ib (by omega) (by omega)) ?_
 have := srt_at hs (i := (i - 1).toNat) (by omega)
 rw [show (i - 1).toNat + 1 = i.toNat by omega] at this
 exact Ok.no (decide_eq_false (by omega)) next
def DL (d : Driver) : Int → Bool := drv (turnsL d.Turns)
def DS (d : Driver) : Int → Bool := drv (turnsS d.Turns)
def verdictS (u : Rules) (d : Driver) : Int := bif (firstB u (DL d) 0 3000).1 == 0 then 1 else bif (firstB u (DS d) 0 3000).1 != 0 then 2 else 3
theorem pVerdict_sp {s : Shift} (hn : s.Driver.Turns.length ≤ 1000) (hu : RulesIn s.rules) : pVerdict s = some (verdictS s.rules s.Driver) := by
 rw [pVerdict_eq]
 unfold pVerdict'
 rw [brokenL_sp s s hn hu, brokenS_sp s s hn hu]
 unfold verdictS DL DS
 simp only [Option.bind_some]
 cases (firstB s.rules (drv (turnsL s.Driver.Turns)) 0 3000).1 == 0 <;> simp only [cond_true, cond_false]
 cases (firstB s.rules (drv (turnsS s.Driver.Turns)) 0 3000).1 != 0 <;> rfl
def newT (a long : Int) : Turn := ⟨⟨a, a⟩, ⟨a + long, a + long⟩⟩
def addT (d : Driver) (a long : Int) : Driver := ⟨d.Name, d.Skills, d.Turns ++ [newT a long]⟩
theorem cpL_rep {α : Type} (l : List α) (x : α) : cpL (List.replicate (l.length + 1) x) l = l ++ [x] := by
 simp only [cpL, List.length_replicate]
 rw [List.take_of_length_le (by omega), List.drop_replicate]
 simp
theorem more_sp (s : Shift) {a long : Int} (hn : s.Driver.Turns.length ≤ 1000) (h1 : -100000 ≤ a + long) (h2 : a + long ≤ 100000) : more s a long = some ⟨addT s.Driver a long, s.rules⟩ := by
 rw [more_eq]
 unfold more'
 have e1 : w64 ((s.Driver.Turns.length : Int) + 1) = ((s.Driver.Turns.length + 1 : Nat) : Int) := by rw [w64_id (by omega) (by omega)]; simp
 have e2 : w64 (a + long) = a + long := w64_id (by omega) (by omega)
 rw [e1, e2]
 simp only [Int.toNat_natCast, cpL_rep]
 have c1 : fitM ((s.Driver.Turns.length + 1 : Nat) : Int) 32 = true := by unfold fitM; simp; omega
 rw [c1]
 simp only [chk, cond_true, List.length_append, List.length_cons, List.length_nil]
 have c2 : (decide (0 ≤ (s.Driver.Turns.length : Int)) && decide ((s.Driver.Turns.length : Int) < ((s.Driver.Turns.length + (0 + 1) : Nat) : Int))) = true := by simp; omega
 have c3 : decide (s.Driver.Turns.length < s.Driver.Turns.length + (0 + 1)) = true := by simp
 rw [c2, c3]
 simp only [cond_true, addT, newT]
 rw [List.set_append_right _ _ (Nat.le_refl _), Nat.sub_self]
 rfl
def clashB (l : List Turn) (a long : Int) : Bool := l.any fun t => decide (a < t.To.Hi) && decide (a + long > t.From.Lo)
theorem pClashes_sp (s : Shift) {a long : Int} (hn : s.Driver.Turns.length ≤ 1000) (h1 : -100000 ≤ a + long) (h2 : a + long ≤ 100000) : pClashes s a long = some (clashB s.Driver.Turns a long) := by
 apply ok_eq
 rw [pClashes_eq]
 unfold pClashes'
 have e2 : w64 (a + long) = a + long := w64_id (by omega) (by omega)
 refine (Ok.roundsD (P := fun (v : (Int × Unit) × Unit) r => r = clashB (s.Driver.Turns.drop v.1.1.toNat) a long) (fun (v : (Int × Unit) × Unit) => 0 ≤ v.1.1 ∧ v.1.1 ≤ s.Driver.Turns.length) (fun (v : (Int × Unit) × Unit) => (s.Driver.Turns.length - v.1.1).toNat) ?_ ⟨by decide, by simp⟩ ?_)
 ·simp only; unfold FUEL; omega
 rintro ⟨⟨i, u1⟩, u2⟩ kn ⟨h0, h3⟩ hk
 simp only at h0 h3 hk ⊢
 unfold pClashes_L2
 refine Ok.ite (fun hc => ?_) (fun hc => ?_)
 ·have hi := of_decide_eq_true hc
  have hi' : i.toNat < s.Driver.Turns.length := by omega
  have e1 : w64 (i + 1) = i + 1 := w64_id (by omega) (by omega)
  have hd : clashB (s.Driver.Turns.drop i.toNat) a long = ((decide (a < (s.Driver.Turns.getD i.toNat dfltTurn).To.Hi) && decide (a + long > (s.Driver.Turns.getD i.toNat dfltTurn).From.Lo)) || clashB (s.Driver.Turns.drop (i.toNat + 1)) a long) := by
   rw [drop_get (d := dfltTurn) hi']; rfl
  have next : (decide (a < (s.Driver.Turns.getD i.toNat dfltTurn).To.Hi) && decide (a + long > (s.Driver.Turns.getD i.toNat dfltTurn).From.Lo)) = false → Ok (fun r => r = clashB (s.Driver.Turns.drop i.toNat) a long) (kn ((i + 1, ()), ())) := fun hb => by
   obtain ⟨r, hr1, hr2⟩ := hk ((i + 1, ()), ()) ⟨by simp only; omega, by simp only; omega⟩ (by simp only; omega)
   refine ⟨r, hr1, ?_⟩
   simp only at hr2
   rw [hd, hb, hr2, toNat_succ h0]; rfl
  simp only [e1, e2]
  refine Ok.chk (ib h0 hi) ?_
  refine Ok.ite (fun hc2 => ?_) (fun hc2 => next (by rw [hc2]; rfl))
  refine Ok.ite (fun hc3 => ?_) (fun hc3 => next (by rw [hc3, Bool.and_false]))
  exact Ok.some (by rw [hd, hc2, hc3]; rfl)
 ·have hi := of_decide_eq_false hc
  refine Ok.some ?_
  have : s.Driver.Turns.drop i.toNat = [] := List.drop_eq_nil_of_le (by omega)
  rw [this]; rfl
def mayB (u : Rules) (d : Driver) (a long : Int) : Bool := !(clashB d.Turns a long) && ((firstB u (DL (addT d a long)) 0 3000).1 == 0)
theorem pMay1_sp (s : Shift) {a long : Int} (hn : s.Driver.Turns.length ≤ 500) (hu : RulesIn s.rules) (h1 : -100000 ≤ a + long) (h2 : a + long ≤ 100000) : pMay1 s a long = some (mayB s.rules s.Driver a long) := by
 rw [pMay1_eq]
 unfold pMay1' mayB
 rw [pClashes_sp s (by omega) h1 h2]
 simp only [Option.bind_some]
 cases clashB s.Driver.Turns a long with
 | true => rfl
 | false =>
  simp only [cond_false]
  rw [more_sp s (by omega) h1 h2]
  simp only [Option.bind_some]
  rw [brokenL_sp ⟨addT s.Driver a long, s.rules⟩ ⟨addT s.Driver a long, s.rules⟩ (by simp only [addT, List.length_append, List.length_cons, List.length_nil]; omega) hu]
  rfl
theorem firstB_short {u : Rules} {ts : List (Int × Int)} {k : Nat} (hk : k ≤ 3000) (h : ∀ t ∈ ts, t.2 ≤ k) : firstB u (drv ts) 0 3000 = firstB u (drv ts) 0 k := by
 have := firstB_cut (u := u) (D := drv ts) (n := k) (a := 0) (k := 3000 - k) (fun m hm => by
  have : drv ts (m : Int) = false := drv_false fun t ht => by have := h t ht; omega
  simp [brkAt, this])
 rw [show k + (3000 - k) = 3000 by omega] at this
 exact this
end Go.Proofs.Crew
namespace Go.Proofs.Crew
open Go Go.Ab
open Go.Proofs.YtbkogeihjcnejaaGreatDoor (iseat)
set_option linter.all false
set_option maxRecDepth 100000
def mxT : List (Int × Int) → Nat
 | [] => 0
 | t :: l => Nat.max t.2.toNat (mxT l)
theorem mxT_le : ∀ {l : List (Int × Int)} {t : Int × Int}, t ∈ l → t.2 ≤ (mxT l : Int)
 | x :: l, t, h => by
  have e : mxT (x :: l) = max x.2.toNat (mxT l) := rfl
  rcases List.mem_cons.1 h with rfl | h
  ·rw [e]; omega
  ·have := mxT_le h; rw [e]; omega
def firstF (u : Rules) (ts : List (Int × Int)) : Int × Int := firstB u (drv ts) 0 (mxT ts)
theorem firstF_eq {u : Rules} {ts : List (Int × Int)} (h : Nat.ble (mxT ts) 3000 = true) : firstB u (drv ts) 0 3000 = firstF u ts := firstB_short (Nat.le_of_ble_eq_true h) fun t ht => mxT_le ht
def rulesK (u : Rules) : Bool := decide (1 ≤ u.Drive) && decide (u.Drive ≤ 3000) && decide (1 ≤ u.Rest) && decide (u.Rest ≤ 3000) && decide (1 ≤ u.Day) && decide (u.Day ≤ 3000) && decide (1 ≤ u.Most) && decide (u.Most ≤ 3000)
theorem rulesK_ok {u : Rules} (h : rulesK u = true) : RulesIn u := by
 simp only [rulesK, Bool.and_eq_true, decide_eq_true_eq] at h
 unfold RulesIn; omega
def brkLF (s : Shift) : Option (Int × Int) := chk (Nat.ble s.Driver.Turns.length 500 && rulesK s.rules && Nat.ble (mxT (turnsL s.Driver.Turns)) 3000) (some (firstF s.rules (turnsL s.Driver.Turns)))
theorem brkLF_ok {s t : Shift} {x : Int × Int} (h : brkLF s = some x) : brokenL s t = some x := by
 obtain ⟨hc, h⟩ := chk_some h
 simp only [Bool.and_eq_true] at hc
 cases h
 rw [brokenL_sp s t (by have := Nat.le_of_ble_eq_true hc.1.1; omega) (rulesK_ok hc.1.2), firstF_eq hc.2]
def verdF (s : Shift) : Option Int := chk (Nat.ble s.Driver.Turns.length 500 && rulesK s.rules && Nat.ble (mxT (turnsL s.Driver.Turns)) 3000 && Nat.ble (mxT (turnsS s.Driver.Turns)) 3000)
 (some (bif (firstF s.rules (turnsL s.Driver.Turns)).1 == 0 then 1 else bif (firstF s.rules (turnsS s.Driver.Turns)).1 != 0 then 2 else 3))
theorem verdF_ok {s : Shift} {x : Int} (h : verdF s = some x) : pVerdict s = some x := by
 obtain ⟨hc, h⟩ := chk_some h
 simp only [Bool.and_eq_true] at hc
 cases h
 rw [pVerdict_sp (by have := Nat.le_of_ble_eq_true hc.1.1.1; omega) (rulesK_ok hc.1.1.2)]
 unfold verdictS DL DS
 rw [firstF_eq hc.1.2, firstF_eq hc.2]
def mayF (s : Shift) (a l : Int) : Option Bool := chk (Nat.ble s.Driver.Turns.length 500 && rulesK s.rules && decide (-100000 ≤ a + l) && decide (a + l ≤ 100000) && Nat.ble (mxT (turnsL (addT s.Driver a l).Turns)) 3000)
 (some (!(clashB s.Driver.Turns a l) && ((firstF s.rules (turnsL (addT s.Driver a l).Turns)).1 == 0)))
theorem mayF_ok {s : Shift} {a l : Int} {x : Bool} (h : mayF s a l = some x) : pMay1 s a l = some x := by
 obtain ⟨hc, h⟩ := chk_some h
 simp only [Bool.and_eq_true, decide_eq_true_eq] at hc
 cases h
 rw [pMay1_sp s (Nat.le_of_ble_eq_true hc.1.1.1.1) (rulesK_ok hc.1.1.1.2) hc.1.1.2 hc.1.2]
 unfold mayB DL
 rw [firstF_eq hc.2]
noncomputable section
def sp38f : FnSpec iseat.toSeat := mkSpec iseat.toSeat 38 [.Shift, .mfn 39 .Shift] [.int .i64, .int .i64] true (fun a => brkLF a.1) (fun a x hx h h' => fn_contract (Z := iseat) (ats := [.Shift, .mfn 39 .Shift]) (ts := [.int .i64, .int .i64]) (E := E38_39) (fn := Tryz.f38) (c := bodyOf Tryz.f38) Tryz.func38 (by kernel_rfl) (by kernel_rfl) (by kernel_rfl) (by kernel_rfl) rfl ((e38_39 itN a.1 a.2.1).trans ((brokenL_eq a.1 a.2.1).symm.trans (brkLF_ok hx))) h h') (fun _ x => rfl)
def sp40f : FnSpec iseat.toSeat := mkSpec iseat.toSeat 40 [.Shift] [.int .i64] true (fun a => verdF a.1) (fun a x hx h h' => fn_contract (Z := iseat) (ats := [.Shift]) (ts := [.int .i64]) (E := E40) (fn := Tryz.f40) (c := bodyOf Tryz.f40) Tryz.func40 (by kernel_rfl) (by kernel_rfl) (by kernel_rfl) (by kernel_rfl) rfl ((e40 itN a.1).trans ((pVerdict_eq a.1).symm.trans (verdF_ok hx))) h h') (fun _ x => rfl)
def sp45f : FnSpec iseat.toSeat := mkSpec iseat.toSeat 45 [.Shift, .int .i64, .int .i64] [.bool] true (fun a => mayF a.1 a.2.1 a.2.2.1) (fun a x hx h h' => fn_contract (Z := iseat) (ats := [.Shift, .int .i64, .int .i64]) (ts := [.bool]) (E := E45) (fn := Tryz.f45) (c := bodyOf Tryz.f45) Tryz.func45 (by kernel_rfl) (by kernel_rfl) (by kernel_rfl) (by kernel_rfl) rfl ((e45 itN a.1 a.2.1 a.2.2.1).trans ((pMay1_eq a.1 a.2.1 a.2.2.1).symm.trans (mayF_ok hx))) h h') (fun _ x => rfl)
end
end Go.Proofs.Crew
namespace Go.Proofs.CrewK
open Go Go.Ab
open Go.Proofs.YtbkogeihjcnejaaGreatDoor (iseat)
set_option linter.all false
set_option maxRecDepth 100000
noncomputable section
def E21 : FEnv iseat := ⟨⟨8, [], [], [], [], [], [], [], [], [], [], [], [], true⟩, []⟩
def r21 (a : argD [.int .i64, .int .i64]) := fnRun (ts := [.Span]) itN E21 (bodyOf Tryz.f21) Tryz.f21.results.toList (encA [.int .i64, .int .i64] a)
def sp21 : FnSpec iseat.toSeat := mkSpec iseat.toSeat 21 [.int .i64, .int .i64] [.Span] true r21 (fun a x hx h h' => fn_contract (Z := iseat) (ats := [.int .i64, .int .i64]) (ts := [.Span]) (E := E21) (fn := Tryz.f21) (c := bodyOf Tryz.f21) Tryz.func21 (by kernel_rfl) (by kernel_rfl) (by kernel_rfl) (by kernel_rfl) rfl hx h h') (fun _ x => rfl)
def E41 : FEnv iseat := ⟨⟨6, [sp21], [], [], [], [], [], [], [], [], [], [], [], true⟩, []⟩
def r41 (a : argD [.int .i64]) := fnRun (ts := [.Span]) itN E41 (bodyOf Tryz.f41) Tryz.f41.results.toList (encA [.int .i64] a)
def sp41 : FnSpec iseat.toSeat := mkSpec iseat.toSeat 41 [.int .i64] [.Span] true r41 (fun a x hx h h' => fn_contract (Z := iseat) (ats := [.int .i64]) (ts := [.Span]) (E := E41) (fn := Tryz.f41) (c := bodyOf Tryz.f41) Tryz.func41 (by kernel_rfl) (by kernel_rfl) (by kernel_rfl) (by kernel_rfl) rfl hx h h') (fun _ x => rfl)
def E16 : FEnv iseat := ⟨⟨2, [], [], [], [], [], [], [], [], [], [], [], [], true⟩, []⟩
def r16 (a : argD []) := fnRun (ts := [.Rules]) itN E16 (bodyOf Tryz.f16) Tryz.f16.results.toList (encA [] a)
def sp16 : FnSpec iseat.toSeat := mkSpec iseat.toSeat 16 [] [.Rules] true r16 (fun a x hx h h' => fn_contract (Z := iseat) (ats := []) (ts := [.Rules]) (E := E16) (fn := Tryz.f16) (c := bodyOf Tryz.f16) Tryz.func16 (by kernel_rfl) (by kernel_rfl) (by kernel_rfl) (by kernel_rfl) rfl hx h h') (fun _ x => rfl)
def E17 : FEnv iseat := ⟨⟨9, [sp41, sp21], [], [], [], [], [], [], [], [], [], [], [], true⟩, []⟩
def r17 (a : argD []) := fnRun (ts := [.Driver]) itN E17 (bodyOf Tryz.f17) Tryz.f17.results.toList (encA [] a)
def sp17 : FnSpec iseat.toSeat := mkSpec iseat.toSeat 17 [] [.Driver] false r17 (fun a x hx h h' => fn_contract (Z := iseat) (ats := []) (ts := [.Driver]) (E := E17) (fn := Tryz.f17) (c := bodyOf Tryz.f17) Tryz.func17 (by kernel_rfl) (by kernel_rfl) (by kernel_rfl) (by kernel_rfl) rfl hx h h') (fun h => nomatch h)
def E19 : FEnv iseat := ⟨⟨30, [sp41], [], [], [], [], [], [], [], [], [], [26], [], true⟩, []⟩
def r19 (a : argD [.sl (.int .i64)]) := fnRun (ts := [.Driver]) itN E19 (bodyOf Tryz.f19) Tryz.f19.results.toList (encA [.sl (.int .i64)] a)
def sp19 : FnSpec iseat.toSeat := mkSpec iseat.toSeat 19 [.sl (.int .i64)] [.Driver] false r19 (fun a x hx h h' => fn_contract (Z := iseat) (ats := [.sl (.int .i64)]) (ts := [.Driver]) (E := E19) (fn := Tryz.f19) (c := bodyOf Tryz.f19) Tryz.func19 (by kernel_rfl) (by kernel_rfl) (by kernel_rfl) (by kernel_rfl) rfl hx h h') (fun h => nomatch h)
def E46 : FEnv iseat := ⟨⟨13, [Crew.sp47], [], [], [], [], [], [], [], [], [], [], [], true⟩, []⟩
def r46 (a : argD [.Scale]) := fnRun (ts := [.int .i64]) itN E46 (bodyOf Tryz.f46) Tryz.f46.results.toList (encA [.Scale] a)
def sp46 : FnSpec iseat.toSeat := mkSpec iseat.toSeat 46 [.Scale] [.int .i64] true r46 (fun a x hx h h' => fn_contract (Z := iseat) (ats := [.Scale]) (ts := [.int .i64]) (E := E46) (fn := Tryz.f46) (c := bodyOf Tryz.f46) Tryz.func46 (by kernel_rfl) (by kernel_rfl) (by kernel_rfl) (by kernel_rfl) rfl hx h h') (fun _ x => rfl)
def E20 : FEnv iseat := ⟨⟨44, [sp46, Crew.sp47], [], [], [], [], [], [], [], [], [], [], [], true⟩, []⟩
def r20 (a : argD [.Scale, .int .i64]) := fnRun (ts := [.Span, .int .i64]) itN E20 (bodyOf Tryz.f20) Tryz.f20.results.toList (encA [.Scale, .int .i64] a)
def sp20 : FnSpec iseat.toSeat := mkSpec iseat.toSeat 20 [.Scale, .int .i64] [.Span, .int .i64] true r20 (fun a x hx h h' => fn_contract (Z := iseat) (ats := [.Scale, .int .i64]) (ts := [.Span, .int .i64]) (E := E20) (fn := Tryz.f20) (c := bodyOf Tryz.f20) Tryz.func20 (by kernel_rfl) (by kernel_rfl) (by kernel_rfl) (by kernel_rfl) rfl hx h h') (fun _ x => rfl)
def E15 : FEnv iseat := ⟨⟨30, [Crew.sp37, Crew.sp39, Crew.sp38f, Crew.sp40f], [], [], [], [], [], [], [], [], [], [], [], true⟩, []⟩
def r15 (a : argD [.Rules, .Driver]) := fnRun (ts := [.int .i64, .int .i64, .int .i64, .int .i64]) itN E15 (bodyOf Tryz.f15) Tryz.f15.results.toList (encA [.Rules, .Driver] a)
def sp15 : FnSpec iseat.toSeat := mkSpec iseat.toSeat 15 [.Rules, .Driver] [.int .i64, .int .i64, .int .i64, .int .i64] true r15 (fun a x hx h h' => fn_contract (Z := iseat) (ats := [.Rules, .Driver]) (ts := [.int .i64, .int .i64, .int .i64, .int .i64]) (E := E15) (fn := Tryz.f15) (c := bodyOf Tryz.f15) Tryz.func15 (by kernel_rfl) (by kernel_rfl) (by kernel_rfl) (by kernel_rfl) rfl hx h h') (fun _ x => rfl)
def E42 : FEnv iseat := ⟨⟨45, [Crew.sp37, Crew.sp47, Crew.sp59, Crew.sp60, Crew.sp40f], [], [], [], [], [], [], [], [], [], [], [], true⟩, []⟩
def r42 (a : argD [.Rules, .Driver, .int .i64, .int .i64]) := fnRun (ts := [.int .i64, .int .i64]) itN E42 (bodyOf Tryz.f42) Tryz.f42.results.toList (encA [.Rules, .Driver, .int .i64, .int .i64] a)
def sp42 : FnSpec iseat.toSeat := mkSpec iseat.toSeat 42 [.Rules, .Driver, .int .i64, .int .i64] [.int .i64, .int .i64] true r42 (fun a x hx h h' => fn_contract (Z := iseat) (ats := [.Rules, .Driver, .int .i64, .int .i64]) (ts := [.int .i64, .int .i64]) (E := E42) (fn := Tryz.f42) (c := bodyOf Tryz.f42) Tryz.func42 (by kernel_rfl) (by kernel_rfl) (by kernel_rfl) (by kernel_rfl) rfl hx h h') (fun _ x => rfl)
def E44 : FEnv iseat := ⟨⟨10, [Crew.sp45f], [], [], [], [], [], [], [], [], [], [], [], true⟩, []⟩
def r44 (a : argD [.int .i64, .ptr .Shift, .ptr (.int .i64)]) := fnRun (ts := [.bool]) itN E44 (bodyOf Tryz.f44) Tryz.f44.results.toList (encA [.int .i64, .ptr .Shift, .ptr (.int .i64)] a)
def sp44 : FnSpec iseat.toSeat := mkSpec iseat.toSeat 44 [.int .i64, .ptr .Shift, .ptr (.int .i64)] [.bool] true r44 (fun a x hx h h' => fn_contract (Z := iseat) (ats := [.int .i64, .ptr .Shift, .ptr (.int .i64)]) (ts := [.bool]) (E := E44) (fn := Tryz.f44) (c := bodyOf Tryz.f44) Tryz.func44 (by kernel_rfl) (by kernel_rfl) (by kernel_rfl) (by kernel_rfl) rfl hx h h') (fun _ x => rfl)
def E43 : FEnv iseat := ⟨⟨26, [sp44], [], [], [], [], [], [], [], [], [], [], [], true⟩, []⟩
def r43 (a : argD [.int .i64, .clo2 44 .Shift (.int .i64)]) := fnRun (ts := [.int .i64]) itN E43 (bodyOf Tryz.f43) Tryz.f43.results.toList (encA [.int .i64, .clo2 44 .Shift (.int .i64)] a)
def sp43 : FnSpec iseat.toSeat := mkSpec iseat.toSeat 43 [.int .i64, .clo2 44 .Shift (.int .i64)] [.int .i64] true r43 (fun a x hx h h' => fn_contract (Z := iseat) (ats := [.int .i64, .clo2 44 .Shift (.int .i64)]) (ts := [.int .i64]) (E := E43) (fn := Tryz.f43) (c := bodyOf Tryz.f43) Tryz.func43 (by kernel_rfl) (by kernel_rfl) (by kernel_rfl) (by kernel_rfl) rfl hx h h') (fun _ x => rfl)
def E18 : FEnv iseat := ⟨⟨30, [sp42, sp44, sp43], [], [], [], [], [], [], [], [], [], [], [], true⟩, []⟩
def r18 (a : argD [.Rules, .Driver, .int .i64]) := fnRun (ts := [.int .i64, .int .i64]) itN E18 (bodyOf Tryz.f18) Tryz.f18.results.toList (encA [.Rules, .Driver, .int .i64] a)
def sp18 : FnSpec iseat.toSeat := mkSpec iseat.toSeat 18 [.Rules, .Driver, .int .i64] [.int .i64, .int .i64] true r18 (fun a x hx h h' => fn_contract (Z := iseat) (ats := [.Rules, .Driver, .int .i64]) (ts := [.int .i64, .int .i64]) (E := E18) (fn := Tryz.f18) (c := bodyOf Tryz.f18) Tryz.func18 (by kernel_rfl) (by kernel_rfl) (by kernel_rfl) (by kernel_rfl) rfl hx h h') (fun _ x => rfl)
def E6 : FEnv iseat := ⟨⟨60, [sp16, sp17, sp15, sp19, sp18, sp20, sp21], [], [], [], [], [], [], [], [], [], [19], [], true⟩, []⟩
def r6 (a : argD []) := fnRun (ts := [.bool]) itN E6 (bodyOf Tryz.f6) Tryz.f6.results.toList (encA [] a)
end
end Go.Proofs.CrewK
namespace Go.Proofs.Tp09
open Go Go.Ab
open Go.Proofs.YtbkogeihjcnejaaGreatDoor (iseat)
set_option linter.all false
set_option maxRecDepth 100000
theorem t6 : CrewK.r6 () = some true := by kernel_rfl
noncomputable section
def awake : Option Bool := opq (some true)
theorem awake_eq : awake = some true := by unfold awake; rw [opq_eq]
def sp6 : FnSpec iseat.toSeat := mkSpec iseat.toSeat 6 [] [.bool] true (fun _ => awake) (fun a x hx h h' => by
 replace hx : awake = some x := hx
 rw [awake_eq] at hx
 cases hx
 exact fn_contract (Z := iseat) (ats := []) (ts := [.bool]) (E := CrewK.E6) (fn := Tryz.f6) (c := bodyOf Tryz.f6) Tryz.func6 (by kernel_rfl) (by kernel_rfl) (by kernel_rfl) (by kernel_rfl) rfl (a := ()) (x := true) t6 h h') (fun _ x => rfl)
end
end Go.Proofs.Tp09
