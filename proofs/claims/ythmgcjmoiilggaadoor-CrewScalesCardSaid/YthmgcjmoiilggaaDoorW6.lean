/- Walks by computing: what each function of the program that the laws reach gives for what it gets, as plain Lean, and that it is so; without a condition but those that stand in each theorem. -/
import Derived.Test.YthmgcjmoiilggaaDoorCards
import Derived.Test.YthmgcjmoiilggaaDoorTie
import Derived.WalkKit
import Derived.ProofKit
import Derived.OpenShut
import Derived.Deep.Slices
import Derived.Deep.DeepHandedRow
import Derived.Lib.LaidTab
import Derived.Test.YthmgcjmoiilggaaDoorW1
import Derived.Test.YthmgcjmoiilggaaDoorW2
import Derived.Test.YthmgcjmoiilggaaDoorW3
import Derived.Test.YthmgcjmoiilggaaDoorW4
import Derived.Test.YthmgcjmoiilggaaDoorW5
set_option linter.all false
/- Plain reasoning: equations, rounds that tell a result that hangs on where they stand, lists. -/
namespace Go.Proofs.Crew
open Go Go.Ab
set_option linter.all false
theorem ok_eq {α : Type} {x : Option α} {a : α} (h : Ok (fun b => b = a) x) : x = some a := by obtain ⟨b, h1, rfl⟩ := h; exact h1
theorem Ok.beq {α β : Type} {Q : β → Prop} {x : Option α} {a : α} {f : α → Option β} (hx : x = some a) (hf : Ok Q (f a)) : Ok Q (x.bind f) := by subst hx; exact hf
/-- Rounds whose result hangs on where they stand. -/
theorem Ok.roundsD {α γ : Type} {F : γ → (γ → Option α) → Option α} {v0 : γ} (inv : γ → Prop) (μ : γ → Nat) (P : γ → α → Prop) (hμ : μ v0 < FUEL) (h0 : inv v0)
    (step : ∀ v kn, inv v → (∀ v', inv v' → μ v' < μ v → Ok (P v') (kn v')) → Ok (P v) (F v kn)) : Ok (P v0) (itN γ F v0) := by
  have key : ∀ n v, inv v → μ v < n → Ok (P v) (iter F n v) := by
    intro n
    induction n with
    | zero => intro v _ h; omega
    | succ n ih =>
      intro v hv hn
      exact step v (iter F n) hv fun v' hv' hlt => ih v' hv' (by omega)
  exact key FUEL v0 h0 hμ
theorem Ok.no {α : Type} {b : Bool} {x y : Option α} {P : α → Prop} (h : b = false) (hx : Ok P y) : Ok P (bif b then x else y) := by subst h; exact hx
theorem ib {i : Int} {n : Nat} (h1 : 0 ≤ i) (h2 : i < n) : (decide (0 ≤ i) && decide (i < (n : Int))) = true := by simp; omega
theorem drop_get {α : Type} {l : List α} {d : α} {i : Nat} (h : i < l.length) : l.drop i = l.getD i d :: l.drop (i + 1) := by
  rw [List.drop_eq_getElem_cons h]
  simp [List.getD_eq_getElem?_getD, h]
theorem getD_mem {α : Type} {l : List α} {d : α} {i : Nat} (h : i < l.length) : l.getD i d ∈ l := by
  rw [List.getD_eq_getElem?_getD, List.getElem?_eq_getElem h]
  exact List.getElem_mem h
theorem toNat_succ {i : Int} (h : 0 ≤ i) : (i + 1).toNat = i.toNat + 1 := by omega
theorem fitA_ok {n b : Nat} (hn : n ≤ 1000000) (hb : b ≤ 1000000) : fitA n b = true := by
  unfold fitA
  have : n * b ≤ 1000000 * 1000000 := Nat.mul_le_mul hn hb
  simp; omega
end Go.Proofs.Crew


/- The crew: what minutes and broken compute. -/
namespace Go.Proofs.Crew
open Go Go.Ab
set_option linter.all false
/-- Whether somebody drives in a minute, by turns that go from .. to. -/
def drv (ts : List (Int × Int)) (m : Int) : Bool := ts.any fun t => decide (t.1 ≤ m) && decide (m < t.2)
def turnsL (l : List Turn) : List (Int × Int) := l.map fun t => (t.From.Lo, t.To.Hi)
def turnsS (l : List Turn) : List (Int × Int) := l.map fun t => (t.From.Hi, t.To.Lo)
def itemsOf (D : Int → Bool) (a n : Nat) : List (Int × Bool × Unit) := (List.range' a n).map fun (m : Nat) => ((m : Int), D (m : Int), ())
theorem items_succ (D : Int → Bool) (a n : Nat) : itemsOf D a (n + 1) = ((a : Int), D a, ()) :: itemsOf D (a + 1) n := by simp [itemsOf, List.range'_succ]
theorem drv_take (ts : List (Int × Int)) (m : Int) (i : Nat) (h : i < ts.length) : drv (ts.take (i + 1)) m = (drv (ts.take i) m || (decide ((ts.getD i (0, 0)).1 ≤ m) && decide (m < (ts.getD i (0, 0)).2))) := by
  unfold drv
  rw [List.take_succ, List.any_append, List.getD_eq_getElem?_getD, List.getElem?_eq_getElem h]
  simp

theorem longest_sp (s : Shift) (t : Turn) : longest s t = some (t.From.Lo, t.To.Hi) := by rw [longest_eq]; rfl
theorem minutesL_sp (a b : Shift) (hn : a.Driver.Turns.length ≤ 1000) : minutesL a b = some (itemsOf (drv (turnsL a.Driver.Turns)) 0 3000) := by
  apply ok_eq
  rw [minutesL_eq]
  unfold minutesL'
  refine (Ok.roundsD (P := fun (v : (Unit × Int × Unit) × Unit) r => r = itemsOf (drv (turnsL a.Driver.Turns)) v.1.2.1.toNat (3000 - v.1.2.1.toNat)) (fun (v : (Unit × Int × Unit) × Unit) => 0 ≤ v.1.2.1 ∧ v.1.2.1 ≤ 3000) (fun (v : (Unit × Int × Unit) × Unit) => (3000 - v.1.2.1).toNat) (by show (3000 - (0:Int)).toNat < FUEL; unfold FUEL; decide) ⟨by decide, by decide⟩ ?_)
  rintro ⟨⟨u1, x, u2⟩, u3⟩ kn ⟨h0, h1⟩ hk
  simp only at h0 h1 ⊢
  unfold minutesL_L1
  refine Ok.ite (fun hc => ?_) (fun hc => ?_)
  · have hx := of_decide_eq_true hc
    refine Ok.rounds (fun v => 0 ≤ v.1.2.2.1 ∧ v.1.2.2.1 ≤ a.Driver.Turns.length ∧ v.1.2.1 = drv ((turnsL a.Driver.Turns).take v.1.2.2.1.toNat) x) (fun v => (a.Driver.Turns.length - v.1.2.2.1).toNat) ?_ ⟨by decide, by simp, by simp [drv]⟩ ?_
    · simp only; unfold FUEL; omega
    rintro ⟨⟨v1, d, i, v2⟩, v3⟩ kn2 ⟨i0, i1, i2⟩ hk2
    simp only at i0 i1 i2 hk2 ⊢
    unfold minutesL_L5
    refine Ok.ite (fun hc => ?_) (fun hc => ?_)
    · have hi := of_decide_eq_true hc
      refine Ok.chk (ib i0 hi) ?_
      refine Ok.beq (longest_sp _ _) ?_
      have hi' : i.toNat < a.Driver.Turns.length := by omega
      have hl : i.toNat < (turnsL a.Driver.Turns).length := by simp [turnsL]; omega
      have e1 : w64 (i + 1) = i + 1 := w64_id (by omega) (by omega)
      have hg : (turnsL a.Driver.Turns).getD i.toNat (0, 0) = ((a.Driver.Turns.getD i.toNat dfltTurn).From.Lo, (a.Driver.Turns.getD i.toNat dfltTurn).To.Hi) := by
        simp only [turnsL, List.getD_eq_getElem?_getD, List.getElem?_map, List.getElem?_eq_getElem hi']; rfl
      have hd := drv_take (turnsL a.Driver.Turns) x i.toNat hl
      rw [hg, ← i2] at hd
      simp only [e1]
      have hfin : ∀ b : Bool, b = (d || (decide ((a.Driver.Turns.getD i.toNat dfltTurn).From.Lo ≤ x) && decide (x < (a.Driver.Turns.getD i.toNat dfltTurn).To.Hi))) → Ok (fun r => r = itemsOf (drv (turnsL a.Driver.Turns)) x.toNat (3000 - x.toNat)) (kn2 ((v1, b, i + 1, v2), v3)) := fun b hb => by
        refine hk2 ((v1, b, i + 1, v2), v3) ⟨by simp only; omega, by simp only; omega, ?_⟩ (by simp only; omega)
        simp only
        rw [toNat_succ i0, hd, hb]
      refine Ok.ite (fun hd2 => ?_) (fun hd2 => ?_)
      · exact hfin true (by rw [hd2]; rfl)
      · refine Ok.ite (fun h3 => ?_) (fun h3 => ?_)
        · exact hfin _ (by rw [hd2, h3]; simp)
        · exact hfin _ (by rw [hd2, h3]; simp)
    · have hi : i = a.Driver.Turns.length := by have := of_decide_eq_false hc; omega
      subst hi
      have e1 : w64 (x + 1) = x + 1 := w64_id (by omega) (by omega)
      have hd : d = drv (turnsL a.Driver.Turns) x := by
        rw [i2, Int.toNat_natCast, List.take_of_length_le (by simp [turnsL])]
      have hn0 : 3000 - x.toNat = (3000 - (x + 1).toNat) + 1 := by omega
      obtain ⟨l, hl1, hl2⟩ := hk ((u1, x + 1, u2), u3) ⟨by simp only; omega, by simp only; omega⟩ (by simp only; omega)
      simp only at hl2
      refine ⟨(x, d, ()) :: l, ?_, ?_⟩
      · simp only [consM, e1, hl1]
      · rw [hn0, items_succ, hl2, hd, toNat_succ h0, Int.toNat_of_nonneg h0]
  · have hx : x = 3000 := by have := of_decide_eq_false hc; omega
    subst hx
    exact Ok.some rfl

theorem shortest_sp (s : Shift) (t : Turn) : shortest s t = some (t.From.Hi, t.To.Lo) := by rw [shortest_eq]; rfl
theorem minutesS_sp (a b : Shift) (hn : a.Driver.Turns.length ≤ 1000) : minutesS a b = some (itemsOf (drv (turnsS a.Driver.Turns)) 0 3000) := by
  apply ok_eq
  rw [minutesS_eq]
  unfold minutesS'
  refine (Ok.roundsD (P := fun (v : (Unit × Int × Unit) × Unit) r => r = itemsOf (drv (turnsS a.Driver.Turns)) v.1.2.1.toNat (3000 - v.1.2.1.toNat)) (fun (v : (Unit × Int × Unit) × Unit) => 0 ≤ v.1.2.1 ∧ v.1.2.1 ≤ 3000) (fun (v : (Unit × Int × Unit) × Unit) => (3000 - v.1.2.1).toNat) (by show (3000 - (0:Int)).toNat < FUEL; unfold FUEL; decide) ⟨by decide, by decide⟩ ?_)
  rintro ⟨⟨u1, x, u2⟩, u3⟩ kn ⟨h0, h1⟩ hk
  simp only at h0 h1 ⊢
  unfold minutesS_L1
  refine Ok.ite (fun hc => ?_) (fun hc => ?_)
  · have hx := of_decide_eq_true hc
    refine Ok.rounds (fun v => 0 ≤ v.1.2.2.1 ∧ v.1.2.2.1 ≤ a.Driver.Turns.length ∧ v.1.2.1 = drv ((turnsS a.Driver.Turns).take v.1.2.2.1.toNat) x) (fun v => (a.Driver.Turns.length - v.1.2.2.1).toNat) ?_ ⟨by decide, by simp, by simp [drv]⟩ ?_
    · simp only; unfold FUEL; omega
    rintro ⟨⟨v1, d, i, v2⟩, v3⟩ kn2 ⟨i0, i1, i2⟩ hk2
    simp only at i0 i1 i2 hk2 ⊢
    unfold minutesS_L5
    refine Ok.ite (fun hc => ?_) (fun hc => ?_)
    · have hi := of_decide_eq_true hc
      refine Ok.chk (ib i0 hi) ?_
      refine Ok.beq (shortest_sp _ _) ?_
      have hi' : i.toNat < a.Driver.Turns.length := by omega
      have hl : i.toNat < (turnsS a.Driver.Turns).length := by simp [turnsS]; omega
      have e1 : w64 (i + 1) = i + 1 := w64_id (by omega) (by omega)
      have hg : (turnsS a.Driver.Turns).getD i.toNat (0, 0) = ((a.Driver.Turns.getD i.toNat dfltTurn).From.Hi, (a.Driver.Turns.getD i.toNat dfltTurn).To.Lo) := by
        simp only [turnsS, List.getD_eq_getElem?_getD, List.getElem?_map, List.getElem?_eq_getElem hi']; rfl
      have hd := drv_take (turnsS a.Driver.Turns) x i.toNat hl
      rw [hg, ← i2] at hd
      simp only [e1]
      have hfin : ∀ b : Bool, b = (d || (decide ((a.Driver.Turns.getD i.toNat dfltTurn).From.Hi ≤ x) && decide (x < (a.Driver.Turns.getD i.toNat dfltTurn).To.Lo))) → Ok (fun r => r = itemsOf (drv (turnsS a.Driver.Turns)) x.toNat (3000 - x.toNat)) (kn2 ((v1, b, i + 1, v2), v3)) := fun b hb => by
        refine hk2 ((v1, b, i + 1, v2), v3) ⟨by simp only; omega, by simp only; omega, ?_⟩ (by simp only; omega)
        simp only
        rw [toNat_succ i0, hd, hb]
      refine Ok.ite (fun hd2 => ?_) (fun hd2 => ?_)
      · exact hfin true (by rw [hd2]; rfl)
      · refine Ok.ite (fun h3 => ?_) (fun h3 => ?_)
        · exact hfin _ (by rw [hd2, h3]; simp)
        · exact hfin _ (by rw [hd2, h3]; simp)
    · have hi : i = a.Driver.Turns.length := by have := of_decide_eq_false hc; omega
      subst hi
      have e1 : w64 (x + 1) = x + 1 := w64_id (by omega) (by omega)
      have hd : d = drv (turnsS a.Driver.Turns) x := by
        rw [i2, Int.toNat_natCast, List.take_of_length_le (by simp [turnsS])]
      have hn0 : 3000 - x.toNat = (3000 - (x + 1).toNat) + 1 := by omega
      obtain ⟨l, hl1, hl2⟩ := hk ((u1, x + 1, u2), u3) ⟨by simp only; omega, by simp only; omega⟩ (by simp only; omega)
      simp only at hl2
      refine ⟨(x, d, ()) :: l, ?_, ?_⟩
      · simp only [consM, e1, hl1]
      · rw [hn0, items_succ, hl2, hd, toNat_succ h0, Int.toNat_of_nonneg h0]
  · have hx : x = 3000 := by have := of_decide_eq_false hc; omega
    subst hx
    exact Ok.some rfl
end Go.Proofs.Crew


/- The crew: the first minute that breaks a rule. -/
namespace Go.Proofs.Crew
open Go Go.Ab
set_option linter.all false
/-- For how long one drives, and does not, before a minute; a rest makes an end. -/
def stS (R : Int) (D : Int → Bool) : Nat → Int × Int
  | 0 => (0, 0)
  | m + 1 => bif D (m : Int) then ((stS R D m).1 + 1, 0) else (bif decide ((stS R D m).2 + 1 ≥ R) then 0 else (stS R D m).1, (stS R D m).2 + 1)
theorem stS_bnd (R : Int) (D : Int → Bool) : ∀ m : Nat, 0 ≤ (stS R D m).1 ∧ (stS R D m).1 ≤ m ∧ 0 ≤ (stS R D m).2 ∧ (stS R D m).2 ≤ m
  | 0 => by simp [stS]
  | m + 1 => by
    obtain ⟨h1, h2, h3, h4⟩ := stS_bnd R D m
    simp only [stS]
    cases D (m : Int) with
    | true => simp only [cond_true]; omega
    | false => simp only [cond_false]; cases decide ((stS R D m).2 + 1 ≥ R) <;> simp only [cond_true, cond_false] <;> omega
/-- The minutes driven before a minute. -/
def dlist (D : Int → Bool) (m : Nat) : List Int := ((List.range m).filter fun (k : Nat) => D (k : Int)).map fun (k : Nat) => (k : Int)
theorem dlist_succ (D : Int → Bool) (m : Nat) : dlist D (m + 1) = bif D (m : Int) then dlist D m ++ [(m : Int)] else dlist D m := by
  simp only [dlist, List.range_succ, List.filter_append, List.map_append]
  cases h : D (m : Int) <;> simp [h]
theorem dlist_lt (D : Int → Bool) : ∀ (m : Nat) (k : Int), k ∈ dlist D m → 0 ≤ k ∧ k < m := fun m k hk => by
  simp only [dlist, List.mem_map, List.mem_filter, List.mem_range] at hk
  obtain ⟨a, ⟨h1, _⟩, rfl⟩ := hk
  omega
theorem dlist_len (D : Int → Bool) (m : Nat) : (dlist D m).length ≤ m := by
  simp only [dlist, List.length_map]
  exact Nat.le_trans (List.length_filter_le _ _) (by simp)
theorem dlist_srt (D : Int → Bool) : ∀ m : Nat, (dlist D m).Pairwise (· < ·)
  | 0 => .nil
  | m + 1 => by
    rw [dlist_succ]
    cases D (m : Int) with
    | true =>
      simp only [cond_true]
      rw [List.pairwise_append]
      refine ⟨dlist_srt D m, List.pairwise_singleton _ _, fun a ha b hb => ?_⟩
      rw [List.mem_singleton.1 hb]
      exact (dlist_lt D m a ha).2
    | false => exact dlist_srt D m
/-- The later part of a list that rises. -/
def over (l : List Int) (t : Int) : List Int := l.filter fun k => decide (t < k)
theorem over_tail {l : List Int} (hl : l.Pairwise (· < ·)) {t h : Int} {tl : List Int} (he : over l t = h :: tl) : tl = over l h ∧ t < h ∧ h ∈ l := by
  have hm : h ∈ over l t := by rw [he]; exact List.mem_cons_self ..
  simp only [over, List.mem_filter, decide_eq_true_eq] at hm
  have hs : (h :: tl).Pairwise (· < ·) := by rw [← he]; exact hl.filter _
  refine ⟨?_, hm.2, hm.1⟩
  have e1 : over l h = over (over l t) h := by
    simp only [over, List.filter_filter]
    apply List.filter_congr
    intro x _
    have := hm.2
    by_cases h1 : h < x
    · have : t < x := by omega
      simp [h1, this]
    · simp [h1]
  rw [e1, he]
  simp only [over, List.filter_cons, Int.lt_irrefl, decide_false, Bool.false_eq_true, if_false]
  symm
  rw [List.filter_eq_self]
  intro x hx
  simpa using (List.pairwise_cons.1 hs).1 x hx
theorem over_same {l : List Int} (hl : l.Pairwise (· < ·)) {t t' h : Int} {tl : List Int} (he : over l t = h :: tl) (ht : t ≤ t') (hh : t' < h) : over l t = over l t' := by
  have hs : (h :: tl).Pairwise (· < ·) := by rw [← he]; exact hl.filter _
  simp only [over]
  apply List.filter_congr
  intro x hx
  by_cases h1 : t < x
  · have hm : x ∈ over l t := by simp only [over, List.mem_filter, decide_eq_true_eq]; exact ⟨hx, h1⟩
    rw [he] at hm
    have : h ≤ x := by
      rcases List.mem_cons.1 hm with rfl | hm
      · omega
      · have := (List.pairwise_cons.1 hs).1 x hm; omega
    have h2 : t' < x := by omega
    simp [h1, h2]
  · have h2 : ¬ t' < x := by omega
    simp [h1, h2]
def wnd (D : Int → Bool) (Day : Int) (m : Nat) : Nat := (over (dlist D (m + 1)) (m - Day)).length
/-- Which rule a minute breaks. -/
def brkAt (u : Rules) (D : Int → Bool) (m : Nat) : Int := bif D (m : Int) then (bif decide ((stS u.Rest D m).1 + 1 > u.Drive) then 1 else bif decide ((wnd D u.Day m : Int) > u.Most) then 2 else 0) else 0
/-- The first minute, of n from a on, that breaks a rule. -/
def firstB (u : Rules) (D : Int → Bool) : Nat → Nat → Int × Int
  | _, 0 => (0, 0)
  | a, n + 1 => bif brkAt u D a == 0 then firstB u D (a + 1) n else (brkAt u D a, (a : Int))
def RulesIn (u : Rules) : Prop := 1 ≤ u.Drive ∧ u.Drive ≤ 3000 ∧ 1 ≤ u.Rest ∧ u.Rest ≤ 3000 ∧ 1 ≤ u.Day ∧ u.Day ≤ 3000 ∧ 1 ≤ u.Most ∧ u.Most ≤ 3000
abbrev BV := ((Unit × Unit × Unit × Unit × Unit × Unit × Unit) × ((Int × Unit) × (Int × Unit) × (Int × Unit) × (Int × Unit) × ((List Int) × Unit) × Unit)) × List (Int × Bool × Unit)

theorem minL_sp (s t : Shift) : minL s t = some (s, t) := by rw [minL_eq]; rfl
theorem brokenL_sp (s t : Shift) (hn : s.Driver.Turns.length ≤ 1000) (hu : RulesIn s.rules) : brokenL s t = some (firstB s.rules (drv (turnsL s.Driver.Turns)) 0 3000) := by
  apply ok_eq
  rw [brokenL_eq]
  unfold brokenL'
  refine Ok.beq (minL_sp _ _) ?_
  refine Ok.beq (minutesL_sp _ _ hn) ?_
  obtain ⟨D, hD⟩ : ∃ D, drv (turnsL s.Driver.Turns) = D := ⟨_, rfl⟩
  rw [hD]
  obtain ⟨_, _, _, _, hd1, hd2, _, _⟩ := hu
  refine (Ok.roundsD (P := fun (v : BV) r => r = firstB s.rules D (3000 - v.2.length) v.2.length) (fun (v : BV) => ∃ a : Nat, a ≤ 3000 ∧ v.2 = itemsOf D a (3000 - a) ∧ v.1.2.2.2.1.1 = (stS s.rules.Rest D a).1 ∧ v.1.2.2.2.2.1.1 = (stS s.rules.Rest D a).2 ∧ ∃ t : Int, t < a - s.rules.Day ∧ v.1.2.2.2.2.2.1.1 = over (dlist D a) t) (fun (v : BV) => v.2.length) ?_ ?_ ?_).mono ?_
  · simp [itemsOf, FUEL]
  · refine ⟨0, by omega, rfl, rfl, rfl, -3001, by simp; omega, rfl⟩
  · rintro ⟨⟨⟨u1, u2, u3, u4, u5, u6, u7⟩, ⟨ru, ⟨⟩⟩, ⟨mi, ⟨⟩⟩, ⟨si, ⟨⟩⟩, ⟨id, ⟨⟩⟩, ⟨dr, ⟨⟩⟩, ⟨⟩⟩, its⟩ kn ⟨a, ha, h1, h2, h3, t0, h4, h5⟩ hk
    simp only at h1 h2 h3 h5 hk ⊢
    have hl : its.length = 3000 - a := by rw [h1]; simp [itemsOf]
    cases its with
    | nil =>
      simp only [brokenL_E4]
      exact Ok.some rfl
    | cons it0 its =>
      have hl' : its.length + 1 = 3000 - a := hl
      have ha' : a < 3000 := by omega
      obtain ⟨n, hn0⟩ : ∃ n, 3000 - a = n + 1 := ⟨2999 - a, by omega⟩
      rw [hn0, items_succ] at h1
      obtain ⟨rfl, rfl⟩ := List.cons.inj h1
      have hn1 : n = 3000 - (a + 1) := by omega
      simp only
      unfold brokenL_L4
      obtain ⟨b1, b2, b3, b4⟩ := stS_bnd s.rules.Rest D a
      have hlen : (itemsOf D (a + 1) n).length = n := by simp [itemsOf]
      have e0 : 3000 - ((((a : Int), D a, ()) :: itemsOf D (a + 1) n).length) = a := by rw [List.length_cons, hlen]; omega
      have e1 : (((a : Int), D a, ()) :: itemsOf D (a + 1) n).length = n + 1 := by rw [List.length_cons, hlen]
      have hstep : brkAt s.rules D a = 0 → firstB s.rules D a (n + 1) = firstB s.rules D (a + 1) n := fun h => by simp only [firstB, h]; rfl
      have next : ∀ (ru mi si id : Int) (dr : List Int), brkAt s.rules D a = 0 → si = (stS s.rules.Rest D (a + 1)).1 → id = (stS s.rules.Rest D (a + 1)).2 → (∃ t : Int, t < ((a + 1 : Nat) : Int) - s.rules.Day ∧ dr = over (dlist D (a + 1)) t) →
          Ok (fun r => r = firstB s.rules D (3000 - ((((a : Int), D a, ()) :: itemsOf D (a + 1) n).length)) ((((a : Int), D a, ()) :: itemsOf D (a + 1) n).length)) (kn ((((), (), (), (), (), (), ()), ((ru, ()), (mi, ()), (si, ()), (id, ()), (dr, ()), ())), itemsOf D (a + 1) n)) := fun ru mi si id dr hb hs hi ht => by
        obtain ⟨r, hr1, hr2⟩ := hk ((((), (), (), (), (), (), ()), ((ru, ()), (mi, ()), (si, ()), (id, ()), (dr, ()), ())), itemsOf D (a + 1) n) ⟨a + 1, by omega, by rw [hn1], hs, hi, ht⟩ (by rw [e1, hlen]; omega)
        refine ⟨r, hr1, ?_⟩
        simp only [hlen] at hr2
        rw [e0, e1, hstep hb, hr2]
        congr 1; omega
      cases hDa : D (a : Int) with
      | false =>
        have hb0 : brkAt s.rules D a = 0 := by simp [brkAt, hDa]
        have hd0 : dlist D (a + 1) = dlist D a := by rw [dlist_succ, hDa]; rfl
        rw [hDa] at next
        have e2 : w64 (id + 1) = id + 1 := w64_id (by omega) (by omega)
        simp only [Bool.not_false, cond_true, e2]
        have hst : stS s.rules.Rest D (a + 1) = (bif decide (id + 1 ≥ s.rules.Rest) then 0 else si, id + 1) := by simp only [stS, hDa, cond_false, h2, h3]
        refine Ok.ite (fun hc => ?_) (fun hc => ?_)
        · exact next ru mi 0 (id + 1) dr hb0 (by rw [hst, hc]; rfl) (by rw [hst]) ⟨t0, by push_cast; omega, by rw [hd0, h5]⟩
        · exact next ru mi si (id + 1) dr hb0 (by rw [hst, hc]; rfl) (by rw [hst]) ⟨t0, by push_cast; omega, by rw [hd0, h5]⟩
      | true =>
        rw [hDa] at next
        have hd0 : dlist D (a + 1) = dlist D a ++ [(a : Int)] := by rw [dlist_succ, hDa]; rfl
        have hsr := dlist_srt D (a + 1)
        have hov : dr ++ [(a : Int)] = over (dlist D (a + 1)) t0 := by
          have : t0 < (a : Int) := by omega
          rw [hd0, h5]; simp [over, this]
        have hdl : dr.length ≤ 3000 := by
          rw [h5]
          exact Nat.le_trans (List.length_filter_le _ _) (Nat.le_trans (dlist_len D a) ha)
        simp only [Bool.not_true, cond_false]
        refine Ok.chk (fitA_ok (by simp only [List.length_cons, List.length_nil]; omega) (by decide)) ?_
        have e3 : w64 ((a : Int) - s.rules.Day) = (a : Int) - s.rules.Day := w64_id (by omega) (by omega)
        have e4 : w64 (si + 1) = si + 1 := w64_id (by omega) (by omega)
        have hst : stS s.rules.Rest D (a + 1) = (si + 1, 0) := by simp only [stS, hDa, cond_true, h2]
        refine Ok.rounds (fun v => ∃ t : Int, t ≤ (a : Int) - s.rules.Day ∧ v.2.1.1 = over (dlist D (a + 1)) t) (fun v => v.2.1.1.length) ?_ ⟨t0, by omega, hov⟩ ?_
        · simp only [List.length_append, List.length_cons, List.length_nil]; unfold FUEL; omega
        rintro ⟨⟨w1, w2, w3, w4, w5, w6, w7⟩, ⟨d, ⟨⟩⟩, ⟨⟩⟩ kn2 ⟨t, ht, hd⟩ hk2
        simp only at hd hk2 ⊢
        unfold brokenL_L11
        have hma : (a : Int) ∈ d := by
          rw [hd]; simp only [over, List.mem_filter, decide_eq_true_eq]
          exact ⟨by rw [hd0]; simp, by omega⟩
        cases d with
        | nil => cases hma
        | cons h tl =>
          refine Ok.chk (by simp) ?_
          refine Ok.chk (by simp) ?_
          obtain ⟨q1, q2, q3⟩ := over_tail hsr hd.symm
          simp only [List.getD_cons_zero, e3]
          refine Ok.ite (fun hc => ?_) (fun hc => ?_)
          · have hc := of_decide_eq_true hc
            refine Ok.chk (by simp; omega) ?_
            have e5 : subL (h :: tl) 1 ((h :: tl).length : Int) = tl := by simp [subL]
            rw [e5]
            exact hk2 (((), (), (), (), (), (), ()), ((tl, ()), ())) ⟨h, hc, q1⟩ (by simp)
          · have hc := of_decide_eq_false hc
            have hw : (h :: tl) = over (dlist D (a + 1)) ((a : Int) - s.rules.Day) := by rw [hd]; exact over_same hsr hd.symm ht (by omega)
            have hlw : (h :: tl).length = wnd D s.rules.Day a := by rw [hw]; rfl
            rw [e4, hlw]
            have hb : brkAt s.rules D a = bif decide (si + 1 > s.rules.Drive) then 1 else bif decide ((wnd D s.rules.Day a : Int) > s.rules.Most) then 2 else 0 := by simp only [brkAt, hDa, cond_true, h2]
            have hst2 : ∀ k : Int, k ≠ 0 → brkAt s.rules D a = k → firstB s.rules D a (n + 1) = (k, (a : Int)) := fun k h0 hk => by
              have : (k == 0) = false := by simpa using h0
              simp only [firstB, hk, this, cond_false]
            refine Ok.ite (fun hc1 => ?_) (fun hc1 => ?_)
            · refine Ok.some ?_
              rw [hDa] at e0 e1
              rw [e0, e1, hst2 1 (by decide) (by rw [hb, hc1]; rfl)]
            · refine Ok.ite (fun hc2 => ?_) (fun hc2 => ?_)
              · refine Ok.some ?_
                rw [hDa] at e0 e1
                rw [e0, e1, hst2 2 (by decide) (by rw [hb, hc1, hc2]; rfl)]
              · exact next ru mi (si + 1) 0 (h :: tl) (by rw [hb, hc1, hc2]; rfl) (by rw [hst]) (by rw [hst]) ⟨(a : Int) - s.rules.Day, by push_cast; omega, hw⟩
  · intro r hr
    rw [hr]
    simp [itemsOf]

theorem minS_sp (s t : Shift) : minS s t = some (s, t) := by rw [minS_eq]; rfl
theorem brokenS_sp (s t : Shift) (hn : s.Driver.Turns.length ≤ 1000) (hu : RulesIn s.rules) : brokenS s t = some (firstB s.rules (drv (turnsS s.Driver.Turns)) 0 3000) := by
  apply ok_eq
  rw [brokenS_eq]
  unfold brokenS'
  refine Ok.beq (minS_sp _ _) ?_
  refine Ok.beq (minutesS_sp _ _ hn) ?_
  obtain ⟨D, hD⟩ : ∃ D, drv (turnsS s.Driver.Turns) = D := ⟨_, rfl⟩
  rw [hD]
  obtain ⟨_, _, _, _, hd1, hd2, _, _⟩ := hu
  refine (Ok.roundsD (P := fun (v : BV) r => r = firstB s.rules D (3000 - v.2.length) v.2.length) (fun (v : BV) => ∃ a : Nat, a ≤ 3000 ∧ v.2 = itemsOf D a (3000 - a) ∧ v.1.2.2.2.1.1 = (stS s.rules.Rest D a).1 ∧ v.1.2.2.2.2.1.1 = (stS s.rules.Rest D a).2 ∧ ∃ t : Int, t < a - s.rules.Day ∧ v.1.2.2.2.2.2.1.1 = over (dlist D a) t) (fun (v : BV) => v.2.length) ?_ ?_ ?_).mono ?_
  · simp [itemsOf, FUEL]
  · refine ⟨0, by omega, rfl, rfl, rfl, -3001, by simp; omega, rfl⟩
  · rintro ⟨⟨⟨u1, u2, u3, u4, u5, u6, u7⟩, ⟨ru, ⟨⟩⟩, ⟨mi, ⟨⟩⟩, ⟨si, ⟨⟩⟩, ⟨id, ⟨⟩⟩, ⟨dr, ⟨⟩⟩, ⟨⟩⟩, its⟩ kn ⟨a, ha, h1, h2, h3, t0, h4, h5⟩ hk
    simp only at h1 h2 h3 h5 hk ⊢
    have hl : its.length = 3000 - a := by rw [h1]; simp [itemsOf]
    cases its with
    | nil =>
      simp only [brokenS_E4]
      exact Ok.some rfl
    | cons it0 its =>
      have hl' : its.length + 1 = 3000 - a := hl
      have ha' : a < 3000 := by omega
      obtain ⟨n, hn0⟩ : ∃ n, 3000 - a = n + 1 := ⟨2999 - a, by omega⟩
      rw [hn0, items_succ] at h1
      obtain ⟨rfl, rfl⟩ := List.cons.inj h1
      have hn1 : n = 3000 - (a + 1) := by omega
      simp only
      unfold brokenS_L4
      obtain ⟨b1, b2, b3, b4⟩ := stS_bnd s.rules.Rest D a
      have hlen : (itemsOf D (a + 1) n).length = n := by simp [itemsOf]
      have e0 : 3000 - ((((a : Int), D a, ()) :: itemsOf D (a + 1) n).length) = a := by rw [List.length_cons, hlen]; omega
      have e1 : (((a : Int), D a, ()) :: itemsOf D (a + 1) n).length = n + 1 := by rw [List.length_cons, hlen]
      have hstep : brkAt s.rules D a = 0 → firstB s.rules D a (n + 1) = firstB s.rules D (a + 1) n := fun h => by simp only [firstB, h]; rfl
      have next : ∀ (ru mi si id : Int) (dr : List Int), brkAt s.rules D a = 0 → si = (stS s.rules.Rest D (a + 1)).1 → id = (stS s.rules.Rest D (a + 1)).2 → (∃ t : Int, t < ((a + 1 : Nat) : Int) - s.rules.Day ∧ dr = over (dlist D (a + 1)) t) →
          Ok (fun r => r = firstB s.rules D (3000 - ((((a : Int), D a, ()) :: itemsOf D (a + 1) n).length)) ((((a : Int), D a, ()) :: itemsOf D (a + 1) n).length)) (kn ((((), (), (), (), (), (), ()), ((ru, ()), (mi, ()), (si, ()), (id, ()), (dr, ()), ())), itemsOf D (a + 1) n)) := fun ru mi si id dr hb hs hi ht => by
        obtain ⟨r, hr1, hr2⟩ := hk ((((), (), (), (), (), (), ()), ((ru, ()), (mi, ()), (si, ()), (id, ()), (dr, ()), ())), itemsOf D (a + 1) n) ⟨a + 1, by omega, by rw [hn1], hs, hi, ht⟩ (by rw [e1, hlen]; omega)
        refine ⟨r, hr1, ?_⟩
        simp only [hlen] at hr2
        rw [e0, e1, hstep hb, hr2]
        congr 1; omega
      cases hDa : D (a : Int) with
      | false =>
        have hb0 : brkAt s.rules D a = 0 := by simp [brkAt, hDa]
        have hd0 : dlist D (a + 1) = dlist D a := by rw [dlist_succ, hDa]; rfl
        rw [hDa] at next
        have e2 : w64 (id + 1) = id + 1 := w64_id (by omega) (by omega)
        simp only [Bool.not_false, cond_true, e2]
        have hst : stS s.rules.Rest D (a + 1) = (bif decide (id + 1 ≥ s.rules.Rest) then 0 else si, id + 1) := by simp only [stS, hDa, cond_false, h2, h3]
        refine Ok.ite (fun hc => ?_) (fun hc => ?_)
        · exact next ru mi 0 (id + 1) dr hb0 (by rw [hst, hc]; rfl) (by rw [hst]) ⟨t0, by push_cast; omega, by rw [hd0, h5]⟩
        · exact next ru mi si (id + 1) dr hb0 (by rw [hst, hc]; rfl) (by rw [hst]) ⟨t0, by push_cast; omega, by rw [hd0, h5]⟩
      | true =>
        rw [hDa] at next
        have hd0 : dlist D (a + 1) = dlist D a ++ [(a : Int)] := by rw [dlist_succ, hDa]; rfl
        have hsr := dlist_srt D (a + 1)
        have hov : dr ++ [(a : Int)] = over (dlist D (a + 1)) t0 := by
          have : t0 < (a : Int) := by omega
          rw [hd0, h5]; simp [over, this]
        have hdl : dr.length ≤ 3000 := by
          rw [h5]
          exact Nat.le_trans (List.length_filter_le _ _) (Nat.le_trans (dlist_len D a) ha)
        simp only [Bool.not_true, cond_false]
        refine Ok.chk (fitA_ok (by simp only [List.length_cons, List.length_nil]; omega) (by decide)) ?_
        have e3 : w64 ((a : Int) - s.rules.Day) = (a : Int) - s.rules.Day := w64_id (by omega) (by omega)
        have e4 : w64 (si + 1) = si + 1 := w64_id (by omega) (by omega)
        have hst : stS s.rules.Rest D (a + 1) = (si + 1, 0) := by simp only [stS, hDa, cond_true, h2]
        refine Ok.rounds (fun v => ∃ t : Int, t ≤ (a : Int) - s.rules.Day ∧ v.2.1.1 = over (dlist D (a + 1)) t) (fun v => v.2.1.1.length) ?_ ⟨t0, by omega, hov⟩ ?_
        · simp only [List.length_append, List.length_cons, List.length_nil]; unfold FUEL; omega
        rintro ⟨⟨w1, w2, w3, w4, w5, w6, w7⟩, ⟨d, ⟨⟩⟩, ⟨⟩⟩ kn2 ⟨t, ht, hd⟩ hk2
        simp only at hd hk2 ⊢
        unfold brokenS_L11
        have hma : (a : Int) ∈ d := by
          rw [hd]; simp only [over, List.mem_filter, decide_eq_true_eq]
          exact ⟨by rw [hd0]; simp, by omega⟩
        cases d with
        | nil => cases hma
        | cons h tl =>
          refine Ok.chk (by simp) ?_
          refine Ok.chk (by simp) ?_
          obtain ⟨q1, q2, q3⟩ := over_tail hsr hd.symm
          simp only [List.getD_cons_zero, e3]
          refine Ok.ite (fun hc => ?_) (fun hc => ?_)
          · have hc := of_decide_eq_true hc
            refine Ok.chk (by simp; omega) ?_
            have e5 : subL (h :: tl) 1 ((h :: tl).length : Int) = tl := by simp [subL]
            rw [e5]
            exact hk2 (((), (), (), (), (), (), ()), ((tl, ()), ())) ⟨h, hc, q1⟩ (by simp)
          · have hc := of_decide_eq_false hc
            have hw : (h :: tl) = over (dlist D (a + 1)) ((a : Int) - s.rules.Day) := by rw [hd]; exact over_same hsr hd.symm ht (by omega)
            have hlw : (h :: tl).length = wnd D s.rules.Day a := by rw [hw]; rfl
            rw [e4, hlw]
            have hb : brkAt s.rules D a = bif decide (si + 1 > s.rules.Drive) then 1 else bif decide ((wnd D s.rules.Day a : Int) > s.rules.Most) then 2 else 0 := by simp only [brkAt, hDa, cond_true, h2]
            have hst2 : ∀ k : Int, k ≠ 0 → brkAt s.rules D a = k → firstB s.rules D a (n + 1) = (k, (a : Int)) := fun k h0 hk => by
              have : (k == 0) = false := by simpa using h0
              simp only [firstB, hk, this, cond_false]
            refine Ok.ite (fun hc1 => ?_) (fun hc1 => ?_)
            · refine Ok.some ?_
              rw [hDa] at e0 e1
              rw [e0, e1, hst2 1 (by decide) (by rw [hb, hc1]; rfl)]
            · refine Ok.ite (fun hc2 => ?_) (fun hc2 => ?_)
              · refine Ok.some ?_
                rw [hDa] at e0 e1
                rw [e0, e1, hst2 2 (by decide) (by rw [hb, hc1, hc2]; rfl)]
              · exact next ru mi (si + 1) 0 (h :: tl) (by rw [hb, hc1, hc2]; rfl) (by rw [hst]) (by rw [hst]) ⟨(a : Int) - s.rules.Day, by push_cast; omega, hw⟩
  · intro r hr
    rw [hr]
    simp [itemsOf]
end Go.Proofs.Crew


/- The crew: the law's own look at rules, backwards from each minute. -/
namespace Go.Proofs.Crew
open Go Go.Ab
set_option linter.all false
end Go.Proofs.Crew


/- The crew: the law's first broken minute; more minutes driven break no less. -/
namespace Go.Proofs.Crew
open Go Go.Ab
set_option linter.all false
theorem firstB_zero {u : Rules} {D : Int → Bool} : ∀ {n a : Nat}, (∀ m, a ≤ m → m < a + n → brkAt u D m = 0) → firstB u D a n = (0, 0)
  | 0, a, _ => rfl
  | n + 1, a, h => by
    have h0 := h a (Nat.le_refl _) (by omega)
    simp only [firstB, h0]
    exact firstB_zero fun m h1 h2 => h m (by omega) (by omega)
theorem firstB_ne {u : Rules} {D : Int → Bool} : ∀ {n a m : Nat}, a ≤ m → m < a + n → brkAt u D m ≠ 0 → (firstB u D a n).1 ≠ 0
  | 0, a, m, h1, h2, _ => by omega
  | n + 1, a, m, h1, h2, h3 => by
    simp only [firstB]
    cases hb : brkAt u D a == 0 with
    | true =>
      have h0 : brkAt u D a = 0 := by simpa using hb
      simp only [cond_true]
      have : m ≠ a := fun e => h3 (e ▸ h0)
      exact firstB_ne (m := m) (by omega) (by omega) h3
    | false => simpa using hb
theorem firstB_cut {u : Rules} {D : Int → Bool} : ∀ {n a k : Nat}, (∀ m, a + n ≤ m → brkAt u D m = 0) → firstB u D a (n + k) = firstB u D a n
  | 0, a, k, h => by
    rw [firstB_zero fun m h1 h2 => h m (by omega)]; rfl
  | n + 1, a, k, h => by
    rw [show n + 1 + k = (n + k) + 1 by omega]
    simp only [firstB]
    rw [firstB_cut fun m hm => h m (by omega)]
theorem drv_false {ts : List (Int × Int)} {m : Int} (h : ∀ t ∈ ts, t.2 ≤ m) : drv ts m = false := by
  unfold drv
  rw [List.any_eq_false]
  intro t ht
  have := h t ht
  simp; omega
/-- More minutes driven, and a longer rest that is asked. -/
theorem st_mono {R R' : Int} {D D' : Int → Bool} (hR : R' ≤ R) (hD : ∀ m : Nat, D (m : Int) = true → D' (m : Int) = true) : ∀ m : Nat, (stS R' D m).1 ≤ (stS R D' m).1 ∧ (stS R D' m).2 ≤ (stS R' D m).2
  | 0 => by simp [stS]
  | m + 1 => by
    obtain ⟨h1, h2⟩ := st_mono hR hD m
    obtain ⟨b1, _, b3, _⟩ := stS_bnd R' D m
    obtain ⟨c1, _, c3, _⟩ := stS_bnd R D' m
    simp only [stS]
    cases hd : D (m : Int) with
    | true => rw [hD m hd]; simp only [cond_true]; omega
    | false =>
      simp only [cond_false]
      cases hd' : D' (m : Int) with
      | true =>
        simp only [cond_true]
        cases decide ((stS R' D m).2 + 1 ≥ R') <;> simp only [cond_true, cond_false] <;> omega
      | false =>
        simp only [cond_false]
        by_cases hr : (stS R D' m).2 + 1 ≥ R
        · have hr' : (stS R' D m).2 + 1 ≥ R' := by omega
          rw [decide_eq_true hr, decide_eq_true hr']
          simp only [cond_true]; omega
        · rw [decide_eq_false hr]
          cases decide ((stS R' D m).2 + 1 ≥ R') <;> simp only [cond_true, cond_false] <;> omega
theorem filt_mono {α : Type} {p q : α → Bool} : ∀ (l : List α), (∀ x ∈ l, p x = true → q x = true) → (l.filter p).length ≤ (l.filter q).length
  | [], _ => by simp
  | a :: l, h => by
    have ih := filt_mono l fun x hx => h x (List.mem_cons_of_mem _ hx)
    simp only [List.filter_cons]
    cases hp : p a with
    | true =>
      have hq := h a (List.mem_cons_self ..) hp
      simp only [hq, if_true, List.length_cons]; omega
    | false => cases q a <;> simp <;> omega
theorem wnd_mono {D D' : Int → Bool} (hD : ∀ m : Nat, D (m : Int) = true → D' (m : Int) = true) (Day : Int) (m : Nat) : wnd D Day m ≤ wnd D' Day m := by
  simp only [wnd, over, dlist, List.filter_map, List.length_map, List.filter_filter]
  refine filt_mono _ fun x _ h => ?_
  simp only [Function.comp, Bool.and_eq_true] at h ⊢
  exact ⟨h.1, hD x h.2⟩
theorem brk_mono {u u' : Rules} {D D' : Int → Bool} (h1 : u.Drive ≤ u'.Drive) (h2 : u'.Rest ≤ u.Rest) (h3 : u'.Day = u.Day) (h4 : u.Most ≤ u'.Most) (hD : ∀ m : Nat, D (m : Int) = true → D' (m : Int) = true) {m : Nat} (h : brkAt u' D m ≠ 0) : brkAt u D' m ≠ 0 := by
  unfold brkAt at h ⊢
  cases hd : D (m : Int) with
  | false => rw [hd] at h; simp at h
  | true =>
    rw [hd] at h
    rw [hD m hd]
    simp only [cond_true] at h ⊢
    have hm := (st_mono h2 hD m).1
    have hw := wnd_mono hD u.Day m
    rw [h3] at h
    by_cases hr : (stS u.Rest D' m).1 + 1 > u.Drive
    · rw [decide_eq_true hr]; simp
    · rw [decide_eq_false hr]
      have hr' : ¬ (stS u'.Rest D m).1 + 1 > u'.Drive := by omega
      rw [decide_eq_false hr'] at h
      simp only [cond_false] at h ⊢
      by_cases hq : (wnd D' u.Day m : Int) > u.Most
      · rw [decide_eq_true hq]; simp
      · have hq' : ¬ (wnd D u.Day m : Int) > u'.Most := by omega
        rw [decide_eq_false hq'] at h; simp at h
end Go.Proofs.Crew


/- The crew: what is made of numbers is valid. -/
namespace Go.Proofs.Crew
open Go Go.Ab
set_option linter.all false
theorem u64_bnd (n : Int) : 0 ≤ IntKind.u64.wrap n ∧ IntKind.u64.wrap n < 18446744073709551616 := by
  unfold IntKind.wrap
  simp [IntKind.bits, IntKind.signed]
  omega
theorem u64_id {n : Int} (h1 : 0 ≤ n) (h2 : n < 18446744073709551616) : IntKind.u64.wrap n = n := by
  unfold IntKind.wrap
  simp [IntKind.bits, IntKind.signed]
  omega
theorem next_ok (s : Seed) : Ok (fun r => 0 ≤ r.2 ∧ r.2 < 18446744073709551616) (next s) := by
  rw [next_eq]
  exact ⟨_, rfl, u64_bnd _⟩
theorem Below_ok (s : Seed) {n : Int} (hn : n ≤ 1000000000) : Ok (fun r => 0 ≤ r.2 ∧ (r.2 < n ∨ r.2 = 0)) (Below s n) := by
  rw [Below_eq]
  refine Ok.ite (fun h => Ok.some ⟨Int.le_refl _, .inr rfl⟩) fun h => ?_
  have hn2 : ¬ n < 2 := by simpa using h
  refine Ok.bind (next_ok s) fun r hr => ?_
  have hu : IntKind.u64.wrap n = n := u64_id (by omega) (by omega)
  refine Ok.chk (by rw [hu]; simp; omega) (Ok.some ?_)
  rw [hu]
  have e : shrI .u64 r.2 1 = r.2 / 2 := by
    unfold shrI
    rw [Int.fdiv_eq_ediv_of_nonneg _ (by decide)]
    simp [IntKind.bits]
  rw [e, Int.tmod_eq_emod_of_nonneg (by omega)]
  have h1 := Int.emod_nonneg (r.2 / 2) (show n ≠ 0 by omega)
  have h2 := Int.emod_lt_of_pos (r.2 / 2) (show 0 < n by omega)
  rw [w64_id (by omega) (by omega)]
  exact ⟨h1, .inl h2⟩
theorem From_ok (s : Seed) {low high : Int} (h1 : -1000000 ≤ low) (h2 : low ≤ 1000000) (h3 : -1000000 ≤ high) (h4 : high ≤ 1000000) : Ok (fun r => low ≤ r.2 ∧ (r.2 ≤ high ∨ r.2 = low)) (From s low high) := by
  rw [From_eq]
  refine Ok.bind (Below_ok s (n := w64 (w64 (high - low) + 1)) ?_) fun r hr => Ok.some ?_
  · rw [w64_id (n := high - low) (by omega) (by omega), w64_id (by omega) (by omega)]; omega
  · rw [w64_id (n := high - low) (by omega) (by omega), w64_id (n := high - low + 1) (by omega) (by omega)] at hr
    simp only
    rw [w64_id (by omega) (by omega)]
    omega
theorem Of_ok (s : Seed) {l : List Int} (h0 : l ≠ []) (hl : l.length ≤ 1000) : Ok (fun r => r.2 ∈ l) (Of s l) := by
  rw [Of_eq]
  have hp : 0 < l.length := List.length_pos_iff.2 h0
  refine Ok.ite (fun h => ?_) fun h => Ok.bind (Below_ok s (n := (l.length : Int)) (by omega)) fun r hr => Ok.chk ?_ (Ok.some ?_)
  · simp at h; exact absurd h h0
  · simp; omega
  · simp only
    rw [List.getD_eq_getElem?_getD, List.getElem?_eq_getElem (by omega)]
    exact List.getElem_mem _

/-- A turn that may be. -/
def TV (t : Turn) : Prop := 0 ≤ t.From.Lo ∧ t.From.Lo ≤ t.From.Hi ∧ t.From.Hi ≤ t.To.Lo ∧ t.To.Lo ≤ t.To.Hi
structure DMade (name : ByteArray) (n : Int) (d : Driver) : Prop where
  nm : d.Name = name
  sk : 0 ≤ d.Skills ∧ d.Skills ≤ 7
  len : (d.Turns.length : Int) ≤ n
  tv : ∀ t ∈ d.Turns, TV t ∧ t.To.Hi ≤ 10 + 60 * n
  srt : d.Turns.Pairwise fun a b => a.To.Hi ≤ b.From.Lo
end Go.Proofs.Crew


/- The crew: what is made passes the checks; the answer on it. -/
namespace Go.Proofs.Crew
open Go Go.Ab
set_option linter.all false
theorem within_sp (n a b : Int) : within n a b = some (decide (a ≤ n) && decide (n ≤ b)) := by
  rw [within_eq]
  unfold within'
  cases decide (a ≤ n) <;> rfl
theorem within_yes {n a b : Int} (h1 : a ≤ n) (h2 : n ≤ b) : within n a b = some true := by rw [within_sp, decide_eq_true h1, decide_eq_true h2]; rfl
theorem pCheckRules_ok {u : Rules} (h : RulesIn u) : pCheckRules u = some 0 := by
  obtain ⟨a1, a2, b1, b2, c1, c2, d1, d2⟩ := h
  apply ok_eq
  rw [pCheckRules_eq]
  unfold pCheckRules'
  refine Ok.rounds (fun v => 0 ≤ v.1.1 ∧ v.1.1 ≤ 4) (fun v => (4 - v.1.1).toNat) (by show (4 - (0 : Int)).toNat < FUEL; unfold FUEL; decide) ⟨by decide, by decide⟩ ?_
  rintro ⟨⟨x, u1⟩, u2⟩ kn ⟨h1, h2⟩ hk
  simp only at h1 h2 hk ⊢
  unfold pCheckRules_L2
  refine Ok.ite (fun hc => ?_) (fun hc => Ok.some rfl)
  have hx : x < 4 := by simpa using hc
  have e1 : w64 (x + 1) = x + 1 := w64_id (by omega) (by omega)
  have next : Ok (fun r => r = 0) (kn ((x + 1, ()), ())) := hk ((x + 1, ()), ()) ⟨by simp only; omega, by simp only; omega⟩ (by simp only; omega)
  simp only [e1]
  have hx4 : x = 0 ∨ x = 1 ∨ x = 2 ∨ x = 3 := by omega
  rcases hx4 with rfl | rfl | rfl | rfl
  · exact Ok.beq (within_yes a1 a2) next
  · exact Ok.beq (within_yes b1 b2) next
  · exact Ok.beq (within_yes c1 c2) next
  · exact Ok.beq (within_yes d1 d2) next
theorem moment_ok {x : Span} (h0 : 0 ≤ x.Lo) (h1 : x.Lo ≤ x.Hi) (h2 : x.Hi ≤ 3000) : moment x = some 0 := by
  rw [moment_eq]
  unfold moment'
  rw [within_yes h0 (by omega), within_yes (by omega) h2]
  have : decide (x.Lo > x.Hi) = false := decide_eq_false (by omega)
  simp [this]
def az : ByteArray := ⟨#[97, 98, 99, 100, 101, 102, 103, 104, 105, 106, 107, 108, 109, 110, 111, 112, 113, 114, 115, 116, 117, 118, 119, 120, 121, 122]⟩
def NameOk (b : ByteArray) : Prop := 1 ≤ b.size ∧ b.size ≤ 8 ∧ ∃ r, trim b az = some r ∧ (r.toList == (⟨#[]⟩ : ByteArray).toList) = true
theorem ann_ok : NameOk (⟨#[97, 110, 110]⟩ : ByteArray) := by
  refine ⟨by decide, by decide, _, by rw [trim_eq]; rfl, ?_⟩
  rw [Lib.toList_data, Lib.toList_data]
  decide
/-- A driver that passes. -/
structure DOk (d : Driver) : Prop where
  nm : NameOk d.Name
  sk : 0 ≤ d.Skills ∧ d.Skills ≤ 255
  len : d.Turns.length ≤ 20
  tv : ∀ t ∈ d.Turns, TV t ∧ t.To.Hi ≤ 3000
  srt : d.Turns.Pairwise fun a b => a.To.Hi ≤ b.From.Lo
theorem DMade.ok {name : ByteArray} {n : Int} {d : Driver} (h : DMade name n d) (hn : NameOk name) (h1 : n ≤ 20) : DOk d :=
  ⟨by rw [h.nm]; exact hn, by have := h.sk; omega, by have := h.len; omega, fun t ht => ⟨(h.tv t ht).1, by have := (h.tv t ht).2; omega⟩, h.srt⟩
theorem srt_at {l : List Turn} (h : l.Pairwise fun a b => a.To.Hi ≤ b.From.Lo) {i : Nat} (hi : i + 1 < l.length) : (l.getD i dfltTurn).To.Hi ≤ (l.getD (i + 1) dfltTurn).From.Lo := by
  rw [List.getD_eq_getElem?_getD, List.getD_eq_getElem?_getD, List.getElem?_eq_getElem (by omega), List.getElem?_eq_getElem hi]
  exact List.pairwise_iff_getElem.1 h i (i + 1) (by omega) hi (by omega)
theorem pCheck_ok {d : Driver} (h : DOk d) : pCheck d = some 0 := by
  obtain ⟨⟨s1, s2, r, hr, he⟩, ⟨k1, k2⟩, hl, ht, hs⟩ := h
  apply ok_eq
  rw [pCheck_eq]
  unfold pCheck'
  refine Ok.no (decide_eq_false (by omega)) ?_
  refine Ok.no (decide_eq_false (by omega)) ?_
  refine Ok.beq hr ?_
  refine Ok.no (by rw [he]; rfl) ?_
  refine Ok.beq (within_yes k1 k2) ?_
  refine Ok.no rfl ?_
  refine Ok.no (decide_eq_false (by omega)) ?_
  refine Ok.rounds (fun v => 0 ≤ v.1.2.1 ∧ v.1.2.1 ≤ d.Turns.length) (fun v => (d.Turns.length - v.1.2.1).toNat) ?_ ⟨by decide, by simp⟩ ?_
  · simp only; unfold FUEL; omega
  rintro ⟨⟨u1, i, u2⟩, u3⟩ kn ⟨h1, h2⟩ hk
  simp only at h1 h2 hk ⊢
  unfold pCheck_L10__3
  refine Ok.ite (fun hc => ?_) (fun hc => Ok.some rfl)
  have hi := of_decide_eq_true hc
  obtain ⟨tv, t3⟩ := ht _ (getD_mem (d := dfltTurn) (l := d.Turns) (i := i.toNat) (by omega))
  obtain ⟨t0, t1, t2, t4⟩ := tv
  have e1 : w64 (i + 1) = i + 1 := w64_id (by omega) (by omega)
  have next : Ok (fun r => r = 0) (kn ((u1, i + 1, u2), u3)) := hk ((u1, i + 1, u2), u3) ⟨by simp only; omega, by simp only; omega⟩ (by simp only; omega)
  simp only [e1]
  refine Ok.chk (ib h1 hi) ?_
  refine Ok.beq (moment_ok t0 t1 (by omega)) ?_
  refine Ok.no rfl ?_
  refine Ok.beq (moment_ok (by omega) t4 t3) ?_
  refine Ok.no rfl ?_
  refine Ok.no (decide_eq_false (by omega)) ?_
  refine Ok.ite (fun hc2 => ?_) (fun _ => next)
  have hp := of_decide_eq_true hc2
  have e2 : w64 (i - 1) = i - 1 := w64_id (by omega) (by omega)
  simp only [e2]
  refine Ok.chk (ib (by omega) (by omega)) ?_
  have := srt_at hs (i := (i - 1).toNat) (by omega)
  rw [show (i - 1).toNat + 1 = i.toNat by omega] at this
  exact Ok.no (decide_eq_false (by omega)) next
theorem checkShift_ok {u : Rules} {d : Driver} (hu : RulesIn u) (hd : DOk d) : checkShift u d = some 0 := by
  rw [checkShift_eq]
  unfold checkShift'
  rw [pCheckRules_ok hu, pCheck_ok hd]; rfl
def DL (d : Driver) : Int → Bool := drv (turnsL d.Turns)
def DS (d : Driver) : Int → Bool := drv (turnsS d.Turns)
def verdictS (u : Rules) (d : Driver) : Int := bif (firstB u (DL d) 0 3000).1 == 0 then 1 else bif (firstB u (DS d) 0 3000).1 != 0 then 2 else 3
theorem pVerdict_sp {s : Shift} (hn : s.Driver.Turns.length ≤ 1000) (hu : RulesIn s.rules) : pVerdict s = some (verdictS s.rules s.Driver) := by
  rw [pVerdict_eq]
  unfold pVerdict'
  rw [brokenL_sp s s hn hu, brokenS_sp s s hn hu]
  unfold verdictS DL DS
  simp only [Option.bind_some]
  cases (firstB s.rules (drv (turnsL s.Driver.Turns)) 0 3000).1 == 0 <;> simp only [cond_true, cond_false]
  cases (firstB s.rules (drv (turnsS s.Driver.Turns)) 0 3000).1 != 0 <;> rfl
theorem pLegal_sp {u : Rules} {d : Driver} (hu : RulesIn u) (hd : DOk d) : pLegal u d = some (verdictS u d, (firstB u (DL d) 0 3000).1, (firstB u (DL d) 0 3000).2, 0) := by
  have hl := hd.len
  rw [pLegal_eq]
  unfold pLegal'
  rw [checkShift_ok hu hd, brokenL_sp ⟨d, u⟩ ⟨d, u⟩ (by simp only; omega) hu, pVerdict_sp (s := ⟨d, u⟩) (by simp only; omega) hu]
  rfl
end Go.Proofs.Crew


/- The crew: exact drivers; the worst case (given that the examples hold). -/
namespace Go.Proofs.Crew
open Go Go.Ab
set_option linter.all false
theorem NewSeed_ok {nums : List Int} (hn : nums.length ≤ 9223372036854775807) : Ok (fun _ => True) (NewSeed nums) := by
  rw [NewSeed_eq]
  refine Ok.rounds (fun v => 0 ≤ v.1.2.1 ∧ v.1.2.1 ≤ nums.length) (fun v => ((nums.length : Int) - v.1.2.1).toNat) ?_ ?_ ?_
  · show ((nums.length : Int) - 0).toNat < 18446744073709551616
    omega
  · simp
  · rintro ⟨⟨_, i, _⟩, ⟨w, _⟩, _⟩ kn hi' hk
    simp only at hi'
    refine Ok.ite (fun hlt => ?_) fun _ => Ok.some trivial
    simp only [decide_eq_true_eq] at hlt
    have e : w64 (i + 1) = i + 1 := w64_id (by omega) (by omega)
    refine Ok.chk (by simp; omega) (Ok.bind (next_ok _) fun r _ => hk _ ?_ ?_)
    · simp [e]; omega
    · simp [e]; omega

end Go.Proofs.Crew


/- The crew: whatever is true (given that the examples hold). -/
namespace Go.Proofs.Crew
open Go Go.Ab
set_option linter.all false
theorem drv_mono {α β : Type} {l : List α} {l' : List β} {f : α → Int × Int} {g : β → Int × Int} {m : Int} (h : ∀ t ∈ l, ∃ t' ∈ l', (g t').1 ≤ (f t).1 ∧ (f t).2 ≤ (g t').2) (hm : drv (l.map f) m = true) : drv (l'.map g) m = true := by
  simp only [drv, List.any_map, List.any_eq_true, Function.comp, Bool.and_eq_true, decide_eq_true_eq] at hm ⊢
  obtain ⟨t, ht, q1, q2⟩ := hm
  obtain ⟨t', ht', p1, p2⟩ := h t ht
  exact ⟨t', ht', by omega, by omega⟩
end Go.Proofs.Crew


/- The crew: what is known better, looser rules (given that the examples hold). -/
namespace Go.Proofs.Crew
open Go Go.Ab
set_option linter.all false
/-- A turn within a turn. -/
def QI (t o : Turn) : Prop := t.From.Lo ≤ o.From.Lo ∧ o.From.Lo ≤ o.From.Hi ∧ o.From.Hi ≤ t.From.Hi ∧ t.To.Lo ≤ o.To.Lo ∧ o.To.Lo ≤ o.To.Hi ∧ o.To.Hi ≤ t.To.Hi
end Go.Proofs.Crew


/- The crew: a turn more. -/
namespace Go.Proofs.Crew
open Go Go.Ab
set_option linter.all false
def newT (a long : Int) : Turn := ⟨⟨a, a⟩, ⟨a + long, a + long⟩⟩
def addT (d : Driver) (a long : Int) : Driver := ⟨d.Name, d.Skills, d.Turns ++ [newT a long]⟩
theorem cpL_rep {α : Type} (l : List α) (x : α) : cpL (List.replicate (l.length + 1) x) l = l ++ [x] := by
  simp only [cpL, List.length_replicate]
  rw [List.take_of_length_le (by omega), List.drop_replicate]
  simp
theorem more_sp (s : Shift) {a long : Int} (hn : s.Driver.Turns.length ≤ 1000) (h1 : -100000 ≤ a + long) (h2 : a + long ≤ 100000) : more s a long = some ⟨addT s.Driver a long, s.rules⟩ := by
  rw [more_eq]
  unfold more'
  have e1 : w64 ((s.Driver.Turns.length : Int) + 1) = ((s.Driver.Turns.length + 1 : Nat) : Int) := by rw [w64_id (by omega) (by omega)]; simp
  have e2 : w64 (a + long) = a + long := w64_id (by omega) (by omega)
  rw [e1, e2]
  simp only [Int.toNat_natCast, cpL_rep]
  have c1 : fitM ((s.Driver.Turns.length + 1 : Nat) : Int) 32 = true := by unfold fitM; simp; omega
  rw [c1]
  simp only [chk, cond_true, List.length_append, List.length_cons, List.length_nil]
  have c2 : (decide (0 ≤ (s.Driver.Turns.length : Int)) && decide ((s.Driver.Turns.length : Int) < ((s.Driver.Turns.length + (0 + 1) : Nat) : Int))) = true := by simp; omega
  have c3 : decide (s.Driver.Turns.length < s.Driver.Turns.length + (0 + 1)) = true := by simp
  rw [c2, c3]
  simp only [cond_true, addT, newT]
  rw [List.set_append_right _ _ (Nat.le_refl _), Nat.sub_self]
  rfl
end Go.Proofs.Crew


/- The crew: clashes, may, for how long. -/
namespace Go.Proofs.Crew
open Go Go.Ab
set_option linter.all false
def clashB (l : List Turn) (a long : Int) : Bool := l.any fun t => decide (a < t.To.Hi) && decide (a + long > t.From.Lo)
theorem pClashes_sp (s : Shift) {a long : Int} (hn : s.Driver.Turns.length ≤ 1000) (h1 : -100000 ≤ a + long) (h2 : a + long ≤ 100000) : pClashes s a long = some (clashB s.Driver.Turns a long) := by
  apply ok_eq
  rw [pClashes_eq]
  unfold pClashes'
  have e2 : w64 (a + long) = a + long := w64_id (by omega) (by omega)
  refine (Ok.roundsD (P := fun (v : (Int × Unit) × Unit) r => r = clashB (s.Driver.Turns.drop v.1.1.toNat) a long) (fun (v : (Int × Unit) × Unit) => 0 ≤ v.1.1 ∧ v.1.1 ≤ s.Driver.Turns.length) (fun (v : (Int × Unit) × Unit) => (s.Driver.Turns.length - v.1.1).toNat) ?_ ⟨by decide, by simp⟩ ?_)
  · simp only; unfold FUEL; omega
  rintro ⟨⟨i, u1⟩, u2⟩ kn ⟨h0, h3⟩ hk
  simp only at h0 h3 hk ⊢
  unfold pClashes_L2
  refine Ok.ite (fun hc => ?_) (fun hc => ?_)
  · have hi := of_decide_eq_true hc
    have hi' : i.toNat < s.Driver.Turns.length := by omega
    have e1 : w64 (i + 1) = i + 1 := w64_id (by omega) (by omega)
    have hd : clashB (s.Driver.Turns.drop i.toNat) a long = ((decide (a < (s.Driver.Turns.getD i.toNat dfltTurn).To.Hi) && decide (a + long > (s.Driver.Turns.getD i.toNat dfltTurn).From.Lo)) || clashB (s.Driver.Turns.drop (i.toNat + 1)) a long) := by
      rw [drop_get (d := dfltTurn) hi']; rfl
    have next : (decide (a < (s.Driver.Turns.getD i.toNat dfltTurn).To.Hi) && decide (a + long > (s.Driver.Turns.getD i.toNat dfltTurn).From.Lo)) = false → Ok (fun r => r = clashB (s.Driver.Turns.drop i.toNat) a long) (kn ((i + 1, ()), ())) := fun hb => by
      obtain ⟨r, hr1, hr2⟩ := hk ((i + 1, ()), ()) ⟨by simp only; omega, by simp only; omega⟩ (by simp only; omega)
      refine ⟨r, hr1, ?_⟩
      simp only at hr2
      rw [hd, hb, hr2, toNat_succ h0]; rfl
    simp only [e1, e2]
    refine Ok.chk (ib h0 hi) ?_
    refine Ok.ite (fun hc2 => ?_) (fun hc2 => next (by rw [hc2]; rfl))
    refine Ok.ite (fun hc3 => ?_) (fun hc3 => next (by rw [hc3, Bool.and_false]))
    exact Ok.some (by rw [hd, hc2, hc3]; rfl)
  · have hi := of_decide_eq_false hc
    refine Ok.some ?_
    have : s.Driver.Turns.drop i.toNat = [] := List.drop_eq_nil_of_le (by omega)
    rw [this]; rfl
def mayB (u : Rules) (d : Driver) (a long : Int) : Bool := !(clashB d.Turns a long) && ((firstB u (DL (addT d a long)) 0 3000).1 == 0)
theorem pMay1_sp (s : Shift) {a long : Int} (hn : s.Driver.Turns.length ≤ 500) (hu : RulesIn s.rules) (h1 : -100000 ≤ a + long) (h2 : a + long ≤ 100000) : pMay1 s a long = some (mayB s.rules s.Driver a long) := by
  rw [pMay1_eq]
  unfold pMay1' mayB
  rw [pClashes_sp s (by omega) h1 h2]
  simp only [Option.bind_some]
  cases clashB s.Driver.Turns a long with
  | true => rfl
  | false =>
    simp only [cond_false]
    rw [more_sp s (by omega) h1 h2]
    simp only [Option.bind_some]
    rw [brokenL_sp ⟨addT s.Driver a long, s.rules⟩ ⟨addT s.Driver a long, s.rules⟩ (by simp only [addT, List.length_append, List.length_cons, List.length_nil]; omega) hu]
    rfl
theorem leftF_sp (s : Shift) {a long : Int} (hn : s.Driver.Turns.length ≤ 500) (hu : RulesIn s.rules) (h1 : -100000 ≤ a + long) (h2 : a + long ≤ 100000) : leftF long s a = some (!(mayB s.rules s.Driver a long)) := by
  rw [leftF_eq]
  unfold leftF'
  rw [pMay1_sp s hn hu h1 h2]; rfl
/-- The search finds the least number from which on one may not. -/
theorem Search_sp (s : Shift) {a N k : Int} (hn : s.Driver.Turns.length ≤ 500) (hu : RulesIn s.rules) (ha0 : 0 ≤ a) (ha1 : a ≤ 3000) (hN : N ≤ 3001) (k0 : 0 ≤ k) (kN : k ≤ N)
    (hlo : ∀ long : Int, 0 ≤ long → long < k → mayB s.rules s.Driver a long = true) (hhi : ∀ long : Int, k ≤ long → long < N → mayB s.rules s.Driver a long = false) : Search N (s, a) = some k := by
  apply ok_eq
  rw [Search_eq]
  unfold Search'
  refine Ok.rounds (fun v => 0 ≤ v.1.1 ∧ v.1.1 ≤ k ∧ k ≤ v.1.2.1 ∧ v.1.2.1 ≤ N) (fun v => (v.1.2.1 - v.1.1).toNat) ?_ ⟨by simp only; omega, by simp only; omega, by simp only; omega, by simp⟩ ?_
  · simp only; unfold FUEL; omega
  rintro ⟨⟨i, j, u1⟩, u2⟩ kn ⟨i0, i1, i2, i3⟩ hk
  simp only at i0 i1 i2 i3 hk ⊢
  unfold Search_L2
  refine Ok.ite (fun hc => ?_) (fun hc => ?_)
  · have hij := of_decide_eq_true hc
    have e1 : w64 (i + j) = i + j := w64_id (by omega) (by omega)
    have e2 : IntKind.u64.wrap (i + j) = i + j := u64_id (by omega) (by omega)
    have e3 : shrI .u64 (i + j) 1 = (i + j) / 2 := by
      unfold shrI
      rw [Int.fdiv_eq_ediv_of_nonneg _ (by decide)]
      simp [IntKind.bits]
    have e4 : w64 ((i + j) / 2) = (i + j) / 2 := w64_id (by omega) (by omega)
    have e5 : w64 ((i + j) / 2 + 1) = (i + j) / 2 + 1 := w64_id (by omega) (by omega)
    simp only [e1, e2, e3, e4, e5]
    refine Ok.beq (leftF_sp s hn hu (by omega) (by omega)) ?_
    rw [Bool.not_not]
    refine Ok.ite (fun hm => ?_) (fun hm => ?_)
    · refine hk (((i + j) / 2 + 1, j, ()), ()) ⟨by simp only; omega, ?_, i2, i3⟩ (by simp only; omega)
      simp only
      refine Classical.byContradiction fun h => ?_
      rw [hhi ((i + j) / 2) (by omega) (by omega)] at hm; cases hm
    · refine hk ((i, (i + j) / 2, ()), ()) ⟨i0, i1, ?_, by simp only; omega⟩ (by simp only; omega)
      simp only
      refine Classical.byContradiction fun h => ?_
      rw [hlo ((i + j) / 2) (by omega) (by omega)] at hm; cases hm
  · have hij := of_decide_eq_false hc
    exact Ok.some (by omega)
end Go.Proofs.Crew


/- The crew: the chapter's examples hold. -/
namespace Go.Proofs.Crew
open Go Go.Ab
set_option linter.all false
theorem itN_one {R γ : Type} (F : γ → (γ → Option R) → Option R) (v : γ) : itN γ F v = F v (fun v => F v (iter F 18446744073709551614)) := rfl
def u0 : Rules := ⟨4, 2, 10, 6⟩
def annD : Driver := ⟨⟨#[97, 110, 110]⟩, 3, [⟨⟨0, 0⟩, ⟨3, 3⟩⟩, ⟨⟨4, 5⟩, ⟨6, 7⟩⟩]⟩
def exD : Driver := ⟨⟨#[97, 110, 110]⟩, 3, [⟨⟨0, 0⟩, ⟨4, 4⟩⟩]⟩
theorem rules_sp : rules = some u0 := by rw [rules_eq]; rfl
theorem span_sp (a b : Int) : span a b = some ⟨a, b⟩ := by rw [span_eq]; rfl
theorem one_sp (a : Int) : one a = some ⟨a, a⟩ := by rw [one_eq]; unfold one'; rw [span_sp]; rfl
theorem ann_sp : ann = some annD := by
  rw [ann_eq]; unfold ann'
  rw [one_sp, one_sp, span_sp, span_sp]; rfl
theorem exact_sp : exact [0, 4] = some exD := by
  rw [exact_eq]; unfold exact'
  rw [itN_one]
  simp only [exact_L3, one_sp]
  rfl
theorem u0_in : RulesIn u0 := by simp only [RulesIn, u0]; omega
theorem ann_dok : DOk annD := ⟨ann_ok, by decide, by decide, fun t ht => by
  simp only [annD, List.mem_cons, List.not_mem_nil, or_false] at ht
  rcases ht with rfl | rfl <;> simp only [TV] <;> omega, by
  simp only [annD, List.pairwise_cons, List.mem_singleton, List.not_mem_nil, forall_eq]
  exact ⟨by decide, fun _ h => h.elim, .nil⟩⟩
theorem ex_dok : DOk exD := ⟨ann_ok, by decide, by decide, fun t ht => by
  simp only [exD, List.mem_cons, List.not_mem_nil, or_false] at ht
  subst ht; simp only [TV]; omega, List.pairwise_singleton _ _⟩
theorem firstB_short {u : Rules} {ts : List (Int × Int)} {k : Nat} (hk : k ≤ 3000) (h : ∀ t ∈ ts, t.2 ≤ k) : firstB u (drv ts) 0 3000 = firstB u (drv ts) 0 k := by
  have := firstB_cut (u := u) (D := drv ts) (n := k) (a := 0) (k := 3000 - k) (fun m hm => by
    have : drv ts (m : Int) = false := drv_false fun t ht => by have := h t ht; omega
    simp [brkAt, this])
  rw [show k + (3000 - k) = 3000 by omega] at this
  exact this
theorem legal0 : pLegal u0 annD = some (3, 1, 5, 0) := by
  rw [pLegal_sp u0_in ann_dok]
  have h1 : firstB u0 (DL annD) 0 3000 = (1, 5) := by
    unfold DL
    rw [firstB_short (k := 8) (by decide) (by decide)]
    decide +kernel
  have h2 : firstB u0 (DS annD) 0 3000 = (0, 0) := by
    unfold DS
    rw [firstB_short (k := 8) (by decide) (by decide)]
    decide +kernel
  unfold verdictS
  rw [h1, h2]; rfl
theorem weigh0 : pWeigh ⟨20, 10000⟩ 1000 = some (⟨971, 1030⟩, 0) := by
  rw [pWeigh_eq]; unfold pWeigh'
  have hc : pCheckScale ⟨20, 10000⟩ = some 0 := by
    rw [pCheckScale_eq]; unfold pCheckScale'
    rw [within_yes (by decide) (by decide), within_yes (by decide) (by decide)]; rfl
  rw [hc, within_yes (by decide) (by decide)]
  decide +kernel
theorem may_lo : ∀ long : Int, 0 ≤ long → long < 3 → mayB u0 exD 6 long = true := fun long h1 h2 => by
  have : long = 0 ∨ long = 1 ∨ long = 2 := by omega
  have key : ∀ l : Int, l ≤ 2 → firstB u0 (DL (addT exD 6 l)) 0 3000 = firstB u0 (DL (addT exD 6 l)) 0 8 := fun l hl => by
    unfold DL
    refine firstB_short (k := 8) (by decide) fun t ht => ?_
    simp only [turnsL, addT, exD, newT, List.map_append, List.map_cons, List.map_nil, List.mem_append, List.mem_cons, List.not_mem_nil, or_false] at ht
    rcases ht with rfl | rfl
    · decide
    · simp only; omega
  unfold mayB
  rw [key long (by omega)]
  rcases this with rfl | rfl | rfl <;> decide +kernel
theorem may_hi : ∀ long : Int, 3 ≤ long → long < 2995 → mayB u0 exD 6 long = false := fun long h1 _ => by
  have h3 : brkAt u0 (DL (addT exD 6 3)) 8 ≠ 0 := by decide +kernel
  have h4 : brkAt u0 (DL (addT exD 6 long)) 8 ≠ 0 := brk_mono (by omega) (by omega) rfl (by omega) (fun m hm => drv_mono (fun t ht => by
    simp only [addT, exD, newT, List.mem_append, List.mem_cons, List.not_mem_nil, or_false] at ht
    rcases ht with rfl | rfl
    · exact ⟨⟨⟨0, 0⟩, ⟨4, 4⟩⟩, by simp [addT, exD], by decide, by decide⟩
    · exact ⟨newT 6 long, by simp [addT], by simp [newT], by simp only [newT]; omega⟩) hm) h3
  have h5 : (firstB u0 (DL (addT exD 6 long)) 0 3000).1 ≠ 0 := firstB_ne (m := 8) (by omega) (by omega) h4
  unfold mayB
  have : ((firstB u0 (DL (addT exD 6 long)) 0 3000).1 == 0) = false := by simpa using h5
  rw [this, Bool.and_false]
theorem left0 : pLeft u0 exD 6 = some (2, 0) := by
  rw [pLeft_eq]; unfold pLeft'
  obtain ⟨v, hv⟩ : ∃ v, pMay u0 exD 6 0 = some (v, 0) := by
    rw [pMay_eq]; unfold pMay'
    rw [checkShift_ok u0_in ex_dok, within_yes (by decide) (by decide), pClashes_sp _ (by decide) (by decide) (by decide), more_sp _ (by decide) (by decide) (by decide)]
    have e : w64 (3000 - 6) = 2994 := w64_id (by decide) (by decide)
    have hc : clashB exD.Turns 6 0 = false := by decide +kernel
    simp only [Option.bind_some, e, within_yes (show (0:Int) ≤ 0 by decide) (show (0:Int) ≤ 2994 by decide), hc]
    rw [pVerdict_sp (by decide) u0_in]
    exact ⟨_, rfl⟩
  rw [hv]
  have e : w64 (w64 (3000 - 6) + 1) = 2995 := by rw [w64_id (n := 3000 - 6) (by decide) (by decide), w64_id (by decide) (by decide)]; rfl
  simp only [Option.bind_some, e]
  rw [Search_sp ⟨exD, u0⟩ (k := 3) (by decide) u0_in (by decide) (by decide) (by decide) (by decide) (by decide) may_lo may_hi]
  decide +kernel
theorem awake_true : awake = some true := by
  rw [awake_eq]; unfold awake'
  rw [rules_sp, ann_sp, exact_sp, weigh0]
  simp only [Option.bind_some]
  rw [legal0, left0]
  simp only [Option.bind_some]
  rw [span_sp]
  decide +kernel
end Go.Proofs.Crew


/- The crew: what axles truly weigh. -/
namespace Go.Proofs.Crew
open Go Go.Ab
set_option linter.all false
structure WS (s : Scale) : Prop where
  z0 : 0 ≤ s.Zero
  z1 : s.Zero ≤ 1000
  p0 : 0 ≤ s.Part
  p1 : s.Part ≤ 100000
def wLo (s : Scale) (r : Int) : Int := (max 0 (r - s.Zero) * 1000000 + (1000000 + s.Part) - 1) / (1000000 + s.Part)
def wHi (s : Scale) (r : Int) : Int := ((r + s.Zero) * 1000000) / (1000000 - s.Part)
theorem lo_iff {s : Scale} (hs : WS s) (r n : Int) : wLo s r ≤ n ↔ max 0 (r - s.Zero) * 1000000 ≤ n * (1000000 + s.Part) := by
  obtain ⟨z0, z1, p0, p1⟩ := hs
  unfold wLo
  rw [← Int.lt_add_one_iff, Int.ediv_lt_iff_lt_mul (by omega), Int.add_mul]
  generalize n * (1000000 + s.Part) = q
  omega
theorem hi_iff {s : Scale} (hs : WS s) (r n : Int) : n ≤ wHi s r ↔ n * (1000000 - s.Part) ≤ (r + s.Zero) * 1000000 := by
  obtain ⟨z0, z1, p0, p1⟩ := hs
  unfold wHi
  exact Int.le_ediv_iff_mul_le (by omega)
theorem lo_bnd {s : Scale} (hs : WS s) {r : Int} (h0 : 0 ≤ r) : 0 ≤ wLo s r ∧ wLo s r ≤ r := by
  constructor
  · obtain ⟨z0, z1, p0, p1⟩ := hs
    unfold wLo
    exact Int.ediv_nonneg (by omega) (by omega)
  · rw [lo_iff hs]
    obtain ⟨z0, z1, p0, p1⟩ := hs
    have : 0 ≤ r * s.Part := Int.mul_nonneg h0 p0
    rw [Int.mul_add]
    generalize r * s.Part = q at this ⊢
    omega
theorem hi_bnd {s : Scale} (hs : WS s) {r : Int} (h0 : 0 ≤ r) : r ≤ wHi s r ∧ wHi s r ≤ 2 * r + 2000 := by
  constructor
  · rw [hi_iff hs]
    obtain ⟨z0, z1, p0, p1⟩ := hs
    have : 0 ≤ r * s.Part := Int.mul_nonneg h0 p0
    rw [Int.mul_sub]
    generalize r * s.Part = q at this ⊢
    omega
  · refine Classical.byContradiction fun h => ?_
    have h' : 2 * r + 2001 ≤ wHi s r := by omega
    rw [hi_iff hs] at h'
    obtain ⟨z0, z1, p0, p1⟩ := hs
    have : (2 * r + 2001) * 500000 ≤ (2 * r + 2001) * (1000000 - s.Part) := Int.mul_le_mul_of_nonneg_left (by omega) (by omega)
    omega
theorem pCheckScale_sp {s : Scale} (hs : WS s) : pCheckScale s = some 0 := by
  obtain ⟨z0, z1, p0, p1⟩ := hs
  rw [pCheckScale_eq]; unfold pCheckScale'
  rw [within_yes z0 z1, within_yes p0 p1]; rfl
theorem pWeigh_sp {s : Scale} (hs : WS s) {r : Int} (r0 : 0 ≤ r) (r1 : r ≤ 100000) : pWeigh s r = some (⟨wLo s r, wHi s r⟩, 0) := by
  have hl := lo_bnd hs r0
  have hh := hi_bnd hs r0
  have hs0 := hs
  obtain ⟨z0, z1, p0, p1⟩ := hs
  rw [pWeigh_eq]; unfold pWeigh'
  have e1 : w64 (r - s.Zero) = r - s.Zero := w64_id (by omega) (by omega)
  have e2 : w64 (max 0 (r - s.Zero) * 1000000) = max 0 (r - s.Zero) * 1000000 := w64_id (by omega) (by omega)
  have e3 : w64 (1000000 + s.Part) = 1000000 + s.Part := w64_id (by omega) (by omega)
  have e4 : w64 (max 0 (r - s.Zero) * 1000000 + (1000000 + s.Part)) = max 0 (r - s.Zero) * 1000000 + (1000000 + s.Part) := w64_id (by omega) (by omega)
  have e5 : w64 (max 0 (r - s.Zero) * 1000000 + (1000000 + s.Part) - 1) = max 0 (r - s.Zero) * 1000000 + (1000000 + s.Part) - 1 := w64_id (by omega) (by omega)
  have e6 : w64 (r + s.Zero) = r + s.Zero := w64_id (by omega) (by omega)
  have e7 : w64 ((r + s.Zero) * 1000000) = (r + s.Zero) * 1000000 := w64_id (by omega) (by omega)
  have e8 : w64 (1000000 - s.Part) = 1000000 - s.Part := w64_id (by omega) (by omega)
  have d1 : (max 0 (r - s.Zero) * 1000000 + (1000000 + s.Part) - 1).tdiv (1000000 + s.Part) = wLo s r := Int.tdiv_eq_ediv_of_nonneg (by omega)
  have d2 : ((r + s.Zero) * 1000000).tdiv (1000000 - s.Part) = wHi s r := Int.tdiv_eq_ediv_of_nonneg (by omega)
  have e9 : w64 (wLo s r) = wLo s r := w64_id (by omega) (by omega)
  have e10 : w64 (wHi s r) = wHi s r := w64_id (by omega) (by omega)
  have c1 : (1000000 + s.Part != 0) = true := by simp; omega
  have c2 : (1000000 - s.Part != 0) = true := by simp; omega
  simp only [e1, e2, e3, e4, e5, e6, e7, e8, d1, d2, e9, e10, c1, c2, pCheckScale_sp hs0, within_yes r0 r1]
  rfl
theorem mulb {a b A B : Int} (a0 : 0 ≤ a) (a1 : a ≤ A) (b0 : 0 ≤ b) (b1 : b ≤ B) : 0 ≤ a * b ∧ a * b ≤ A * B :=
  ⟨Int.mul_nonneg a0 b0, Int.mul_le_mul a1 b1 b0 (by omega)⟩
theorem Shown_sp {s : Scale} (hs : WS s) {n r : Int} (n0 : 0 ≤ n) (n1 : n ≤ 300000) (r0 : 0 ≤ r) (r1 : r ≤ 100000) : Shown s n r = some (decide (wLo s r ≤ n) && decide (n ≤ wHi s r)) := by
  have k1 := lo_iff hs r n
  have k2 := hi_iff hs r n
  obtain ⟨z0, z1, p0, p1⟩ := hs
  rw [Shown_eq]; unfold Shown'
  have e3 : w64 (1000000 + s.Part) = 1000000 + s.Part := w64_id (by omega) (by omega)
  have e8 : w64 (1000000 - s.Part) = 1000000 - s.Part := w64_id (by omega) (by omega)
  have e1 : w64 (r * 1000000) = r * 1000000 := w64_id (by omega) (by omega)
  have e2 : w64 (s.Zero * 1000000) = s.Zero * 1000000 := w64_id (by omega) (by omega)
  have b1 := mulb n0 n1 (show 0 ≤ 1000000 - s.Part by omega) (show 1000000 - s.Part ≤ 1000000 by omega)
  have b2 := mulb n0 n1 (show 0 ≤ 1000000 + s.Part by omega) (show 1000000 + s.Part ≤ 1100000 by omega)
  simp only [e3, e8, e1, e2]
  generalize n * (1000000 - s.Part) = u at k2 b1 ⊢
  generalize n * (1000000 + s.Part) = v at k1 b2 ⊢
  have f1 : w64 u = u := w64_id (by omega) (by omega)
  have f2 : w64 (u - s.Zero * 1000000) = u - s.Zero * 1000000 := w64_id (by omega) (by omega)
  have f3 : w64 v = v := w64_id (by omega) (by omega)
  have f4 : w64 (v + s.Zero * 1000000) = v + s.Zero * 1000000 := w64_id (by omega) (by omega)
  simp only [f1, f2, f3, f4]
  have g1 : decide (r * 1000000 ≥ u - s.Zero * 1000000) = decide (n ≤ wHi s r) := by
    rw [decide_eq_decide, k2]; omega
  have g2 : decide (r * 1000000 ≤ v + s.Zero * 1000000) = decide (wLo s r ≤ n) := by
    rw [decide_eq_decide, k1]; omega
  rw [g1, g2]
  cases decide (n ≤ wHi s r) <;> cases decide (wLo s r ≤ n) <;> rfl
def sm (f : Int → Int) (l : List Int) : Int := l.foldl (fun a r => a + f r) 0
def mx (f : Int → Int) (l : List Int) : Int := l.foldl (fun a r => max a (f r)) 0
theorem sm_snoc (f : Int → Int) (l : List Int) (r : Int) : sm f (l ++ [r]) = sm f l + f r := by simp [sm]
theorem mx_snoc (f : Int → Int) (l : List Int) (r : Int) : mx f (l ++ [r]) = max (mx f l) (f r) := by simp [mx]
theorem take_snoc {l : List Int} {i : Nat} (h : i < l.length) : l.take (i + 1) = l.take i ++ [l.getD i 0] := by
  rw [List.take_succ, List.getD_eq_getElem?_getD, List.getElem?_eq_getElem h]; rfl
end Go.Proofs.Crew


/- The crew: scales, the program's and the reference's, whatever is given. -/
namespace Go.Proofs.Crew
open Go Go.Ab
set_option linter.all false
theorem outside_sp (n a b : Int) : outside n a b = some (!(decide (a ≤ n) && decide (n ≤ b))) := by
  rw [outside_eq]; unfold outside'
  by_cases h : n < a
  · rw [decide_eq_true h, decide_eq_false (show ¬ a ≤ n by omega)]; rfl
  · rw [decide_eq_false h, decide_eq_true (show a ≤ n by omega)]
    by_cases h2 : n ≤ b
    · rw [decide_eq_true h2, decide_eq_false (show ¬ n > b by omega)]; rfl
    · rw [decide_eq_false h2, decide_eq_true (show n > b by omega)]; rfl
def inB (n a b : Int) : Bool := decide (a ≤ n) && decide (n ≤ b)
theorem within_in (n a b : Int) : within n a b = some (inB n a b) := within_sp n a b
theorem outside_in (n a b : Int) : outside n a b = some (!(inB n a b)) := outside_sp n a b
theorem inB_iff {n a b : Int} : inB n a b = true ↔ a ≤ n ∧ n ≤ b := by simp [inB]
def wsB (s : Scale) : Bool := inB s.Zero 0 1000 && inB s.Part 0 100000
theorem wsB_ws {s : Scale} (h : wsB s = true) : WS s := by
  unfold wsB at h
  rw [Bool.and_eq_true, inB_iff, inB_iff] at h
  exact ⟨h.1.1, h.1.2, h.2.1, h.2.2⟩
theorem pCheckScale_any (s : Scale) : pCheckScale s = some (bif wsB s then 0 else 2) := by
  rw [pCheckScale_eq]; unfold pCheckScale' wsB
  simp only [within_in, Option.bind_some]
  cases inB s.Zero 0 1000 <;> cases inB s.Part 0 100000 <;> rfl
theorem rCheckScale_any (s : Scale) : rCheckScale s = some (bif wsB s then 0 else 2) := by
  rw [rCheckScale_eq]; unfold rCheckScale' wsB
  simp only [outside_in, Option.bind_some]
  cases inB s.Zero 0 1000 <;> cases inB s.Part 0 100000 <;> rfl
def okR (r : Int) : Bool := inB r 0 100000
def weighS (s : Scale) (r : Int) : Span × Int := bif wsB s then (bif okR r then (⟨wLo s r, wHi s r⟩, 0) else (⟨0, 0⟩, 2)) else (⟨0, 0⟩, 2)
theorem pWeigh_any (s : Scale) (r : Int) : pWeigh s r = some (weighS s r) := by
  unfold weighS
  cases hw : wsB s with
  | false =>
    rw [pWeigh_eq]; unfold pWeigh'
    rw [pCheckScale_any, hw]; rfl
  | true =>
    cases hr : okR r with
    | false =>
      rw [pWeigh_eq]; unfold pWeigh'
      rw [pCheckScale_any, hw, within_in]
      unfold okR at hr
      rw [hr]; rfl
    | true =>
      have h := inB_iff.1 hr
      exact pWeigh_sp (wsB_ws hw) h.1 h.2
theorem weigh_sp {s : Scale} (hs : WS s) {r : Int} (r0 : 0 ≤ r) (r1 : r ≤ 100000) : weigh s r = some ⟨wLo s r, wHi s r⟩ := by
  have hl := lo_bnd hs r0
  have hh := hi_bnd hs r0
  apply ok_eq
  rw [weigh_eq]; unfold weigh'
  have second : ∀ {F : (Unit × Unit × Unit × Unit) × (Int × Int × Unit) × Unit → ((Unit × Unit × Unit × Unit) × (Int × Int × Unit) × Unit → Option Span) → Option Span},
      (∀ lo hi kn, F (((), (), (), ()), ((lo, hi, ()), ())) kn = (Shown s (w64 (hi + 1)) r).bind fun b => bif b then kn (((), (), (), ()), ((lo, w64 (hi + 1), ()), ())) else some ⟨lo, hi⟩) →
      Ok (fun b => b = (⟨wLo s r, wHi s r⟩ : Span)) (itN _ F (((), (), (), ()), ((wLo s r, r, ()), ()))) := fun hF => by
    refine Ok.rounds (fun v => v.2.1.1 = wLo s r ∧ r ≤ v.2.1.2.1 ∧ v.2.1.2.1 ≤ wHi s r) (fun v => (wHi s r - v.2.1.2.1).toNat) ?_ ⟨rfl, Int.le_refl _, hh.1⟩ ?_
    · simp only; unfold FUEL; omega
    rintro ⟨⟨u1, u2, u3, u4⟩, ⟨lo, hi, u5⟩, u6⟩ kn ⟨h1, h2, h3⟩ hk
    simp only at h1 h2 h3 hk ⊢
    subst h1
    rw [hF, w64_id (n := hi + 1) (by omega) (by omega)]
    refine Ok.beq (Shown_sp hs (by omega) (by omega) r0 r1) ?_
    rw [decide_eq_true (show wLo s r ≤ hi + 1 by omega), Bool.true_and]
    refine Ok.ite (fun hc => ?_) (fun hc => ?_)
    · have hc := of_decide_eq_true hc
      exact hk (((), (), (), ()), ((wLo s r, hi + 1, ()), ())) ⟨rfl, by simp only; omega, by simp only; omega⟩ (by simp only; omega)
    · have hc := of_decide_eq_false hc
      have : hi = wHi s r := by omega
      subst this
      exact Ok.some rfl
  refine Ok.rounds (fun v => wLo s r ≤ v.2.1.1 ∧ v.2.1.1 ≤ r ∧ v.2.1.2.1 = r) (fun v => v.2.1.1.toNat) ?_ ⟨hl.2, Int.le_refl _, rfl⟩ ?_
  · simp only; unfold FUEL; omega
  rintro ⟨⟨u1, u2, u3, u4⟩, ⟨lo, hi, u5⟩, u6⟩ kn ⟨h1, h2, h3⟩ hk
  simp only at h1 h2 h3 hk ⊢
  subst h3
  unfold weigh_L2
  refine Ok.ite (fun hc => ?_) (fun hc => ?_)
  · have hc := of_decide_eq_true hc
    rw [w64_id (n := lo - 1) (by omega) (by omega)]
    refine Ok.beq (Shown_sp hs (by omega) (by omega) r0 r1) ?_
    rw [decide_eq_true (show lo - 1 ≤ wHi s hi by omega), Bool.and_true]
    refine Ok.ite (fun hc2 => ?_) (fun hc2 => ?_)
    · have hc2 := of_decide_eq_true hc2
      exact hk (((), (), (), ()), ((lo - 1, hi, ()), ())) ⟨by simp only; omega, by simp only; omega, rfl⟩ (by simp only; omega)
    · have hc2 := of_decide_eq_false hc2
      have : lo = wLo s hi := by omega
      subst this
      exact second fun _ _ _ => rfl
  · have hc := of_decide_eq_false hc
    have : lo = wLo s hi := by omega
    subst this
    exact second fun _ _ _ => rfl
theorem rWeigh_any (s : Scale) (r : Int) : rWeigh s r = some (weighS s r) := by
  unfold weighS
  rw [rWeigh_eq]; unfold rWeigh'
  cases hw : wsB s with
  | false => rw [rCheckScale_any, hw]; rfl
  | true =>
    rw [rCheckScale_any, hw, outside_in]
    cases hr : okR r with
    | false =>
      unfold okR at hr
      rw [hr]; rfl
    | true =>
      have h := inB_iff.1 hr
      unfold okR at hr
      rw [hr, weigh_sp (wsB_ws hw) h.1 h.2]; rfl
def passV (s : Scale) (l : List Int) (a : Allow) : Int := bif (decide (mx (wHi s) l ≤ a.Axle) && decide (sm (wHi s) l ≤ a.Total)) then 1 else bif (decide (mx (wLo s) l > a.Axle) || decide (sm (wLo s) l > a.Total)) then 2 else 3
def passS (s : Scale) (l : List Int) (a : Allow) : Int × Span × Int := bif wsB s then (bif decide ((l.length : Int) > 12) then (0, ⟨0, 0⟩, 8) else bif (inB a.Axle 0 1000000 && inB a.Total 0 1000000) then (bif l.all okR then (passV s l a, ⟨sm (wLo s) l, sm (wHi s) l⟩, 0) else (0, ⟨0, 0⟩, 2)) else (0, ⟨0, 0⟩, 2)) else (0, ⟨0, 0⟩, 2)
theorem all_snoc (l : List Int) (r : Int) : (l ++ [r]).all okR = (l.all okR && okR r) := by simp
theorem not_all {l : List Int} {i : Nat} (hi : i < l.length) (h : okR (l.getD i 0) = false) : l.all okR = false := by
  rw [List.all_eq_false]
  exact ⟨_, getD_mem hi, by rw [h]; simp⟩
theorem weighS_ok {s : Scale} (hw : wsB s = true) {r : Int} (hr : okR r = true) : weighS s r = (⟨wLo s r, wHi s r⟩, 0) := by unfold weighS; rw [hw, hr]; rfl
theorem weighS_no {s : Scale} (hw : wsB s = true) {r : Int} (hr : okR r = false) : weighS s r = (⟨0, 0⟩, 2) := by unfold weighS; rw [hw, hr]; rfl
theorem pPass_any (s : Scale) (l : List Int) (a : Allow) : pPass s l a = some (passS s l a) := by
  apply ok_eq
  unfold passS
  rw [pPass_eq]; unfold pPass'
  refine Ok.beq (pCheckScale_any s) ?_
  cases hw : wsB s with
  | false => exact Ok.some rfl
  | true =>
    have hs := wsB_ws hw
    refine Ok.no rfl ?_
    simp only [cond_true]
    refine Ok.ite (fun hc => ?_) (fun hc => ?_)
    · rw [hc]; exact Ok.some rfl
    rw [hc]
    have hl := of_decide_eq_false hc
    refine Ok.beq (within_in _ _ _) ?_
    cases ha : inB a.Axle 0 1000000 with
    | false => exact Ok.some rfl
    | true =>
      refine Ok.no rfl ?_
      refine Ok.beq (within_in _ _ _) ?_
      cases ht : inB a.Total 0 1000000 with
      | false => exact Ok.some rfl
      | true =>
        refine Ok.no rfl ?_
        simp only [cond_false, cond_true, Bool.and_self]
        refine Ok.rounds (fun v => ∃ i : Nat, v.1.2.2.2.2.1 = (i : Int) ∧ i ≤ l.length ∧ (l.take i).all okR = true ∧ v.2.1.1 = sm (wLo s) (l.take i) ∧ v.2.1.2.1 = sm (wHi s) (l.take i) ∧ v.2.2.1.1 = mx (wLo s) (l.take i) ∧ v.2.2.1.2.1 = mx (wHi s) (l.take i) ∧ 0 ≤ v.2.1.1 ∧ v.2.1.1 ≤ 300000 * i ∧ 0 ≤ v.2.1.2.1 ∧ v.2.1.2.1 ≤ 300000 * i) (fun v => (l.length - v.1.2.2.2.2.1).toNat) ?_ ⟨0, rfl, by omega, by simp, by simp [sm], by simp [sm], by simp [mx], by simp [mx], by simp⟩ ?_
        · simp only; unfold FUEL; omega
        rintro ⟨⟨u1, u2, u3, u4, x, u5⟩, ⟨tl, th, u6⟩, ⟨hlo, hhi, u7⟩, u8⟩ kn ⟨i, h1, h2, h0, h3, h4, h5, h6, h7, h8, h9, h10⟩ hk
        simp only at h1 h2 h3 h4 h5 h6 h7 h8 h9 h10 hk ⊢
        subst h1
        unfold pPass_L11__2
        refine Ok.ite (fun hc => ?_) (fun hc => ?_)
        · have hi := of_decide_eq_true hc
          have hi' : i < l.length := by omega
          refine Ok.chk (ib (by omega) hi) ?_
          simp only [Int.toNat_natCast]
          refine Ok.beq (pWeigh_any _ _) ?_
          cases hr : okR (l.getD i 0) with
          | false =>
            rw [weighS_no hw hr, not_all hi' hr]
            exact Ok.some rfl
          | true =>
            rw [weighS_ok hw hr]
            have hm := inB_iff.1 hr
            have b1 := lo_bnd hs hm.1
            have b2 := hi_bnd hs hm.1
            refine Ok.no rfl ?_
            have e1 : w64 ((i : Int) + 1) = (i : Int) + 1 := w64_id (by omega) (by omega)
            have e2 : w64 (tl + wLo s (l.getD i 0)) = tl + wLo s (l.getD i 0) := w64_id (by omega) (by omega)
            have e3 : w64 (th + wHi s (l.getD i 0)) = th + wHi s (l.getD i 0) := w64_id (by omega) (by omega)
            simp only [e1, e2, e3]
            refine hk (((), (), (), (), (i : Int) + 1, ()), ((_, _, ()), (_, _, ()), ())) ⟨i + 1, by simp, by omega, ?_, ?_, ?_, ?_, ?_, ?_, ?_, ?_, ?_⟩ (by simp only; omega)
            · rw [take_snoc hi', all_snoc, h0, hr]; rfl
            · simp only; rw [take_snoc hi', sm_snoc, h3]
            · simp only; rw [take_snoc hi', sm_snoc, h4]
            · simp only; rw [take_snoc hi', mx_snoc, h5]
            · simp only; rw [take_snoc hi', mx_snoc, h6]
            · simp only; omega
            · simp only; omega
            · simp only; omega
            · simp only; omega
        · have hi : i = l.length := by have := of_decide_eq_false hc; omega
          subst hi
          rw [List.take_length] at h0 h3 h4 h5 h6
          subst h3 h4 h5 h6
          rw [h0]
          unfold passV
          cases decide (mx (wHi s) l ≤ a.Axle) <;> cases decide (sm (wHi s) l ≤ a.Total) <;> cases decide (mx (wLo s) l > a.Axle) <;> cases decide (sm (wLo s) l > a.Total) <;> exact Ok.some rfl
theorem rPass_any (s : Scale) (l : List Int) (a : Allow) : rPass s l a = some (passS s l a) := by
  apply ok_eq
  unfold passS
  rw [rPass_eq]; unfold rPass'
  refine Ok.beq (rCheckScale_any s) ?_
  cases hw : wsB s with
  | false => exact Ok.some rfl
  | true =>
    have hs := wsB_ws hw
    refine Ok.no rfl ?_
    simp only [cond_true]
    refine Ok.ite (fun hc => ?_) (fun hc => ?_)
    · rw [hc]; exact Ok.some rfl
    rw [hc]
    have hl := of_decide_eq_false hc
    refine Ok.beq (outside_in _ _ _) ?_
    cases ha : inB a.Axle 0 1000000 with
    | false => exact Ok.some rfl
    | true =>
      refine Ok.no rfl ?_
      refine Ok.beq (outside_in _ _ _) ?_
      cases ht : inB a.Total 0 1000000 with
      | false => exact Ok.some rfl
      | true =>
        refine Ok.no rfl ?_
        have hax := (inB_iff.1 ha).1
        simp only [cond_false, cond_true, Bool.and_self]
        refine Ok.rounds (fun v => ∃ i : Nat, v.1.2.2.2.2.2.2.1 = (i : Int) ∧ i ≤ l.length ∧ (l.take i).all okR = true ∧ v.2.2.1.1 = sm (wLo s) (l.take i) ∧ v.2.2.1.2.1 = sm (wHi s) (l.take i) ∧ v.1.2.2.2.2.1 = decide (mx (wHi s) (l.take i) ≤ a.Axle) ∧ v.1.2.2.2.2.2.1 = decide (mx (wLo s) (l.take i) > a.Axle) ∧ 0 ≤ v.2.2.1.1 ∧ v.2.2.1.1 ≤ 300000 * i ∧ 0 ≤ v.2.2.1.2.1 ∧ v.2.2.1.2.1 ≤ 300000 * i) (fun v => (l.length - v.1.2.2.2.2.2.2.1).toNat) ?_ ⟨0, rfl, by omega, by simp, by simp [sm], by simp [sm], (decide_eq_true (show (0:Int) ≤ a.Axle from hax)).symm, (decide_eq_false (show ¬ (0:Int) > a.Axle by omega)).symm, by simp⟩ ?_
        · simp only; unfold FUEL; omega
        rintro ⟨⟨u1, u2, u3, u4, sure, never, x, u5⟩, ⟨xl, xh, u7⟩, ⟨tl, th, u6⟩, u8⟩ kn ⟨i, h1, h2, h0, h3, h4, h5, h6, h7, h8, h9, h10⟩ hk
        simp only at h1 h2 h3 h4 h5 h6 h7 h8 h9 h10 hk ⊢
        subst h1
        unfold rPass_L11
        refine Ok.ite (fun hc => ?_) (fun hc => ?_)
        · have hi := of_decide_eq_true hc
          have hi' : i < l.length := by omega
          refine Ok.chk (ib (by omega) hi) ?_
          simp only [Int.toNat_natCast]
          refine Ok.beq (rWeigh_any _ _) ?_
          cases hr : okR (l.getD i 0) with
          | false =>
            rw [weighS_no hw hr, not_all hi' hr]
            exact Ok.some rfl
          | true =>
            rw [weighS_ok hw hr]
            have hm := inB_iff.1 hr
            have b1 := lo_bnd hs hm.1
            have b2 := hi_bnd hs hm.1
            refine Ok.no rfl ?_
            have e1 : w64 ((i : Int) + 1) = (i : Int) + 1 := w64_id (by omega) (by omega)
            have e2 : w64 (tl + wLo s (l.getD i 0)) = tl + wLo s (l.getD i 0) := w64_id (by omega) (by omega)
            have e3 : w64 (th + wHi s (l.getD i 0)) = th + wHi s (l.getD i 0) := w64_id (by omega) (by omega)
            simp only [e1, e2, e3]
            have step : ∀ (s2 n2 : Bool), s2 = (sure && decide (wHi s (l.getD i 0) ≤ a.Axle)) → n2 = (never || decide (wLo s (l.getD i 0) > a.Axle)) → Ok (fun b => b = bif l.all okR then (passV s l a, (⟨sm (wLo s) l, sm (wHi s) l⟩ : Span), (0 : Int)) else (0, ⟨0, 0⟩, 2)) (kn (((), (), (), (), s2, n2, (i : Int) + 1, ()), ((xl, xh, ()), (tl + wLo s (l.getD i 0), th + wHi s (l.getD i 0), ()), ()))) := fun s2 n2 q1 q2 => by
              refine hk (((), (), (), (), s2, n2, (i : Int) + 1, ()), ((xl, xh, ()), (_, _, ()), ())) ⟨i + 1, by simp, by omega, ?_, ?_, ?_, ?_, ?_, ?_, ?_, ?_, ?_⟩ (by simp only; omega)
              · rw [take_snoc hi', all_snoc, h0, hr]; rfl
              · simp only; rw [take_snoc hi', sm_snoc, h3]
              · simp only; rw [take_snoc hi', sm_snoc, h4]
              · simp only; rw [take_snoc hi', mx_snoc, q1, h5, ← Bool.decide_and, decide_eq_decide]; omega
              · simp only; rw [take_snoc hi', mx_snoc, q2, h6, ← Bool.decide_or, decide_eq_decide]; omega
              · simp only; omega
              · simp only; omega
              · simp only; omega
              · simp only; omega
            cases sure <;> cases never <;> exact step _ _ rfl rfl
        · have hi : i = l.length := by have := of_decide_eq_false hc; omega
          subst hi
          rw [List.take_length] at h0 h3 h4 h5 h6
          subst h3 h4
          rw [h0]
          unfold passV
          rw [← h5, ← h6]
          cases sure <;> cases never <;> cases decide (sm (wHi s) l ≤ a.Total) <;> cases decide (sm (wLo s) l > a.Total) <;> exact Ok.some rfl
end Go.Proofs.Crew


/- The crew: the law of scales. -/
namespace Go.Proofs.Crew
open Go Go.Ab
set_option linter.all false
theorem Inside_ok2 (s : Seed) {x : Span} (h0 : 0 ≤ x.Lo) (h1 : x.Lo ≤ x.Hi) (h2 : x.Hi ≤ 900000) : Ok (fun r => x.Lo ≤ r.2 ∧ r.2 ≤ x.Hi) (Inside s x) := by
  rw [Inside_eq]
  refine Ok.bind (From_ok s (by omega) (by omega) (by omega) (by omega)) fun r1 q1 => ?_
  refine Ok.bind (From_ok _ (by omega) (by omega) (by omega) (by omega)) fun r2 q2 => ?_
  refine Ok.bind (Of_ok _ (by simp) (by simp)) fun r3 q3 => Ok.some ?_
  simp only [List.mem_cons, List.not_mem_nil, or_false] at q3
  simp only
  omega
theorem CrewScales_true (ha : awake = some true) (x : Scale) (reading : Int) (readings : List Int) (a : Allow) {nums : List Int} (hn : nums.length ≤ 9223372036854775807) : CrewScales x reading readings a nums = some true := by
  apply ok_eq
  rw [CrewScales_eq]
  unfold CrewScales'
  refine Ok.ite (fun hc => Ok.beq ha (Ok.some rfl)) (fun hc => ?_)
  refine Ok.bind (NewSeed_ok hn) fun r2 _ => ?_
  refine Ok.bind (Below_ok _ (by decide)) fun r3 q3 => ?_
  refine Ok.bind (Of_ok _ (by simp) (by simp)) fun r4 q4 => ?_
  refine Ok.bind (Below_ok _ (by decide)) fun r5 q5 => ?_
  refine Ok.bind (Of_ok _ (by simp) (by simp)) fun r6 q6 => ?_
  refine Ok.bind (Below_ok _ (by decide)) fun r7 q7 => ?_
  have z : 0 ≤ r4.2 ∧ r4.2 ≤ 1000 := by simp only [List.mem_cons, List.not_mem_nil, or_false] at q4; omega
  have p : 0 ≤ r6.2 ∧ r6.2 ≤ 100000 := by simp only [List.mem_cons, List.not_mem_nil, or_false] at q6; omega
  have hs : WS ⟨r4.2, r6.2⟩ := ⟨z.1, z.2, p.1, p.2⟩
  have hw : wsB ⟨r4.2, r6.2⟩ = true := by unfold wsB; rw [Bool.and_eq_true, inB_iff, inB_iff]; exact ⟨z, p⟩
  refine Ok.rounds (fun v => 0 ≤ v.1.2.2.2.2.2.2.2.1 ∧ v.1.2.2.2.2.2.2.2.1 ≤ 6 ∧ v.1.2.2.2.2.1.length ≤ 6 - v.1.2.2.2.2.2.2.2.1) (fun v => v.1.2.2.2.2.2.2.2.1.toNat) ?_ ⟨by simp only; omega, by simp only; omega, by simp only [List.length_nil]; omega⟩ ?_
  · simp only; unfold FUEL; omega
  rintro ⟨⟨u1, u2, u3, u4, l, most, sum, i, u5⟩, ⟨w1, u6⟩, u7⟩ kn ⟨i0, i1, i2⟩ hk
  simp only at i0 i1 i2 hk ⊢
  unfold CrewScales_L8
  refine Ok.ite (fun hc => ?_) (fun hc => ?_)
  · have hi := of_decide_eq_true hc
    refine Ok.bind (Below_ok _ (by decide)) fun r8 q8 => ?_
    refine Ok.bind (Of_ok _ (by simp) (by simp)) fun r9 q9 => ?_
    have b9 : 0 ≤ r9.2 ∧ r9.2 ≤ 100000 := by simp only [List.mem_cons, List.not_mem_nil, or_false] at q9; omega
    have hr : okR r9.2 = true := inB_iff.2 b9
    refine Ok.beq (rWeigh_any _ _) ?_
    rw [weighS_ok hw hr]
    have b1 := lo_bnd hs b9.1
    have b2 := hi_bnd hs b9.1
    refine Ok.chk (fitA_ok (by simp only [List.length_cons, List.length_nil]; omega) (by decide)) ?_
    refine Ok.bind (Inside_ok2 _ (by simp only; omega) (by simp only; omega) (by simp only; omega)) fun r11 _ => ?_
    refine Ok.bind (Inside_ok2 _ (by simp only; omega) (by simp only; omega) (by simp only; omega)) fun r12 _ => ?_
    have e4 : w64 (i - 1) = i - 1 := w64_id (by omega) (by omega)
    rw [e4]
    exact hk (((), (), (), (), l ++ [r9.2], max most r11.2, w64 (sum + r12.2), i - 1, ()), ((r12.1.word, ()), ())) ⟨by simp only; omega, by simp only; omega, by simp only [List.length_append, List.length_cons, List.length_nil]; omega⟩ (by simp only; omega)
  · refine Ok.bind (From_ok _ (by decide) (by decide) (by decide) (by decide)) fun r13 q13 => ?_
    refine Ok.bind (From_ok _ (by decide) (by decide) (by decide) (by decide)) fun r14 q14 => ?_
    refine Ok.bind (Below_ok _ (by decide)) fun r15 q15 => ?_
    refine Ok.rounds (fun v => 0 ≤ v.1.2.2.2.2.1 ∧ v.1.2.2.2.2.1 ≤ 3) (fun v => (3 - v.1.2.2.2.2.1).toNat) ?_ ⟨by decide, by decide⟩ ?_
    · simp only; unfold FUEL; decide
    rintro ⟨⟨v1, v2, v3, v4, k, v5⟩, v6⟩ kn2 ⟨k0, k3⟩ hk2
    simp only at k0 k3 hk2 ⊢
    unfold CrewScales_L16
    obtain ⟨S, hS⟩ : ∃ S, ([x, (⟨r4.2, r6.2⟩ : Scale), (⟨r4.2, r6.2⟩ : Scale)] : List Scale) = S := ⟨_, rfl⟩
    obtain ⟨N, hN⟩ : ∃ N, [reading, r15.2, reading] = N := ⟨_, rfl⟩
    obtain ⟨L, hL⟩ : ∃ L, [readings, l, l] = L := ⟨_, rfl⟩
    obtain ⟨A, hA⟩ : ∃ A, ([a, (⟨(max 0 (w64 (most + r13.2))), (min 1000000 (max 0 (w64 (sum + r14.2))))⟩ : Allow), a] : List Allow) = A := ⟨_, rfl⟩
    have lS : S.length = 3 := by rw [← hS]; rfl
    have lN : N.length = 3 := by rw [← hN]; rfl
    have lL : L.length = 3 := by rw [← hL]; rfl
    have lA : A.length = 3 := by rw [← hA]; rfl
    rw [hS, hN, hL, hA, lS, lN, lL, lA]
    refine Ok.ite (fun hc => ?_) (fun hc => Ok.beq ha (Ok.some rfl))
    have hk3 : k < 3 := of_decide_eq_true hc
    have c1 := ib (n := 3) k0 hk3
    have c2 : decide (k.toNat < 3) = true := decide_eq_true (by omega)
    have ek : w64 (k + 1) = k + 1 := w64_id (by omega) (by omega)
    refine Ok.chk c1 (Ok.chk c2 (Ok.chk c1 (Ok.chk c2 ?_)))
    refine Ok.beq (pWeigh_any _ _) ?_
    refine Ok.chk c1 (Ok.chk c2 (Ok.chk c1 (Ok.chk c2 ?_)))
    refine Ok.beq (rWeigh_any _ _) ?_
    refine Ok.chk c1 (Ok.chk c2 (Ok.chk c1 (Ok.chk c2 (Ok.chk c1 (Ok.chk c2 ?_)))))
    refine Ok.beq (pPass_any _ _ _) ?_
    refine Ok.chk c1 (Ok.chk c2 (Ok.chk c1 (Ok.chk c2 (Ok.chk c1 (Ok.chk c2 ?_)))))
    refine Ok.beq (rPass_any _ _ _) ?_
    refine Ok.no (by simp) (Ok.no (by simp) (Ok.no (by simp) (Ok.no (by simp) (Ok.no (by simp) ?_))))
    rw [ek]
    exact hk2 (((), (), (), (), k + 1, ()), ()) ⟨by simp only; omega, by simp only; omega⟩ (by simp only; omega)
end Go.Proofs.Crew


/- How the arguments of a law are read as plain data of Lean, what the table of the four cases holds, and what a law that writes nothing older than itself leaves: its arguments read as they did. -/
namespace Go.Proofs.YthmgcjmoiilggaaDoor
open Go Go.Ab Go.ChangeShapes Go.WideShapes Go.ChangeAt Go.RowKit
set_option maxRecDepth 100000

/-- All that a world's memory holds. -/
def allK (w : World) : Nat → Nat → Option Value := fun b o => w.cell? ⟨b, o, none⟩
theorem allK_fits (w : World) : Fits (allK w) w := fun _ _ _ h => h

theorem cells3 : Tryd.prog.cellsOf 3 = 1 := by kernel_rfl
section
variable {H : Type} {enc : TypeId × Value → H} {W : World}

/-- Whatever reads as the type, stands for a datum of Lean. -/
def Rd {α : Type} (enc : TypeId × Value → H) (W : World) (t : TypeId) (ec : α → List D) : Prop :=
  ∀ n cs x, DataW.trod enc Tryd.prog W 0 (fun _ => true) true n t cs = some x → ∃ a : α, RepL (allK W) γ0 sv0 (ec a) cs

theorem rd_int : Rd enc W 3 encI := by
  intro n cs x h
  obtain ⟨a, rfl, _⟩ := DataW.trod_int Tryd.underlying3 h
  exact ⟨a, .cons _ _ _ _ (.int _ _) .nil⟩

theorem rd_slice {α : Type} [Inhabited α] {t e z : Nat} {ec : α → List D} (ht : Tryd.prog.underlying t = some (.slice e)) (hz : Tryd.prog.cellsOf e = z) (hz0 : 0 < z) (hl : ∀ a, (ec a).length = z)
    (hc : ∀ a, allCell (ec a) = true) (hr : Rd enc W e ec) : Rd enc W t (fun l : List α => [slOf z ec l]) := by
  intro n cs x h
  rcases Deep.open_slice ht h with ⟨rfl, rfl⟩ | ⟨a, len, cap, m, n', D, Pl, rfl, _, hlc, _, hm, rfl, hx⟩
  · exact ⟨[], .cons _ _ _ _ (.sl0 _ _) .nil⟩
  · simp only [if_true] at hm
    subst hm
    rw [hz] at hx
    rcases Nat.eq_zero_or_pos len with rfl | hpos
    · exact ⟨[], .cons _ _ _ _ (.slE _ _ _ _) .nil⟩
    · have hx' : ∀ i, i < len → ∃ p : α × List Value, W.cells? 0 (a.add (i * z)) z = some p.2 ∧ RepL (allK W) γ0 sv0 (ec p.1) p.2 := fun i hi => by
        obtain ⟨cs', h1, h2⟩ := hx i (by omega)
        obtain ⟨b, hb⟩ := hr _ _ _ h2
        exact ⟨(b, cs'), h1, hb⟩
      obtain ⟨F, hF⟩ := Deep.choose_lt hx'
      have hsp : a.spot = none := by
        obtain ⟨_, h1, h2⟩ := World.cells?_some (hF 0 hpos).1
        have h3 := h2 0 hz0
        rw [List.getElem?_eq_getElem (by omega)] at h3
        simpa [Addr.add] using World.cell?_spot h3
      obtain ⟨b, off, sp⟩ := a
      simp only at hsp
      subst hsp
      refine ⟨(List.range len).map (fun i => (F i).1), .cons _ _ _ _ ?_ .nil⟩
      have hlen : ((List.range len).map (fun i => (F i).1)).length = len := by simp
      have hg : ∀ i, i < len → ((List.range len).map (fun i => (F i).1)).getD i default = (F i).1 := fun i hi => by simp [List.getD, hi]
      unfold slOf
      rw [hlen]
      refine .sl z len _ b off m (fun i => (F i).2) hlc (fun i _ => hl _) (fun i _ => hc _) (fun i hi => by rw [hg i hi]; exact (hF i hi).2) (fun i j v hi hj => ?_)
      obtain ⟨_, h1, h2⟩ := World.cells?_some (hF i hi).1
      have hjl := (List.getElem?_eq_some_iff.1 hj).1
      have h3 := h2 j (by omega)
      rw [add_plain, add_plain, hj] at h3
      exact h3

theorem arg_ints {v : Value} {d : DataW H} {ps : List MemPlace} {base : Nat} (hv : Value.okWide Tryd.prog W .any base 31 v) (h : DataW.Trod enc Tryd.prog W 0 (fun _ => true) true 31 v d ps) :
    ∃ l : List Int, Rep (allK W) γ0 sv0 (slOf 1 encI l) v := by
  obtain ⟨n, hn⟩ := h
  obtain ⟨l, hl⟩ := rd_slice (ec := encI) Tryd.underlying31 cells3 (by decide) (fun _ => rfl) (fun _ => rfl) rd_int _ _ _ hn
  obtain ⟨a0, len, cap, rfl⟩ := okWide_slice Tryd.underlying31 hv
  cases hl with
  | cons _ _ _ _ k _ => exact ⟨l, k⟩
end
theorem glob_of {W : World} : GlobOk seat (allK W) := fun g l h => by cases h
theorem laidOut : laidOutB Tryd.prog = true := by kernel_rfl
theorem own : ownKnob Tryd.prog.godebug = none := by kernel_rfl

theorem trodAll_stays {H : Type} {enc : TypeId × Value → H} {W W' : World} {sp' : Nat → Bool} (hb : Below W.heap.size W W') : ∀ {ts : List TypeId} {vs : List Value} {ds : List (DataW H)} {ps : List MemPlace},
    (∀ t ∈ ts, Tryd.prog.readableRec t = true ∧ t < Tryd.prog.types.size) → DataW.TrodAll enc Tryd.prog W 0 (fun _ => true) true ts vs ds ps → (∀ p ∈ ps, p.block < W.heap.size) → (∀ p ∈ ps, sp' p.block = true) →
    DataW.TrodAll enc Tryd.prog W' 0 sp' true ts vs ds ps
  | [], [], [], _, _, h, _, _ => h
  | _ :: _, _ :: _, _ :: _, _, hT, ⟨p, q, h1, h2, e⟩, hlt, hs => ⟨p, q,
      WideElems.Trod_stays laidOut (hT _ (List.mem_cons_self ..)).1 (hT _ (List.mem_cons_self ..)).2 h1 (fun x hx => hb.same (hlt x (by rw [e]; exact List.mem_append_left _ hx))) (fun x hx => hs x (by rw [e]; exact List.mem_append_left _ hx)),
      trodAll_stays hb (fun t ht => hT t (List.mem_cons_of_mem _ ht)) h2 (fun x hx => hlt x (by rw [e]; exact List.mem_append_right _ hx)) (fun x hx => hs x (by rw [e]; exact List.mem_append_right _ hx)), e⟩

/-- A law that says yes and writes nothing older than itself. -/
theorem post_yes {H : Type} {enc : TypeId × Value → H} {f : Func} {s : ChangeSpec} {W W' : World} {args : Array Value} {ds gs : List (DataW H)} {before : List MemPlace}
    (hW : DataW.Whole enc Tryd.prog f.params.toList s.vars false W args.toList ds gs before) (hv : s.vars = []) (hb : Below W.heap.size W W')
    (hT : ∀ t ∈ f.params.toList, Tryd.prog.readableRec t = true ∧ t < Tryd.prog.types.size) (hrt : f.resultTypes = #[4])
    (hr : (s.fn H (ds ++ gs)).results = [.lit (.bool true)]) (ha : (s.fn H (ds ++ gs)).args = ds) (hvs : (s.fn H (ds ++ gs)).vars = []) :
    s.post enc Tryd.prog f false true false false W args (.bool true) W' := by
  have hlt := hW.lt
  have hW2 := hW
  obtain ⟨p, q, hA, hV, rfl, _, _⟩ := hW
  rw [hv] at hV
  obtain ⟨rfl, rfl⟩ := trodVars_none hV
  refine ⟨ds, [], p ++ [], [], p, [], hW2, ?_, ?_, ?_, hb.frame _, fun h => by cases h⟩
  · rw [hr, hrt]
    exact trodAll_mk1 (shut_bool Tryd.underlying4 _)
  · rw [ha]
    exact trodAll_stays hb hT hA (fun x hx => hlt x (by simpa using hx)) (fun x hx => by simpa using hlt x (by simpa using hx))
  · rw [hvs, hv]; rfl

/-- A world for the witness: the settled one, the table holding what its initialiser lays. -/
def layObj (l : List Nat) : Obj → Obj
  | .cells _ t frozen => .cells (l.map fun (n : Nat) => Value.int .u8 (n : Int)).toArray t frozen
  | o => o
noncomputable def laidWorld (os : Os) : World :=
  { World.holding Tryd.prog os ⟨#[], #[], []⟩ with heap := ((World.holding Tryd.prog os ⟨#[], #[], []⟩).heap.modify 1 (layObj [128, 191, 160, 191, 128, 159, 144, 191, 128, 143, 0, 0, 0, 0, 0, 0, 0, 0, 0, 0, 0, 0, 0, 0, 0, 0, 0, 0, 0, 0, 0, 0])).modify 0 (layObj Go.Pinned.utf8FirstZ) }
theorem ints_len {κ : Nat → Nat → Option Value} {γ : Nat → Nat} {sv : Nat → Value} {W : World} {base : Nat} {v : Value} {l : List Int} (hv : Value.okWide Tryd.prog W .any base 31 v) (h : Rep κ γ sv (slOf 1 encI l) v) : l.length ≤ 9223372036854775807 := by
  unfold slOf at h
  generalize hn : l.length = n at h
  cases h with
  | sl0 => omega
  | slE => omega
  | sl _ _ _ b off cap u hc =>
    simp only [Value.okWide, Cell.okWide, Cell.ok, Tryd.underlying31] at hv
    have h1 := hv.2.1
    have h2 : IntKind.i64.max = 9223372036854775807 := by decide
    rw [h2] at h1
    omega
section
variable {H : Type} {enc : TypeId × Value → H} {W : World}
end
end Go.Proofs.YthmgcjmoiilggaaDoor


/- Further readers of arguments: numbers, scales, limits, rules, turns, drivers. -/
namespace Go.Proofs.YthmgcjmoiilggaaDoor
open Go Go.Ab Go.ChangeShapes Go.WideShapes Go.ChangeAt Go.RowKit
set_option linter.all false
set_option maxRecDepth 100000
theorem cells59 : Tryd.prog.cellsOf 59 = 2 := by kernel_rfl
theorem cells61 : Tryd.prog.cellsOf 61 = 2 := by kernel_rfl
section
variable {H : Type} {enc : TypeId × Value → H} {W : World}
theorem fld {fs : Array Field} {xs : List (DataW H × List MemPlace)} {cs : List Value} {n : Nat}
    (hf : ∀ (i : Nat) (f : Field), fs[i]? = some f → DataW.trod enc Tryd.prog W 0 (fun _ => true) true n f.type ((cs.drop f.offset).take (Tryd.prog.cellsOf f.type)) = xs[i]?)
    (hl : xs.length = fs.size) (i : Nat) (f : Field) (hi : fs[i]? = some f) : ∃ y, DataW.trod enc Tryd.prog W 0 (fun _ => true) true n f.type ((cs.drop f.offset).take (Tryd.prog.cellsOf f.type)) = some y := by
  have h1 := (Array.getElem?_eq_some_iff.1 hi).1
  rw [← hl] at h1
  exact ⟨xs[i], by rw [hf i f hi]; exact List.getElem?_eq_getElem h1⟩
theorem rd_scale : Rd enc W 59 encDScale := by
  intro n cs x h
  obtain ⟨xs, m, rfl, rfl, hlen, hxl, hf⟩ := DataW.trod_struct Tryd.underlying59 h
  obtain ⟨y0, h0⟩ := fld hf hxl 0 _ rfl
  obtain ⟨y1, h1⟩ := fld hf hxl 1 _ rfl
  obtain ⟨a0, e0, _⟩ := DataW.trod_int Tryd.underlying3 h0
  obtain ⟨a1, e1, _⟩ := DataW.trod_int Tryd.underlying3 h1
  rw [cells59] at hlen
  rcases cs with _ | ⟨c0, _ | ⟨c1, _ | ⟨c2, cs⟩⟩⟩ <;> simp at hlen
  simp [cells3] at e0 e1
  subst e0 e1
  exact ⟨⟨a0, a1⟩, .cons _ _ _ _ (.int _ _) (.cons _ _ _ _ (.int _ _) .nil)⟩
theorem rd_allow : Rd enc W 61 encDAllow := by
  intro n cs x h
  obtain ⟨xs, m, rfl, rfl, hlen, hxl, hf⟩ := DataW.trod_struct Tryd.underlying61 h
  obtain ⟨y0, h0⟩ := fld hf hxl 0 _ rfl
  obtain ⟨y1, h1⟩ := fld hf hxl 1 _ rfl
  obtain ⟨a0, e0, _⟩ := DataW.trod_int Tryd.underlying3 h0
  obtain ⟨a1, e1, _⟩ := DataW.trod_int Tryd.underlying3 h1
  rw [cells61] at hlen
  rcases cs with _ | ⟨c0, _ | ⟨c1, _ | ⟨c2, cs⟩⟩⟩ <;> simp at hlen
  simp [cells3] at e0 e1
  subst e0 e1
  exact ⟨⟨a0, a1⟩, .cons _ _ _ _ (.int _ _) (.cons _ _ _ _ (.int _ _) .nil)⟩
theorem arg_int {v : Value} {d : DataW H} {ps : List MemPlace} {base : Nat} (hv : Value.okWide Tryd.prog W .any base 3 v) (h : DataW.Trod enc Tryd.prog W 0 (fun _ => true) true 3 v d ps) :
    ∃ n : Int, Rep (allK W) γ0 sv0 (.int .i64 n) v := by
  obtain ⟨n, hn⟩ := h
  obtain ⟨a, e, _⟩ := DataW.trod_int Tryd.underlying3 hn
  cases v with
  | int k m => simp [Value.cells] at e; obtain ⟨rfl, rfl⟩ := e; exact ⟨m, .int _ _⟩
  | agg cs => simp [Value.okWide, Cell.okWide, Cell.ok, Tryd.underlying3] at hv
  | _ => simp [Value.cells] at e
theorem arg_struct {α : Type} {ec : α → List D} {t : TypeId} {fs : Array Field} (hu : Tryd.prog.underlying t = some (.struct fs)) (hr : Rd enc W t ec) {v : Value} {d : DataW H} {ps : List MemPlace} {base : Nat} (hv : Value.okWide Tryd.prog W .any base t v) (h : DataW.Trod enc Tryd.prog W 0 (fun _ => true) true t v d ps) :
    ∃ c : α, Rep (allK W) γ0 sv0 (.agg (ec c)) v := by
  simp only [Value.okWide, hu] at hv
  obtain ⟨cs, rfl, _⟩ := hv
  obtain ⟨n, hn⟩ := h
  obtain ⟨c, hc⟩ := hr _ _ _ hn
  have := Rep.agg _ _ hc
  simp [Value.cells] at this
  exact ⟨c, this⟩
end
end Go.Proofs.YthmgcjmoiilggaaDoor

