/- Walks by computing: what each function of the program that the laws reach gives for what it gets, as plain Lean, and that it is so; without a condition but those that stand in each theorem. -/
import Derived.Test.YtoklcjdahicjmaaRows
import Derived.WalkKit
import Derived.ProofKit
import Derived.OpenShut
import Derived.Deep.Slices
import Derived.Deep.DeepHandedRow
import Derived.Lib.LaidTab
import Derived.Test.YtoklcjdahicjmaaW1
import Derived.Test.YtoklcjdahicjmaaW2
import Derived.Test.YtoklcjdahicjmaaW3
import Derived.Test.YtoklcjdahicjmaaW4
import Derived.Test.YtoklcjdahicjmaaW5
import Derived.Test.YtoklcjdahicjmaaW6
import Derived.Test.YtoklcjdahicjmaaW7
set_option linter.all false
/- The rescue: no choice of posts saves more than what is found. -/
namespace Go.Proofs.Rescue07
open Go Go.Ab Go.Ways
set_option linter.all false
/-- How many calls get a post. -/
def cnt : List Int → Int
  | [] => 0
  | k :: l => (bif k == -1 then 0 else 1) + cnt l
theorem cnt_append : ∀ a b : List Int, cnt (a ++ b) = cnt a + cnt b
  | [], b => by simp [cnt]
  | k :: a, b => by simp only [List.cons_append, cnt, cnt_append a b]; omega
theorem cnt_bnd : ∀ l : List Int, 0 ≤ cnt l ∧ cnt l ≤ l.length
  | [] => by simp [cnt]
  | k :: l => by
    have := cnt_bnd l
    simp only [cnt, List.length_cons]
    cases (k == -1) <;> simp only [cond_true, cond_false] <;> omega
/-- Each call gets a post that it may have, none twice, or none. -/
def VA (may : List (List Int)) (l : List Int) : Prop := ∀ i, i < l.length → l.getD i 0 ∈ may.getD i [] ∧ (l.getD i 0 ≠ -1 → l.getD i 0 ∉ l.take i)
theorem VA.nil (may : List (List Int)) : VA may [] := fun i hi => by simp at hi
theorem getD_app_l {l m : List Int} {i : Nat} (h : i < l.length) : (l ++ m).getD i 0 = l.getD i 0 := by
  rw [List.getD_eq_getElem?_getD, List.getElem?_append_left h, ← List.getD_eq_getElem?_getD]
theorem getD_app_r {l m : List Int} {i : Nat} (h : l.length ≤ i) : (l ++ m).getD i 0 = m.getD (i - l.length) 0 := by
  rw [List.getD_eq_getElem?_getD, List.getElem?_append_right h, ← List.getD_eq_getElem?_getD]
theorem VA.snoc {may : List (List Int)} {l : List Int} {k : Int} (h : VA may l) (h1 : k ∈ may.getD l.length []) (h2 : k ≠ -1 → k ∉ l) : VA may (l ++ [k]) := fun i hi => by
  by_cases hl : i < l.length
  · rw [getD_app_l hl, List.take_append_of_le_length (by omega)]; exact h i hl
  · have : i = l.length := by simp at hi; omega
    subst this
    rw [getD_app_r (Nat.le_refl _), List.take_left' rfl]; simp only [Nat.sub_self, List.getD_cons_zero]
    exact ⟨h1, h2⟩
theorem VA.last {may : List (List Int)} {l m : List Int} {k : Int} (h : VA may (l ++ k :: m)) : k ∈ may.getD l.length [] ∧ (k ≠ -1 → k ∉ l) := by
  have := h l.length (by simp)
  rw [getD_app_r (Nat.le_refl _), List.take_left' rfl] at this
  simpa using this
theorem fold_best {β : Type} {I : Int × β → Prop} {f : Int × β → Int → Int × β} {c : Int} : ∀ (l : List Int) (x : Int × β), I x → (∀ x a, a ∈ l → I x → I (f x a) ∧ x.1 ≤ (f x a).1) → (∃ a ∈ l, ∀ x, I x → c ≤ (f x a).1) → c ≤ (l.foldl f x).1
  | [], x, _, _, ⟨a, ha, _⟩ => by cases ha
  | b :: l, x, hx, hf, ⟨a, ha, hc⟩ => by
    rw [List.foldl_cons]
    have h1 := hf x b (List.mem_cons_self ..) hx
    have hmono : ∀ (l : List Int) (x : Int × β), I x → (∀ x a, a ∈ l → I x → I (f x a) ∧ x.1 ≤ (f x a).1) → x.1 ≤ (l.foldl f x).1 := by
      intro l
      induction l with
      | nil => intro x _ _; exact Int.le_refl _
      | cons b l ih =>
        intro x hx hf
        have h1 := hf x b (List.mem_cons_self ..) hx
        have h2 := ih (f x b) h1.1 fun y a ha => hf y a (List.mem_cons_of_mem _ ha)
        rw [List.foldl_cons]; omega
    rcases List.mem_cons.1 ha with rfl | ha
    · have h2 := hmono l (f x a) h1.1 fun y a' ha' => hf y a' (List.mem_cons_of_mem _ ha')
      have := hc x hx; omega
    · exact fold_best l (f x b) h1.1 (fun y a' ha' => hf y a' (List.mem_cons_of_mem _ ha')) ⟨a, ha, hc⟩
/-- What is held while searching. -/
def Held (may : List (List Int)) (n : Nat) (st : Int × List Int) : Prop := st = (-1, []) ∨ (VA may st.2 ∧ st.2.length = n ∧ st.1 = cnt st.2)
theorem srch_ok (n : Nat) (may : List (List Int)) : ∀ (d : Nat) (now : List Int) (st : Int × List Int), now.length + d = n + 1 → VA may now → Held may n st →
    Held may n (srch n may d now (cnt now) st) ∧ st.1 ≤ (srch n may d now (cnt now) st).1 ∧ ∀ l, VA may (now ++ l) → (now ++ l).length = n → cnt (now ++ l) ≤ (srch n may d now (cnt now) st).1
  | 0, now, st, h1, h2, h3 => ⟨h3, Int.le_refl _, fun l _ hl => by simp at hl; omega⟩
  | d + 1, now, st, h1, h2, h3 => by
    simp only [srch]
    cases hp : decide (cnt now + n - now.length ≤ st.1) with
    | true =>
      have hp := of_decide_eq_true hp
      refine ⟨h3, Int.le_refl _, fun l _ hl => ?_⟩
      have := cnt_bnd l
      rw [cnt_append]
      simp at hl
      simp only [cond_true]; omega
    | false =>
      have hp := of_decide_eq_false hp
      cases hn : decide (now.length = n) with
      | true =>
        have hn := of_decide_eq_true hn
        simp only [cond_true, cond_false]
        refine ⟨.inr ⟨h2, hn, rfl⟩, by omega, fun l _ hl => ?_⟩
        have : l = [] := List.eq_nil_of_length_eq_zero (by simp at hl; omega)
        subst this; simp
      | false =>
        have hn := of_decide_eq_false hn
        simp only [cond_false]
        have hk1 : ∀ k, k == -1 → cnt (now ++ [k]) = cnt now := fun k hk => by rw [cnt_append]; simp only [cnt]; rw [hk]; simp
        have hk2 : ∀ k, (k == -1) = false → cnt (now ++ [k]) = cnt now + 1 := fun k hk => by rw [cnt_append]; simp only [cnt]; rw [hk]; simp
        have step : ∀ (x : Int × List Int) (k : Int), k ∈ may.getD now.length [] → Held may n x → Held may n (bif k == -1 then srch n may d (now ++ [k]) (cnt now) x else bif !(decide (k ∈ now)) then srch n may d (now ++ [k]) (cnt now + 1) x else x) ∧ x.1 ≤ (bif k == -1 then srch n may d (now ++ [k]) (cnt now) x else bif !(decide (k ∈ now)) then srch n may d (now ++ [k]) (cnt now + 1) x else x).1 ∧ ∀ l, VA may (now ++ k :: l) → (now ++ k :: l).length = n → cnt (now ++ k :: l) ≤ (bif k == -1 then srch n may d (now ++ [k]) (cnt now) x else bif !(decide (k ∈ now)) then srch n may d (now ++ [k]) (cnt now + 1) x else x).1 := fun x k hk hx => by
          have e : ∀ l, now ++ k :: l = (now ++ [k]) ++ l := fun l => by simp
          cases hm : (k == -1) with
          | true =>
            simp only [cond_true]
            have ih := srch_ok n may d (now ++ [k]) x (by simp; omega) (h2.snoc hk fun h => by simp at hm; exact absurd hm h) hx
            rw [hk1 k hm] at ih
            exact ⟨ih.1, ih.2.1, fun l a b => by rw [e] at a b ⊢; exact ih.2.2 l a b⟩
          | false =>
            simp only [cond_false]
            cases hin : decide (k ∈ now) with
            | true =>
              refine ⟨hx, Int.le_refl _, fun l a b => ?_⟩
              exact absurd (of_decide_eq_true hin) (a.last.2 (by simpa using hm))
            | false =>
              simp only [Bool.not_false, cond_true]
              have ih := srch_ok n may d (now ++ [k]) x (by simp; omega) (h2.snoc hk fun _ => of_decide_eq_false hin) hx
              rw [hk2 k hm] at ih
              exact ⟨ih.1, ih.2.1, fun l a b => by rw [e] at a b ⊢; exact ih.2.2 l a b⟩
        have hH : Held may n ((may.getD now.length []).foldl (fun st k => bif k == -1 then srch n may d (now ++ [k]) (cnt now) st else bif !(decide (k ∈ now)) then srch n may d (now ++ [k]) (cnt now + 1) st else st) st) :=
          foldl_inv (I := Held may n) h3 fun x a ha hx => (step x a ha hx).1
        refine ⟨hH, ?_, fun l a b => ?_⟩
        · have hmono : ∀ (l : List Int) (x : Int × List Int), Held may n x → (∀ a ∈ l, a ∈ may.getD now.length []) → x.1 ≤ (l.foldl (fun st k => bif k == -1 then srch n may d (now ++ [k]) (cnt now) st else bif !(decide (k ∈ now)) then srch n may d (now ++ [k]) (cnt now + 1) st else st) x).1 := by
            intro l
            induction l with
            | nil => intro x _ _; exact Int.le_refl _
            | cons b l ih =>
              intro x hx hl
              have s1 := step x b (hl b (List.mem_cons_self ..)) hx
              have s2 := ih _ s1.1 fun a ha => hl a (List.mem_cons_of_mem _ ha)
              rw [List.foldl_cons]
              exact Int.le_trans s1.2.1 s2
          exact hmono _ _ h3 fun a ha => ha
        · cases l with
          | nil => simp at b; exact absurd b hn
          | cons k l =>
            refine fold_best (I := Held may n) _ _ h3 (fun x a ha hx => ⟨(step x a ha hx).1, (step x a ha hx).2.1⟩) ⟨k, a.last.1, fun x hx => (step x k a.last.1 hx).2.2 l a b⟩
/-- What is found: a choice, and none saves more. -/
theorem found_ok (r : Rescue) (m : Int) (calls : List Int) : VA (calls.map fun c => mayS r m c.toNat) (foundS r m calls).2 ∧ (foundS r m calls).2.length = calls.length ∧ (foundS r m calls).1 = cnt (foundS r m calls).2 ∧ ∀ l, VA (calls.map fun c => mayS r m c.toNat) l → l.length = calls.length → cnt l ≤ (foundS r m calls).1 := by
  have h := srch_ok calls.length (calls.map fun c => mayS r m c.toNat) (calls.length + 1) [] (-1, []) (by simp) (VA.nil _) (.inl rfl)
  have hc : cnt [] = 0 := rfl
  rw [hc] at h
  simp only [List.nil_append] at h
  have hall : VA (calls.map fun c => mayS r m c.toNat) (List.replicate calls.length (-1)) := fun i hi => by
    have hi' : i < calls.length := by simpa using hi
    have hg : (List.replicate calls.length (-1 : Int)).getD i 0 = -1 := by simp [List.getD_eq_getElem?_getD, hi']
    rw [hg]
    refine ⟨?_, fun h => absurd rfl h⟩
    rw [getD_map (d := 0) _ hi']
    simp [mayS]
  have h0 := h.2.2 _ hall (by simp)
  have h1 := (cnt_bnd (List.replicate calls.length (-1))).1
  rcases h.1 with h2 | ⟨h2, h3, h4⟩
  · rw [h2] at h0; simp only at h0; omega
  · exact ⟨h2, h3, h4, h.2.2⟩
end Go.Proofs.Rescue07


/- RescueCalls as a plain law. -/
namespace Go.Proofs.Rescue07
open Go Go.Ab Go.Ways
set_option linter.all false
theorem getD_set {l : List Int} {i j : Nat} {x : Int} (hi : i < l.length) : (l.set i x).getD j 0 = if j = i then x else l.getD j 0 := by
  rw [List.getD_eq_getElem?_getD, List.getElem?_set]
  by_cases h : i = j
  · subst h; simp [hi]
  · have : ¬ j = i := fun e => h e.symm
    simp [h, this, List.getD_eq_getElem?_getD]
theorem VA.set {may : List (List Int)} {l : List Int} {i : Nat} {x : Int} (h : VA may l) (hi : i < l.length) (hx : x ∈ may.getD i []) (hn : x ∉ l) : VA may (l.set i x) := fun j hj => by
  have hj' : j < l.length := by simpa using hj
  rw [getD_set hi]
  have hm : ∀ y, y ∈ (l.set i x).take j → y = x ∨ y ∈ l.take j := fun y hy => by
    rw [List.take_set] at hy
    rcases List.mem_or_eq_of_mem_set hy with h | h
    · exact .inr h
    · exact .inl h
  by_cases hji : j = i
  · subst hji
    rw [if_pos rfl]
    refine ⟨hx, fun _ hy => ?_⟩
    have hy2 : x ∈ l.take j := by
      rw [List.take_set_of_le (by omega)] at hy
      exact hy
    exact hn (List.mem_of_mem_take hy2)
  · rw [if_neg hji]
    obtain ⟨h1, h2⟩ := h j hj'
    refine ⟨h1, fun h3 hy => ?_⟩
    rcases hm _ hy with e | hy
    · exact hn (by rw [← e]; exact getD_mem hj')
    · exact h2 h3 hy
end Go.Proofs.Rescue07


/- RescueSends as a plain law. -/
namespace Go.Proofs.Rescue07
open Go Go.Ab Go.Ways
set_option linter.all false
theorem Own_sp (l : List Int) (hl : l.length ≤ 1000000) : Own l = some l := by
  rw [Own_eq]; unfold Own'
  rw [fitA_ok (by simp; omega) (by decide)]
  simp [chk]
theorem sendS_len (r : Rescue) (m : Int) (calls : List Int) (hc : calls.length ≤ 1000) : (sendS r m calls).1.length ≤ 1000 := by
  unfold sendS
  cases (eR r != 0) <;> cases inR m 0 1439 <;> cases (eCalls r calls != 0) <;> simp only [cond_true, cond_false, Bool.not_true, Bool.not_false] <;> first | simp | (rw [(found_ok r m calls).2.1]; exact hc)
abbrev VS12 := (Unit × Unit × Unit × Int × Unit) × Unit
theorem sends_loop {r : Rescue} {own : Seed × Rescue} (hr : Few r) (ho : Few own.2) {calls som : List Int} (hc : calls.length ≤ 1000) (hs : som.length ≤ 1000) (m : Int) (b : Seed × Int) :
    Ok (fun b => b = true) (itN VS12 (fun v_0 kn => RescueSends_L12 r own calls som m b v_0.1.2.2.2.1 (fun y0 => kn (((), (), (), y0, ()), ()))) (((), (), (), 0, ()), ())) := by
  refine Ok.rounds (fun (v : VS12) => 0 ≤ v.1.2.2.2.1 ∧ v.1.2.2.2.1 ≤ 3) (fun (v : VS12) => (3 - v.1.2.2.2.1).toNat) (FUEL_big (by show ((3 : Int) - 0).toNat ≤ _; omega)) ⟨Int.le_refl _, by simp⟩ ?_
  rintro ⟨⟨u1, u2, u3, i, u4⟩, u5⟩ kn ⟨h0, h1⟩ hk
  simp only at h0 h1 hk ⊢
  unfold RescueSends_L12
  have l1 : ([r, own.2, own.2] : List Rescue).length = 3 := rfl
  have l2 : ([m, b.2, m] : List Int).length = 3 := rfl
  have l3 : ([calls, som, calls] : List (List Int)).length = 3 := rfl
  rw [l1, l2, l3]
  refine Ok.ite (fun hc => ?_) (fun hc => awake_ok)
  have hi : i < 3 := by simpa using hc
  have c1 : (decide (0 ≤ i) && decide (i < ((3 : Nat) : Int))) = true := ib h0 (by omega)
  have c2 : decide (i.toNat < 3) = true := decide_eq_true (by omega)
  obtain ⟨x, hx⟩ : ∃ x, ([r, own.2, own.2] : List Rescue).getD i.toNat dfltRescue = x := ⟨_, rfl⟩
  obtain ⟨y, hy⟩ : ∃ y, ([m, b.2, m] : List Int).getD i.toNat 0 = y := ⟨_, rfl⟩
  obtain ⟨z, hz⟩ : ∃ z, ([calls, som, calls] : List (List Int)).getD i.toNat [] = z := ⟨_, rfl⟩
  have hf : Few x := by
    have := getD_mem (d := dfltRescue) (show i.toNat < ([r, own.2, own.2] : List Rescue).length by rw [l1]; omega)
    rw [hx] at this
    simp only [List.mem_cons, List.not_mem_nil, or_false] at this
    rcases this with rfl | rfl | rfl <;> assumption
  have hzl : z.length ≤ 1000 := by
    have := getD_mem (d := ([] : List Int)) (show i.toNat < ([calls, som, calls] : List (List Int)).length by rw [l3]; omega)
    rw [hz] at this
    simp only [List.mem_cons, List.not_mem_nil, or_false] at this
    rcases this with rfl | rfl | rfl <;> assumption
  have e1 : w64 (i + 1) = i + 1 := w64_id (by omega) (by omega)
  simp only [c1, c2, hx, hy, hz, chk, cond_true, Own_sp z (by omega), pSend_sp hf, rSend_sp hf, Option.bind_some, bne_self_eq_false, cond_false, Same_self _ (Nat.le_trans (sendS_len x y z hzl) (by decide)), Same_self z (by omega), Bool.not_true, e1]
  exact hk ((u1, u2, u3, i + 1, u4), u5) ⟨by simp only; omega, by simp only; omega⟩ (by simp only; omega)
abbrev VSs := (Unit × Unit × Unit × (List Int) × Int × Unit) × ((Int × Unit) × Unit)
theorem RescueSends_true (r : Rescue) (m : Int) (calls nums : List Int) (hr : r.Posts.length ≤ 9223372036854775807) (_hc : calls.length ≤ 9223372036854775807) (hn : nums.length ≤ 9223372036854775807) : RescueSends r m calls nums = some true := by
  apply ok_eq
  rw [RescueSends_eq]; unfold RescueSends'
  refine Ok.bind (big_ok r hr) fun b hb => Ok.ite (fun _ => awake_ok) fun h => ?_
  have hf := hb h
  refine Ok.ite (fun _ => awake_ok) fun hc => ?_
  have hc := of_decide_eq_false hc
  refine Ok.bind (NewSeed_ok hn) fun s _ => Ok.bind (RescueOf_ok s (by decide) (by decide) ⟨by decide, by decide⟩) fun own ho => Ok.bind (Below_ok _ (by decide)) fun q hq => ?_
  have ho' := ho.few
  have hsp := ho.1.spots
  refine Ok.rounds (fun (v : VSs) => 0 ≤ v.1.2.2.2.2.1 ∧ (v.1.2.2.2.1.length : Int) + v.1.2.2.2.2.1 ≤ 4) (fun (v : VSs) => v.1.2.2.2.2.1.toNat) (FUEL_big (by show q.2.toNat ≤ _; omega)) ⟨by simp only; omega, by simp; omega⟩ ?_
  rintro ⟨⟨u1, u2, u3, som, i, u4⟩, ⟨⟨w, u5⟩, u6⟩⟩ kn ⟨i0, i1⟩ hk
  simp only at i0 i1 hk ⊢
  unfold RescueSends_L7
  refine Ok.ite (fun hcc => ?_) (fun hcc => ?_)
  · have hi := of_decide_eq_true hcc
    have e1 : w64 (i - 1) = i - 1 := w64_id (by omega) (by omega)
    refine Ok.bind (Below_ok _ (by omega)) fun c hc => Ok.chk (fitA_ok (by simp; omega) (by decide)) ?_
    rw [e1]
    exact hk ((u1, u2, u3, _, i - 1, u4), ((_, u5), u6)) ⟨by simp only; omega, by simp; omega⟩ (by simp only; omega)
  · exact Ok.bind (Below_ok _ (by decide)) fun b _ => sends_loop hf ho' (by omega) (by omega) m b
end Go.Proofs.Rescue07


/- How the arguments of a law are read as plain data of Lean, what the table of the four cases holds, and what a law that writes nothing older than itself leaves: its arguments read as they did. -/
namespace Go.Proofs.Ytoklcjdahicjmaa
open Go Go.Ab Go.ChangeShapes Go.WideShapes Go.ChangeAt Go.RowKit
set_option maxRecDepth 100000

/-- All that a world's memory holds. -/
def allK (w : World) : Nat → Nat → Option Value := fun b o => w.cell? ⟨b, o, none⟩
theorem allK_fits (w : World) : Fits (allK w) w := fun _ _ _ h => h

theorem cells3 : Try.prog.cellsOf 3 = 1 := by kernel_rfl
section
variable {H : Type} {enc : TypeId × Value → H} {W : World}

/-- Whatever reads as the type, stands for a datum of Lean. -/
def Rd {α : Type} (enc : TypeId × Value → H) (W : World) (t : TypeId) (ec : α → List D) : Prop :=
  ∀ n cs x, DataW.trod enc Try.prog W 0 (fun _ => true) true n t cs = some x → ∃ a : α, RepL (allK W) γ0 sv0 (ec a) cs

theorem rd_int : Rd enc W 3 encI := by
  intro n cs x h
  obtain ⟨a, rfl, _⟩ := DataW.trod_int Try.underlying3 h
  exact ⟨a, .cons _ _ _ _ (.int _ _) .nil⟩

theorem rd_slice {α : Type} [Inhabited α] {t e z : Nat} {ec : α → List D} (ht : Try.prog.underlying t = some (.slice e)) (hz : Try.prog.cellsOf e = z) (hz0 : 0 < z) (hl : ∀ a, (ec a).length = z)
    (hc : ∀ a, allCell (ec a) = true) (hr : Rd enc W e ec) : Rd enc W t (fun l : List α => [slOf z ec l]) := by
  intro n cs x h
  rcases Deep.open_slice ht h with ⟨rfl, rfl⟩ | ⟨a, len, cap, m, n', D, Pl, rfl, _, hlc, _, hm, rfl, hx⟩
  · exact ⟨[], .cons _ _ _ _ (.sl0 _ _) .nil⟩
  · simp only [if_true] at hm
    subst hm
    rw [hz] at hx
    rcases Nat.eq_zero_or_pos len with rfl | hpos
    · exact ⟨[], .cons _ _ _ _ (.slE _ _ _ _) .nil⟩
    · have hx' : ∀ i, i < len → ∃ p : α × List Value, W.cells? 0 (a.add (i * z)) z = some p.2 ∧ RepL (allK W) γ0 sv0 (ec p.1) p.2 := fun i hi => by
        obtain ⟨cs', h1, h2⟩ := hx i (by omega)
        obtain ⟨b, hb⟩ := hr _ _ _ h2
        exact ⟨(b, cs'), h1, hb⟩
      obtain ⟨F, hF⟩ := Deep.choose_lt hx'
      have hsp : a.spot = none := by
        obtain ⟨_, h1, h2⟩ := World.cells?_some (hF 0 hpos).1
        have h3 := h2 0 hz0
        rw [List.getElem?_eq_getElem (by omega)] at h3
        simpa [Addr.add] using World.cell?_spot h3
      obtain ⟨b, off, sp⟩ := a
      simp only at hsp
      subst hsp
      refine ⟨(List.range len).map (fun i => (F i).1), .cons _ _ _ _ ?_ .nil⟩
      have hlen : ((List.range len).map (fun i => (F i).1)).length = len := by simp
      have hg : ∀ i, i < len → ((List.range len).map (fun i => (F i).1)).getD i default = (F i).1 := fun i hi => by simp [List.getD, hi]
      unfold slOf
      rw [hlen]
      refine .sl z len _ b off m (fun i => (F i).2) hlc (fun i _ => hl _) (fun i _ => hc _) (fun i hi => by rw [hg i hi]; exact (hF i hi).2) (fun i j v hi hj => ?_)
      obtain ⟨_, h1, h2⟩ := World.cells?_some (hF i hi).1
      have hjl := (List.getElem?_eq_some_iff.1 hj).1
      have h3 := h2 j (by omega)
      rw [add_plain, add_plain, hj] at h3
      exact h3

theorem arg_ints {v : Value} {d : DataW H} {ps : List MemPlace} {base : Nat} (hv : Value.okWide Try.prog W .any base 28 v) (h : DataW.Trod enc Try.prog W 0 (fun _ => true) true 28 v d ps) :
    ∃ l : List Int, Rep (allK W) γ0 sv0 (slOf 1 encI l) v := by
  obtain ⟨n, hn⟩ := h
  obtain ⟨l, hl⟩ := rd_slice (ec := encI) Try.underlying28 cells3 (by decide) (fun _ => rfl) (fun _ => rfl) rd_int _ _ _ hn
  obtain ⟨a0, len, cap, rfl⟩ := okWide_slice Try.underlying28 hv
  cases hl with
  | cons _ _ _ _ k _ => exact ⟨l, k⟩
end
theorem glob_of {W : World} : GlobOk seat (allK W) := fun g l h => by cases h
theorem laidOut : laidOutB Try.prog = true := by kernel_rfl
theorem own : ownKnob Try.prog.godebug = none := by kernel_rfl

theorem trodAll_stays {H : Type} {enc : TypeId × Value → H} {W W' : World} {sp' : Nat → Bool} (hb : Below W.heap.size W W') : ∀ {ts : List TypeId} {vs : List Value} {ds : List (DataW H)} {ps : List MemPlace},
    (∀ t ∈ ts, Try.prog.readableRec t = true ∧ t < Try.prog.types.size) → DataW.TrodAll enc Try.prog W 0 (fun _ => true) true ts vs ds ps → (∀ p ∈ ps, p.block < W.heap.size) → (∀ p ∈ ps, sp' p.block = true) →
    DataW.TrodAll enc Try.prog W' 0 sp' true ts vs ds ps
  | [], [], [], _, _, h, _, _ => h
  | _ :: _, _ :: _, _ :: _, _, hT, ⟨p, q, h1, h2, e⟩, hlt, hs => ⟨p, q,
      WideElems.Trod_stays laidOut (hT _ (List.mem_cons_self ..)).1 (hT _ (List.mem_cons_self ..)).2 h1 (fun x hx => hb.same (hlt x (by rw [e]; exact List.mem_append_left _ hx))) (fun x hx => hs x (by rw [e]; exact List.mem_append_left _ hx)),
      trodAll_stays hb (fun t ht => hT t (List.mem_cons_of_mem _ ht)) h2 (fun x hx => hlt x (by rw [e]; exact List.mem_append_right _ hx)) (fun x hx => hs x (by rw [e]; exact List.mem_append_right _ hx)), e⟩

/-- A law that says yes and writes nothing older than itself. -/
theorem post_yes {H : Type} {enc : TypeId × Value → H} {f : Func} {s : ChangeSpec} {W W' : World} {args : Array Value} {ds gs : List (DataW H)} {before : List MemPlace}
    (hW : DataW.Whole enc Try.prog f.params.toList s.vars false W args.toList ds gs before) (hv : s.vars = []) (hb : Below W.heap.size W W')
    (hT : ∀ t ∈ f.params.toList, Try.prog.readableRec t = true ∧ t < Try.prog.types.size) (hrt : f.resultTypes = #[4])
    (hr : (s.fn H (ds ++ gs)).results = [.lit (.bool true)]) (ha : (s.fn H (ds ++ gs)).args = ds) (hvs : (s.fn H (ds ++ gs)).vars = []) :
    s.post enc Try.prog f false true false false W args (.bool true) W' := by
  have hlt := hW.lt
  have hW2 := hW
  obtain ⟨p, q, hA, hV, rfl, _, _⟩ := hW
  rw [hv] at hV
  obtain ⟨rfl, rfl⟩ := trodVars_none hV
  refine ⟨ds, [], p ++ [], [], p, [], hW2, ?_, ?_, ?_, hb.frame _, fun h => by cases h⟩
  · rw [hr, hrt]
    exact trodAll_mk1 (shut_bool Try.underlying4 _)
  · rw [ha]
    exact trodAll_stays hb hT hA (fun x hx => hlt x (by simpa using hx)) (fun x hx => by simpa using hlt x (by simpa using hx))
  · rw [hvs, hv]; rfl

/-- A world for the witness: the settled one. -/
noncomputable def laidWorld (os : Os) : World := World.holding Try.prog os ⟨#[], #[], []⟩
theorem ints_len {κ : Nat → Nat → Option Value} {γ : Nat → Nat} {sv : Nat → Value} {W : World} {base : Nat} {v : Value} {l : List Int} (hv : Value.okWide Try.prog W .any base 28 v) (h : Rep κ γ sv (slOf 1 encI l) v) : l.length ≤ 9223372036854775807 := by
  unfold slOf at h
  generalize hn : l.length = n at h
  cases h with
  | sl0 => omega
  | slE => omega
  | sl _ _ _ b off cap u hc =>
    simp only [Value.okWide, Cell.okWide, Cell.ok, Try.underlying28] at hv
    have h1 := hv.2.1
    have h2 : IntKind.i64.max = 9223372036854775807 := by decide
    rw [h2] at h1
    omega
section
variable {H : Type} {enc : TypeId × Value → H} {W : World}
end
end Go.Proofs.Ytoklcjdahicjmaa



/- Further readers of arguments. -/
namespace Go.Proofs.Ytoklcjdahicjmaa
open Go Go.Ab Go.ChangeShapes Go.WideShapes Go.ChangeAt Go.RowKit
set_option linter.all false
set_option maxRecDepth 100000
theorem cells22 : Try.prog.cellsOf 22 = 1 := by kernel_rfl
theorem cells23 : Try.prog.cellsOf 23 = 1 := by kernel_rfl
theorem cells24 : Try.prog.cellsOf 24 = 1 := by kernel_rfl
theorem cells25 : Try.prog.cellsOf 25 = 1 := by kernel_rfl
theorem cells27 : Try.prog.cellsOf 27 = 5 := by kernel_rfl
theorem cells51 : Try.prog.cellsOf 51 = 2 := by kernel_rfl
theorem cells55 : Try.prog.cellsOf 55 = 5 := by kernel_rfl
theorem cells57 : Try.prog.cellsOf 57 = 7 := by kernel_rfl
theorem cells94 : Try.prog.cellsOf 94 = 3 := by kernel_rfl
section
variable {H : Type} {enc : TypeId × Value → H} {W : World}
theorem fld {fs : Array Field} {xs : List (DataW H × List MemPlace)} {cs : List Value} {n : Nat}
    (hf : ∀ (i : Nat) (f : Field), fs[i]? = some f → DataW.trod enc Try.prog W 0 (fun _ => true) true n f.type ((cs.drop f.offset).take (Try.prog.cellsOf f.type)) = xs[i]?)
    (hl : xs.length = fs.size) (i : Nat) (f : Field) (hi : fs[i]? = some f) : ∃ y, DataW.trod enc Try.prog W 0 (fun _ => true) true n f.type ((cs.drop f.offset).take (Try.prog.cellsOf f.type)) = some y := by
  have h1 := (Array.getElem?_eq_some_iff.1 hi).1
  rw [← hl] at h1
  exact ⟨xs[i], by rw [hf i f hi]; exact List.getElem?_eq_getElem h1⟩
theorem rd_span : Rd enc W 51 encDSpan := by
  intro n cs x h
  obtain ⟨xs, m, rfl, rfl, hlen, hxl, hf⟩ := DataW.trod_struct Try.underlying51 h
  obtain ⟨y0, h0⟩ := fld hf hxl 0 _ rfl
  obtain ⟨y1, h1⟩ := fld hf hxl 1 _ rfl
  obtain ⟨a0, e0, _⟩ := DataW.trod_int Try.underlying3 h0
  obtain ⟨a1, e1, _⟩ := DataW.trod_int Try.underlying3 h1
  rw [cells51] at hlen
  rcases cs with _ | ⟨c0, _ | ⟨c1, _ | ⟨c2, cs⟩⟩⟩ <;> simp at hlen
  simp [cells3] at e0 e1
  subst e0 e1
  exact ⟨⟨a0, a1⟩, (.cons _ _ _ _ (.int _ _) (.cons _ _ _ _ (.int _ _) .nil))⟩
theorem rd_path : Rd enc W 55 encDPath := by
  intro n cs x h
  obtain ⟨xs, m, rfl, rfl, hlen, hxl, hf⟩ := DataW.trod_struct Try.underlying55 h
  obtain ⟨y0, h0⟩ := fld hf hxl 0 _ rfl
  obtain ⟨y1, h1⟩ := fld hf hxl 1 _ rfl
  obtain ⟨y2, h2⟩ := fld hf hxl 2 _ rfl
  obtain ⟨y3, h3⟩ := fld hf hxl 3 _ rfl
  obtain ⟨a0, e0, _⟩ := DataW.trod_int Try.underlying3 h0
  obtain ⟨a1, e1, _⟩ := DataW.trod_int Try.underlying3 h1
  obtain ⟨a2, e2⟩ := rd_span _ _ _ h2
  obtain ⟨a3, e3, _⟩ := DataW.trod_int Try.underlying3 h3
  rw [cells55] at hlen
  rcases cs with _ | ⟨c0, _ | ⟨c1, _ | ⟨c2, _ | ⟨c3, _ | ⟨c4, _ | ⟨c5, cs⟩⟩⟩⟩⟩⟩ <;> simp at hlen
  simp [cells3, cells51] at e0 e1 e2 e3
  subst e0 e1 e3
  cases e2 with
  | cons _ _ _ _ k0 r0 =>
    cases r0 with
    | cons _ _ _ _ k1 r1 =>
      exact ⟨⟨a0, a1, a2, a3⟩, (.cons _ _ _ _ (.int _ _) (.cons _ _ _ _ (.int _ _) (.cons _ _ _ _ k0 (.cons _ _ _ _ k1 (.cons _ _ _ _ (.int _ _) .nil)))))⟩
theorem rd_post : Rd enc W 57 encDPost := by
  intro n cs x h
  obtain ⟨xs, m, rfl, rfl, hlen, hxl, hf⟩ := DataW.trod_struct Try.underlying57 h
  obtain ⟨y0, h0⟩ := fld hf hxl 0 _ rfl
  obtain ⟨y1, h1⟩ := fld hf hxl 1 _ rfl
  obtain ⟨y2, h2⟩ := fld hf hxl 2 _ rfl
  obtain ⟨y3, h3⟩ := fld hf hxl 3 _ rfl
  obtain ⟨y4, h4⟩ := fld hf hxl 4 _ rfl
  obtain ⟨y5, h5⟩ := fld hf hxl 5 _ rfl
  obtain ⟨a0, e0, _⟩ := DataW.trod_int Try.underlying3 h0
  obtain ⟨a1, e1⟩ := rd_span _ _ _ h1
  obtain ⟨a2, e2, _⟩ := DataW.trod_int Try.underlying3 h2
  obtain ⟨a3, e3, _⟩ := DataW.trod_int Try.underlying3 h3
  obtain ⟨a4, e4, _⟩ := DataW.trod_int Try.underlying3 h4
  obtain ⟨a5, e5⟩ := rd_slice (ec := encDSpan) Try.underlying24 cells51 (by decide) (fun _ => rfl) (fun _ => rfl) rd_span _ _ _ h5
  rw [cells57] at hlen
  rcases cs with _ | ⟨c0, _ | ⟨c1, _ | ⟨c2, _ | ⟨c3, _ | ⟨c4, _ | ⟨c5, _ | ⟨c6, _ | ⟨c7, cs⟩⟩⟩⟩⟩⟩⟩⟩ <;> simp at hlen
  simp [cells3, cells24, cells51] at e0 e1 e2 e3 e4 e5
  subst e0 e2 e3 e4
  cases e1 with
  | cons _ _ _ _ k0 r0 =>
    cases r0 with
    | cons _ _ _ _ k1 r1 =>
      cases e5 with
      | cons _ _ _ _ k2 r2 =>
        exact ⟨⟨a0, a1, a2, a3, a4, a5⟩, (.cons _ _ _ _ (.int _ _) (.cons _ _ _ _ k0 (.cons _ _ _ _ k1 (.cons _ _ _ _ (.int _ _) (.cons _ _ _ _ (.int _ _) (.cons _ _ _ _ (.int _ _) (.cons _ _ _ _ k2 .nil)))))))⟩
theorem rd_chill : Rd enc W 94 encDChill := by
  intro n cs x h
  obtain ⟨xs, m, rfl, rfl, hlen, hxl, hf⟩ := DataW.trod_struct Try.underlying94 h
  obtain ⟨y0, h0⟩ := fld hf hxl 0 _ rfl
  obtain ⟨y1, h1⟩ := fld hf hxl 1 _ rfl
  obtain ⟨a0, e0, _⟩ := DataW.trod_int Try.underlying3 h0
  obtain ⟨a1, e1⟩ := rd_span _ _ _ h1
  rw [cells94] at hlen
  rcases cs with _ | ⟨c0, _ | ⟨c1, _ | ⟨c2, _ | ⟨c3, cs⟩⟩⟩⟩ <;> simp at hlen
  simp [cells3, cells51] at e0 e1
  subst e0
  cases e1 with
  | cons _ _ _ _ k0 r0 =>
    cases r0 with
    | cons _ _ _ _ k1 r1 =>
      exact ⟨⟨a0, a1⟩, (.cons _ _ _ _ (.int _ _) (.cons _ _ _ _ k0 (.cons _ _ _ _ k1 .nil)))⟩
theorem rd_rescue : Rd enc W 27 encDRescue := by
  intro n cs x h
  obtain ⟨xs, m, rfl, rfl, hlen, hxl, hf⟩ := DataW.trod_struct Try.underlying27 h
  obtain ⟨y0, h0⟩ := fld hf hxl 0 _ rfl
  obtain ⟨y1, h1⟩ := fld hf hxl 1 _ rfl
  obtain ⟨y2, h2⟩ := fld hf hxl 2 _ rfl
  obtain ⟨y3, h3⟩ := fld hf hxl 3 _ rfl
  obtain ⟨y4, h4⟩ := fld hf hxl 4 _ rfl
  obtain ⟨a0, e0, _⟩ := DataW.trod_int Try.underlying3 h0
  obtain ⟨a1, e1⟩ := rd_slice (ec := encDPath) Try.underlying22 cells55 (by decide) (fun _ => rfl) (fun _ => rfl) rd_path _ _ _ h1
  obtain ⟨a2, e2⟩ := rd_slice (ec := encDPost) Try.underlying23 cells57 (by decide) (fun _ => rfl) (fun _ => rfl) rd_post _ _ _ h2
  obtain ⟨a3, e3⟩ := rd_slice (ec := encDSpan) Try.underlying24 cells51 (by decide) (fun _ => rfl) (fun _ => rfl) rd_span _ _ _ h3
  obtain ⟨a4, e4⟩ := rd_slice (ec := encDChill) Try.underlying25 cells94 (by decide) (fun _ => rfl) (fun _ => rfl) rd_chill _ _ _ h4
  rw [cells27] at hlen
  rcases cs with _ | ⟨c0, _ | ⟨c1, _ | ⟨c2, _ | ⟨c3, _ | ⟨c4, _ | ⟨c5, cs⟩⟩⟩⟩⟩⟩ <;> simp at hlen
  simp [cells3, cells22, cells23, cells24, cells25] at e0 e1 e2 e3 e4
  subst e0
  cases e1 with
  | cons _ _ _ _ k0 r0 =>
    cases e2 with
    | cons _ _ _ _ k1 r1 =>
      cases e3 with
      | cons _ _ _ _ k2 r2 =>
        cases e4 with
        | cons _ _ _ _ k3 r3 =>
          exact ⟨⟨a0, a1, a2, a3, a4⟩, (.cons _ _ _ _ (.int _ _) (.cons _ _ _ _ k0 (.cons _ _ _ _ k1 (.cons _ _ _ _ k2 (.cons _ _ _ _ k3 .nil)))))⟩
theorem arg_int {v : Value} {d : DataW H} {ps : List MemPlace} {base : Nat} (hv : Value.okWide Try.prog W .any base 3 v) (h : DataW.Trod enc Try.prog W 0 (fun _ => true) true 3 v d ps) :
    ∃ n : Int, Rep (allK W) γ0 sv0 (.int .i64 n) v := by
  obtain ⟨n, hn⟩ := h
  obtain ⟨a, e, _⟩ := DataW.trod_int Try.underlying3 hn
  cases v with
  | int k m => simp [Value.cells] at e; obtain ⟨rfl, rfl⟩ := e; exact ⟨m, .int _ _⟩
  | agg cs => simp [Value.okWide, Cell.okWide, Cell.ok, Try.underlying3] at hv
  | _ => simp [Value.cells] at e
theorem arg_struct {α : Type} {ec : α → List D} {t : TypeId} {fs : Array Field} (hu : Try.prog.underlying t = some (.struct fs)) (hr : Rd enc W t ec) {v : Value} {d : DataW H} {ps : List MemPlace} {base : Nat} (hv : Value.okWide Try.prog W .any base t v) (h : DataW.Trod enc Try.prog W 0 (fun _ => true) true t v d ps) :
    ∃ c : α, Rep (allK W) γ0 sv0 (.agg (ec c)) v := by
  simp only [Value.okWide, hu] at hv
  obtain ⟨cs, rfl, _⟩ := hv
  obtain ⟨n, hn⟩ := h
  obtain ⟨c, hc⟩ := hr _ _ _ hn
  have := Rep.agg _ _ hc
  simp [Value.cells] at this
  exact ⟨c, this⟩
end
theorem sl_len {κ : Nat → Nat → Option Value} {γ : Nat → Nat} {sv : Nat → Value} {W : World} {base : Nat} {v : Value} {e z n : Nat} {f : Nat → List D} {t : TypeId} (ht : Try.prog.underlying t = some (.slice e)) (hv : Cell.okWide Try.prog W .any base t v) (h : Rep κ γ sv (.sl z n f) v) : n ≤ 9223372036854775807 := by
  cases h with
  | sl0 => omega
  | slE => omega
  | sl _ _ _ b off cap u hc =>
    simp only [Cell.okWide, Cell.ok, ht] at hv
    have h1 := hv.2.1
    have h2 : IntKind.i64.max = 9223372036854775807 := by decide
    rw [h2] at h1
    omega
theorem agg_len {κ : Nat → Nat → Option Value} {γ : Nat → Nat} {sv : Nat → Value} {W : World} {base : Nat} {v : Value} {l : List D} {e z n : Nat} {f : Nat → List D} {t u : TypeId} {fs : Array Field} {ts : List TypeId} (i : Nat) (hu : Try.prog.underlying t = some (.struct fs)) (hts : Try.prog.cellTypes Try.prog.depth t = some ts) (hi : l[i]? = some (.sl z n f)) (hti : ts[i]? = some u) (hu2 : Try.prog.underlying u = some (.slice e))
    (hv : Value.okWide Try.prog W .any base t v) (h : Rep κ γ sv (.agg l) v) : n ≤ 9223372036854775807 := by
  simp only [Value.okWide, hu] at hv
  obtain ⟨cs, rfl, _, ts', h1, _, h3⟩ := hv
  rw [hts] at h1
  cases h1
  cases h with
  | agg _ vs hl =>
    obtain ⟨w, hw, hr⟩ := hl.get hi
    obtain ⟨u', h4, h5⟩ := h3 i w (by simpa using hw)
    have hlt := (List.getElem?_eq_some_iff.1 hti).1
    rw [Nat.mod_eq_of_lt hlt, hti] at h4
    cases h4
    exact sl_len hu2 h5 hr
theorem posts_len {κ : Nat → Nat → Option Value} {γ : Nat → Nat} {sv : Nat → Value} {W : World} {base : Nat} {v : Value} {r : Rescue} (hv : Value.okWide Try.prog W .any base 27 v) (h : Rep κ γ sv (.agg (encDRescue r)) v) : r.Posts.length ≤ 9223372036854775807 :=
  agg_len 2 Try.underlying27 (show Try.prog.cellTypes Try.prog.depth 27 = some [3, 22, 23, 24, 25] by kernel_rfl) rfl rfl Try.underlying23 hv h
end Go.Proofs.Ytoklcjdahicjmaa


/- The rescue: gaps, by both. -/
namespace Go.Proofs.Rescue07
open Go Go.Ab Go.Ways
set_option linter.all false
def stepG (c : Bool) (out : List Span) (m : Int) : List Span := bif c then out else bif decide (0 < out.length) && ((out.getD (out.length - 1) dfltSpan).Hi == m - 1) then out.set (out.length - 1) ⟨(out.getD (out.length - 1) dfltSpan).Lo, m⟩ else out ++ [⟨m, m⟩]
def gapsL (C : Nat → Bool) : Nat → List Span
  | 0 => []
  | n + 1 => stepG (C n) (gapsL C n) n
theorem stepG_len (c : Bool) (out : List Span) (m : Int) : (stepG c out m).length ≤ out.length + 1 := by
  unfold stepG
  cases c with
  | true => simp
  | false =>
    simp only [cond_false]
    cases (decide (0 < out.length) && ((out.getD (out.length - 1) dfltSpan).Hi == m - 1)) <;> simp
theorem gapsL_len (C : Nat → Bool) : ∀ n, (gapsL C n).length ≤ n
  | 0 => by simp [gapsL]
  | n + 1 => by
    have h1 := gapsL_len C n
    have h2 := stepG_len (C n) (gapsL C n) n
    simp only [gapsL]; omega
theorem Clip_sp (s : List Span) : Clip s = some s := by
  rw [Clip_eq]; unfold Clip'
  have e : subL s 0 (s.length : Int) = s := by unfold subL; simp
  rw [e]
  simp [chk]
def gapsS (r : Rescue) (k : Int) : List Span := gapsL (fun m => coverS r (m : Int) k.toNat == 1) 1440
def gapsE (r : Rescue) (k : Int) : List Span × Int := bif eR r != 0 then ([], eR r) else bif !(inR k 0 (r.Spots - 1)) then ([], 7) else (gapsS r k, 0)
/-- How a gap is put on, as the code does it. -/
theorem step_code {α : Type} {P : α → Prop} {F : List Span → Option α} {out : List Span} {m : Int} (hl : out.length ≤ 1440) (hm : 0 ≤ m ∧ m < 1440) (h : Ok P (F (stepG false out m))) (h0 : 0 < out.length) :
    Ok P (chk (decide (0 ≤ (w64 ((out.length : Int) - 1))) && decide ((w64 ((out.length : Int) - 1)) < (out.length : Int))) <|
        chk (decide ((w64 ((out.length : Int) - 1)).toNat < out.length)) <|
        bif ((out.getD (w64 ((out.length : Int) - 1)).toNat dfltSpan).Hi == (w64 (m - 1))) then
          chk (decide (0 ≤ (w64 ((out.length : Int) - 1))) && decide ((w64 ((out.length : Int) - 1)) < (out.length : Int))) <|
          chk (decide ((w64 ((out.length : Int) - 1)).toNat < out.length)) <|
          F (out.set (w64 ((out.length : Int) - 1)).toNat (⟨(out.getD (w64 ((out.length : Int) - 1)).toNat dfltSpan).Lo, m⟩ : Span))
        else
          chk (fitA (out.length + ([(⟨m, m⟩ : Span)] : List Span).length) 16) <|
          F (out ++ ([(⟨m, m⟩ : Span)] : List Span))) := by
  have e1 : w64 ((out.length : Int) - 1) = (out.length : Int) - 1 := w64_id (by omega) (by omega)
  have e2 : w64 (m - 1) = m - 1 := w64_id (by omega) (by omega)
  have e3 : ((out.length : Int) - 1).toNat = out.length - 1 := by omega
  have c1 : (decide (0 ≤ (out.length : Int) - 1) && decide ((out.length : Int) - 1 < (out.length : Int))) = true := ib (by omega) (by omega)
  have c2 : decide (out.length - 1 < out.length) = true := decide_eq_true (by omega)
  rw [e1, e2, e3]
  simp only [c1, c2, chk, cond_true, fitA_ok (show out.length + ([(⟨m, m⟩ : Span)] : List Span).length ≤ 1000000 by simp; omega) (show 16 ≤ 1000000 by decide)]
  unfold stepG at h
  rw [decide_eq_true h0] at h
  simp only [cond_false, Bool.true_and] at h
  cases hb : ((out.getD (out.length - 1) dfltSpan).Hi == m - 1) <;> rw [hb] at h <;> exact h
theorem step_code0 {α : Type} {P : α → Prop} {F : List Span → Option α} {out : List Span} {m : Int} (h : Ok P (F (stepG false out m))) (h0 : ¬ 0 < out.length) :
    Ok P (chk (fitA (out.length + ([(⟨m, m⟩ : Span)] : List Span).length) 16) <| F (out ++ ([(⟨m, m⟩ : Span)] : List Span))) := by
  refine Ok.chk (fitA_ok (by simp; omega) (by decide)) ?_
  unfold stepG at h
  rw [decide_eq_false h0] at h
  exact h
theorem pGaps_sp {r : Rescue} (hf : Few r) (k : Int) : pGaps r k = some (gapsE r k) := by
  rw [pGaps_eq]; unfold pGaps' gapsE
  rw [asked_sp hf]
  simp only [Option.bind_some]
  cases he : (eR r != 0) with
  | true => simp only [cond_true, he]
  | false =>
  rw [show inR 0 0 1439 = true from rfl]
  simp only [cond_false, Bool.not_true, show ((0:Int) != 0) = false from rfl, within_sp, Option.bind_some]
  have hv := eR_zero.1 (show eR r = 0 by simpa using he)
  have hsp := hv.spots
  have e0 : w64 (r.Spots - 1) = r.Spots - 1 := w64_id (by omega) (by omega)
  rw [e0]
  cases hin : inR k 0 (r.Spots - 1) with
  | false => rfl
  | true =>
  have hk := inR_iff.1 hin
  simp only [cond_false, Bool.not_true]
  refine ok_eq (Ok.rounds (fun (v : VS2) => 0 ≤ v.1.2.2.1 ∧ v.1.2.2.1 ≤ 1440 ∧ v.1.2.1 = gapsL (fun m => coverS r (m : Int) k.toNat == 1) v.1.2.2.1.toNat) (fun (v : VS2) => (1440 - v.1.2.2.1).toNat) (FUEL_big (by show ((1440 : Int) - 0).toNat ≤ _; omega)) ⟨Int.le_refl _, by simp, rfl⟩ ?_)
  rintro ⟨⟨u1, out, m, u2⟩, u3⟩ kn ⟨i0, i1, i2⟩ hkn
  simp only at i0 i1 i2 hkn ⊢
  have hlen := gapsL_len (fun m => coverS r (m : Int) k.toNat == 1) m.toNat
  rw [← i2] at hlen
  unfold pGaps_L8
  refine Ok.ite (fun hc => ?_) (fun hc => ?_)
  · have hm := of_decide_eq_true hc
    have e1 : w64 (m + 1) = m + 1 := w64_id (by omega) (by omega)
    have next : Ok (fun x => x = (gapsS r k, 0)) (kn ((u1, stepG (coverS r m k.toNat == 1) out m, m + 1, u2), u3)) := by
      refine hkn ((u1, _, m + 1, u2), u3) ⟨by simp only; omega, by simp only; omega, ?_⟩ (by simp only; omega)
      simp only [toNat_succ i0]
      rw [i2]
      simp only [gapsL, Int.toNat_of_nonneg i0]
    refine Ok.beq (coverW_sp hv m ⟨hk.1, by omega⟩) ?_
    rw [e1]
    cases hcv : (coverS r m k.toNat == 1) with
    | true => rw [hcv] at next; exact next
    | false =>
      rw [hcv] at next
      simp only [cond_false]
      refine Ok.ite (fun hn => ?_) (fun hn => ?_)
      · have hn := of_decide_eq_true hn
        rw [w64_id (n := (out.length : Int) - 1) (by omega) (by omega)] at hn
        exact step_code (F := fun o => kn ((u1, o, m + 1, u2), u3)) (by omega) ⟨i0, hm⟩ next (by omega)
      · have hn := of_decide_eq_false hn
        rw [w64_id (n := (out.length : Int) - 1) (by omega) (by omega)] at hn
        exact step_code0 (F := fun o => kn ((u1, o, m + 1, u2), u3)) next (by omega)
  · have hm := of_decide_eq_false hc
    rw [show m.toNat = 1440 by omega] at i2
    exact Ok.beq (Clip_sp out) (Ok.some (by rw [i2]; rfl))
theorem chill_mem {l : List Chill} (hl : ChillV l) (w : Int) : SpIn (chillS l w) 0 5000 := by
  unfold chillS
  refine foldl_inv (I := fun x => SpIn x 0 5000) (hl.min 0 (by have := hl.len; omega)) fun x c hc hx => ?_
  obtain ⟨i, hi, rfl⟩ := List.getElem_of_mem hc
  have := hl.min i hi
  rw [List.getD_eq_getElem?_getD, List.getElem?_eq_getElem hi] at this
  cases decide (l[i].Warm ≤ w) with
  | true => exact this
  | false => exact hx
theorem reach_Hi (r : Rescue) (m : Int) (k : Nat) (L : Int) : ∀ (l : List Post) (x : Span), decide ((l.foldl (fun x p => bif mannedB p m then minS x (goS r p k) else x) x).Hi ≤ L) = (decide (x.Hi ≤ L) || l.any fun p => mannedB p m && decide ((goS r p k).Hi ≤ L))
  | [], x => (Bool.or_false _).symm
  | p :: l, x => by
    rw [List.foldl_cons, reach_Hi r m k L l, List.any_cons]
    cases mannedB p m with
    | false => simp
    | true =>
      simp only [cond_true, Bool.true_and]
      have : decide ((minS x (goS r p k)).Hi ≤ L) = (decide (x.Hi ≤ L) || decide ((goS r p k).Hi ≤ L)) := by
        unfold minS
        by_cases h1 : x.Hi ≤ L <;> by_cases h2 : (goS r p k).Hi ≤ L <;> simp only [h1, h2, decide_true, decide_false, Bool.or_true, Bool.or_false, decide_eq_true_eq, decide_eq_false_iff_not] <;> omega
      rw [this, Bool.or_assoc]
def sureS (r : Rescue) (m : Int) (k : Nat) : Bool := r.Posts.any fun p => mannedB p m && decide ((goS r p k).Hi ≤ (livesS r (r.Water.getD k dfltSpan)).Lo)
theorem lives_small {r : Rescue} (hv : RV r) (w : Span) : 0 ≤ (livesS r w).Lo ∧ (livesS r w).Lo ≤ 5000 ∧ 0 ≤ (livesS r w).Hi ∧ (livesS r w).Hi ≤ 5000 := by
  obtain ⟨a1, a2, a3⟩ := chill_mem hv.chills w.Lo
  obtain ⟨b1, b2, b3⟩ := chill_mem hv.chills w.Hi
  unfold livesS
  simp only
  omega
theorem cover_sure {r : Rescue} (hv : RV r) (m : Int) (k : Nat) : (coverS r m k == 1) = sureS r m k := by
  have hs := (lives_small hv (r.Water.getD k dfltSpan))
  have h := reach_Hi r m k (livesS r (r.Water.getD k dfltSpan)).Lo r.Posts topS
  have ht : decide (topS.Hi ≤ (livesS r (r.Water.getD k dfltSpan)).Lo) = false := decide_eq_false (by unfold topS; simp only; omega)
  rw [ht, Bool.false_or] at h
  unfold sureS
  rw [← h]
  unfold coverS verdS reachS
  cases decide ((r.Posts.foldl (fun x p => bif mannedB p m then minS x (goS r p k) else x) topS).Hi ≤ (livesS r (r.Water.getD k dfltSpan)).Lo) with
  | true => rfl
  | false =>
    simp only [cond_false]
    cases decide ((r.Posts.foldl (fun x p => bif mannedB p m then minS x (goS r p k) else x) topS).Lo > (livesS r (r.Water.getD k dfltSpan)).Hi) <;> rfl
abbrev VG9 := (Unit × Unit × List Span × Int × Unit) × Unit
abbrev VG13 := (Unit × Unit × Unit × Bool × Int × Unit) × Unit
theorem any_take {α : Type} (f : α → Bool) {l : List α} {i : Nat} {d : α} (h : i < l.length) : (l.take (i + 1)).any f = ((l.take i).any f || f (l.getD i d)) := by
  rw [List.take_succ, List.getElem?_eq_getElem h, List.any_append, List.getD_eq_getElem?_getD, List.getElem?_eq_getElem h]; simp
theorem rGaps_sp {r : Rescue} (hf : Few r) (k : Int) : rGaps r k = some (gapsE r k) := by
  rw [rGaps_eq]; unfold rGaps' gapsE
  rw [rCheck_sp r hf]
  simp only [Option.bind_some, outside_sp]
  cases he : (eR r != 0) with
  | true => rfl
  | false =>
  have hv := eR_zero.1 (show eR r = 0 by simpa using he)
  have hsp := hv.spots
  have hnp := hv.nPosts
  have hwl := hv.water.1
  have e0 : w64 (r.Spots - 1) = r.Spots - 1 := w64_id (by omega) (by omega)
  rw [e0]
  cases hin : inR k 0 (r.Spots - 1) with
  | false => rfl
  | true =>
  have hk := inR_iff.1 hin
  have hks : k.toNat < r.Spots.toNat := by omega
  simp only [cond_false, Bool.not_true, timesR_sp hv, rLives0_sp hv, Option.bind_some]
  refine ok_eq (Ok.chk (by rw [List.length_map]; exact ib hk.1 (by omega)) ?_)
  refine Ok.rounds (fun (v : VG9) => 0 ≤ v.1.2.2.2.1 ∧ v.1.2.2.2.1 ≤ 1440 ∧ v.1.2.2.1 = gapsL (fun m => coverS r (m : Int) k.toNat == 1) v.1.2.2.2.1.toNat) (fun (v : VG9) => (1440 - v.1.2.2.2.1).toNat) (FUEL_big (by show ((1440 : Int) - 0).toNat ≤ _; omega)) ⟨Int.le_refl _, by simp, rfl⟩ ?_
  rintro ⟨⟨u1, u2, out, m, u3⟩, u4⟩ kn ⟨i0, i1, i2⟩ hkn
  simp only at i0 i1 i2 hkn ⊢
  have hlen := gapsL_len (fun m => coverS r (m : Int) k.toNat == 1) m.toNat
  rw [← i2] at hlen
  unfold rGaps_L9
  refine Ok.ite (fun hc => ?_) (fun hc => ?_)
  · have hm := of_decide_eq_true hc
    have e1 : w64 (m + 1) = m + 1 := w64_id (by omega) (by omega)
    have next : Ok (fun x => x = (gapsS r k, 0)) (kn ((u1, u2, stepG (coverS r m k.toNat == 1) out m, m + 1, u3), u4)) := by
      refine hkn ((u1, u2, _, m + 1, u3), u4) ⟨by simp only; omega, by simp only; omega, ?_⟩ (by simp only; omega)
      simp only [toNat_succ i0]
      rw [i2]
      simp only [gapsL, Int.toNat_of_nonneg i0]
    rw [cover_sure hv] at next
    obtain ⟨P, hP⟩ : ∃ P : Post → Bool, (fun p => mannedB p m && decide ((goS r p k.toNat).Hi ≤ (livesS r (r.Water.getD k.toNat dfltSpan)).Lo)) = P := ⟨_, rfl⟩
    have hPe : ∀ p, P p = (mannedB p m && decide ((goS r p k.toNat).Hi ≤ (livesS r (r.Water.getD k.toNat dfltSpan)).Lo)) := fun p => by rw [← hP]
    have hS : sureS r m k.toNat = r.Posts.any P := by unfold sureS; rw [hP]
    rw [hS] at next
    refine Ok.rounds (fun (v : VG13) => 0 ≤ v.1.2.2.2.2.1 ∧ v.1.2.2.2.2.1 ≤ r.Posts.length ∧ v.1.2.2.2.1 = (r.Posts.take v.1.2.2.2.2.1.toNat).any P) (fun (v : VG13) => (r.Posts.length - v.1.2.2.2.2.1).toNat) (FUEL_big (by show ((r.Posts.length : Int) - 0).toNat ≤ _; omega)) ⟨Int.le_refl _, by simp, rfl⟩ ?_
    rintro ⟨⟨w1, w2, w3, sure, i, w4⟩, w5⟩ kn2 ⟨j0, j1, j2⟩ hk2
    simp only at j0 j1 j2 hk2 ⊢
    unfold rGaps_L13
    refine Ok.ite (fun hcc => ?_) (fun hcc => ?_)
    · have hj := of_decide_eq_true hcc
      have hj' : i.toNat < r.Posts.length := by omega
      have e2 : w64 (i + 1) = i + 1 := w64_id (by omega) (by omega)
      have hat := any_take P (d := dfltPost) hj'
      rw [← j2, hPe] at hat
      have nx : ∀ b, b = (r.Posts.take (i.toNat + 1)).any P → Ok (fun x => x = (gapsS r k, 0)) (kn2 ((w1, w2, w3, b, i + 1, w4), w5)) := fun b hb =>
        hk2 ((w1, w2, w3, b, i + 1, w4), w5) ⟨by simp only; omega, by simp only; omega, by simp only [toNat_succ j0]; exact hb⟩ (by simp only; omega)
      rw [e2]
      cases sure with
      | true => exact nx true (by rw [hat]; rfl)
      | false =>
        simp only [cond_false]
        refine Ok.chk (ib j0 hj) (Ok.beq (Manned_sp _ _) ?_)
        rw [times_getD hj', goes_getD hks, getD_map (d := dfltSpan) (livesS r) (show k.toNat < r.Water.length by omega)]
        refine Ok.ite (fun hm => ?_) (fun hm => ?_)
        · refine Ok.chk (by rw [List.length_map]; exact ib j0 hj) (Ok.chk (by rw [goes_len]; exact ib hk.1 (by omega)) (nx _ ?_))
          rw [hat, hm]; rfl
        · exact nx _ (by rw [hat, hm]; rfl)
    · have hj := of_decide_eq_false hcc
      rw [List.take_of_length_le (by omega)] at j2
      rw [← j2] at next
      rw [e1]
      cases sure with
      | true => exact next
      | false =>
        simp only [cond_false]
        refine Ok.ite (fun hn => ?_) (fun hn => ?_)
        · exact step_code (F := fun o => kn ((u1, u2, o, m + 1, u3), u4)) (by omega) ⟨i0, hm⟩ next (by have := of_decide_eq_true hn; omega)
        · exact step_code0 (F := fun o => kn ((u1, u2, o, m + 1, u3), u4)) next (by have := of_decide_eq_false hn; omega)
  · have hm := of_decide_eq_false hc
    rw [show m.toNat = 1440 by omega] at i2
    exact Ok.some (by rw [i2]; rfl)
end Go.Proofs.Rescue07


/- RescueGaps and RescueDay as plain laws. -/
namespace Go.Proofs.Rescue07
open Go Go.Ab Go.Ways
set_option linter.all false
theorem gapsE_len (r : Rescue) (k : Int) : (gapsE r k).1.length ≤ 1440 := by
  unfold gapsE
  have := gapsL_len (fun m => coverS r (m : Int) k.toNat == 1) 1440
  cases (eR r != 0) <;> cases inR k 0 (r.Spots - 1) <;> simp only [cond_true, cond_false, Bool.not_true, Bool.not_false, List.length_nil] <;> first | omega | exact this
theorem gaps_loop {r : Rescue} {own : Seed × Rescue} (hr : Few r) (ho : Few own.2) (m : Int) (m2 : Seed × Int) :
    Ok (fun b => b = true) (itN V2u (fun v_0 kn => RescueGaps_L7 r own m m2 v_0.1.2.2.1 (fun y0 => kn (((), (), y0, ()), ()))) (((), (), 0, ()), ())) := by
  refine Ok.rounds (fun (v : V2u) => 0 ≤ v.1.2.2.1 ∧ v.1.2.2.1 ≤ 3) (fun (v : V2u) => (3 - v.1.2.2.1).toNat) (FUEL_big (by show ((3 : Int) - 0).toNat ≤ _; omega)) ⟨Int.le_refl _, by simp⟩ ?_
  rintro ⟨⟨u1, u2, i, u3⟩, u4⟩ kn ⟨h0, h1⟩ hk
  simp only at h0 h1 hk ⊢
  unfold RescueGaps_L7
  have l1 : ([r, own.2, own.2] : List Rescue).length = 3 := rfl
  have l2 : ([m, m2.2, m] : List Int).length = 3 := rfl
  rw [l1, l2]
  refine Ok.ite (fun hc => ?_) (fun hc => awake_ok)
  have hi : i < 3 := by simpa using hc
  have c1 : (decide (0 ≤ i) && decide (i < ((3 : Nat) : Int))) = true := ib h0 (by omega)
  have c2 : decide (i.toNat < 3) = true := decide_eq_true (by omega)
  obtain ⟨x, hx⟩ : ∃ x, ([r, own.2, own.2] : List Rescue).getD i.toNat dfltRescue = x := ⟨_, rfl⟩
  obtain ⟨y, hy⟩ : ∃ y, ([m, m2.2, m] : List Int).getD i.toNat 0 = y := ⟨_, rfl⟩
  have hf : Few x := by
    have := getD_mem (d := dfltRescue) (show i.toNat < ([r, own.2, own.2] : List Rescue).length by rw [l1]; omega)
    rw [hx] at this
    simp only [List.mem_cons, List.not_mem_nil, or_false] at this
    rcases this with rfl | rfl | rfl <;> assumption
  have e1 : w64 (i + 1) = i + 1 := w64_id (by omega) (by omega)
  simp only [c1, c2, hx, hy, chk, cond_true, pGaps_sp hf, rGaps_sp hf, Option.bind_some, bne_self_eq_false, cond_false, SameSpans_self _ (Nat.le_trans (gapsE_len _ _) (by decide)), Bool.not_true, e1]
  exact hk ((u1, u2, i + 1, u3), u4) ⟨by simp only; omega, by simp only; omega⟩ (by simp only; omega)
theorem RescueGaps_true (r : Rescue) (m : Int) (nums : List Int) (hr : r.Posts.length ≤ 9223372036854775807) (hn : nums.length ≤ 9223372036854775807) : RescueGaps r m nums = some true := by
  apply ok_eq
  rw [RescueGaps_eq]; unfold RescueGaps'
  refine Ok.bind (big_ok r hr) fun b hb => Ok.ite (fun _ => awake_ok) fun h => ?_
  have hf := hb h
  refine Ok.bind (NewSeed_ok hn) fun s _ => Ok.bind (RescueOf_ok s (by decide) (by decide) ⟨by decide, by decide⟩) fun own ho => Ok.bind (Below_ok _ (by have := ho.1.spots; omega)) fun b _ => ?_
  exact gaps_loop hf ho.few m b
/- RescueDay. -/
def cov (x : Span) (m : Int) : Bool := decide (x.Lo ≤ m) && decide (m ≤ x.Hi)
theorem cov_iff {x : Span} {m : Int} : cov x m = true ↔ x.Lo ≤ m ∧ m ≤ x.Hi := by simp [cov]
theorem Has_sp (x : Span) (m : Int) : Has x m = some (cov x m) := by
  rw [Has_eq]; unfold Has' cov
  cases decide (x.Lo ≤ m) <;> rfl
structure GapsIn (C : Nat → Bool) (n : Nat) (l : List Span) : Prop where
  inn : ∀ i, i < l.length → 0 ≤ (l.getD i dfltSpan).Lo ∧ (l.getD i dfltSpan).Lo ≤ (l.getD i dfltSpan).Hi ∧ (l.getD i dfltSpan).Hi < n
  far : ∀ i, 0 < i → i < l.length → (l.getD (i - 1) dfltSpan).Hi + 1 < (l.getD i dfltSpan).Lo
  all : ∀ m : Nat, m < n → l.any (fun x => cov x m) = !(C m)
theorem getD_set' {l : List Span} {i j : Nat} {x : Span} (hi : i < l.length) : (l.set i x).getD j dfltSpan = if j = i then x else l.getD j dfltSpan := by
  rw [List.getD_eq_getElem?_getD, List.getElem?_set]
  by_cases h : i = j
  · subst h; simp [hi]
  · have : ¬ j = i := fun e => h e.symm
    simp [h, this, List.getD_eq_getElem?_getD]
theorem any_iff {l : List Span} {m : Int} : l.any (fun x => cov x m) = true ↔ ∃ i, i < l.length ∧ (l.getD i dfltSpan).Lo ≤ m ∧ m ≤ (l.getD i dfltSpan).Hi := by
  rw [List.any_eq_true]
  constructor
  · rintro ⟨x, hx, hc⟩
    obtain ⟨i, hi, rfl⟩ := List.getElem_of_mem hx
    refine ⟨i, hi, ?_⟩
    rw [List.getD_eq_getElem?_getD, List.getElem?_eq_getElem hi]
    exact cov_iff.1 hc
  · rintro ⟨i, hi, hc⟩
    exact ⟨_, getD_mem hi, cov_iff.2 hc⟩
theorem gaps_in (C : Nat → Bool) : ∀ n, GapsIn C n (gapsL C n)
  | 0 => ⟨fun i hi => by simp [gapsL] at hi, fun i _ hi => by simp [gapsL] at hi, fun m hm => by omega⟩
  | n + 1 => by
    obtain ⟨h1, h2, h3⟩ := gaps_in C n
    obtain ⟨l, hl⟩ : ∃ l, gapsL C n = l := ⟨_, rfl⟩
    rw [hl] at h1 h2 h3
    simp only [gapsL, hl]
    unfold stepG
    cases hC : C n with
    | true =>
      simp only [cond_true]
      refine ⟨fun i hi => by have := h1 i hi; push_cast; omega, h2, fun m hm => ?_⟩
      by_cases hmn : m = n
      · subst hmn
        rw [hC, Bool.not_true, ← Bool.not_eq_true, any_iff]
        rintro ⟨i, hi, _, hc⟩
        have := h1 i hi; omega
      · exact h3 m (by omega)
    | false =>
      simp only [cond_false]
      cases hb : decide (0 < l.length) && ((l.getD (l.length - 1) dfltSpan).Hi == (n : Int) - 1) with
      | true =>
        simp only [Bool.and_eq_true, decide_eq_true_eq, beq_iff_eq] at hb
        obtain ⟨h0, hH⟩ := hb
        have hlt : l.length - 1 < l.length := by omega
        simp only [cond_true]
        refine ⟨fun i hi => ?_, fun i hp hi => ?_, fun m hm => ?_⟩
        · rw [List.length_set] at hi
          rw [getD_set' hlt]
          have a := h1 i hi
          have b := h1 _ hlt
          split
          · simp only; push_cast; omega
          · push_cast; omega
        · rw [List.length_set] at hi
          rw [getD_set' hlt, getD_set' hlt, if_neg (by omega)]
          have a := h2 i hp hi
          split
          · rename_i e; subst e; exact a
          · exact a
        · have key : (l.set (l.length - 1) ⟨(l.getD (l.length - 1) dfltSpan).Lo, (n : Int)⟩).any (fun x => cov x m) = true ↔ (l.any (fun x => cov x m) = true ∨ m = n) := by
            rw [any_iff, any_iff]
            constructor
            · rintro ⟨i, hi, hc⟩
              rw [List.length_set] at hi
              rw [getD_set' hlt] at hc
              split at hc
              · rename_i e
                simp only at hc
                by_cases hmn : m = n
                · exact .inr hmn
                · exact .inl ⟨l.length - 1, hlt, hc.1, by omega⟩
              · exact .inl ⟨i, hi, hc⟩
            · rintro (⟨i, hi, hc⟩ | hmn)
              · refine ⟨i, by rw [List.length_set]; exact hi, ?_⟩
                rw [getD_set' hlt]
                split
                · rename_i e; subst e; simp only; have := h1 _ hi; omega
                · exact hc
              · refine ⟨l.length - 1, by rw [List.length_set]; exact hlt, ?_⟩
                rw [getD_set' hlt, if_pos rfl]
                have := h1 _ hlt
                simp only; omega
          by_cases hmn : m = n
          · subst hmn; rw [hC]; exact key.2 (.inr rfl)
          · rw [← h3 m (by omega), Bool.eq_iff_iff, key]
            exact ⟨fun h => h.elim id fun h => absurd h hmn, .inl⟩
      | false =>
        simp only [cond_false]
        have hfar : 0 < l.length → (l.getD (l.length - 1) dfltSpan).Hi + 1 < n := fun h0 => by
          have := h1 (l.length - 1) (by omega)
          rw [decide_eq_true h0, Bool.true_and, beq_eq_false_iff_ne] at hb
          omega
        have lt : ∀ i, i < (l ++ [(⟨(n : Int), (n : Int)⟩ : Span)]).length → i < l.length ∨ i = l.length := fun i hi => by simp at hi; omega
        have g1 : ∀ i, i < l.length → (l ++ [(⟨(n : Int), (n : Int)⟩ : Span)]).getD i dfltSpan = l.getD i dfltSpan := fun i hi => by rw [getD_snoc, if_pos hi]
        have g2 : (l ++ [(⟨(n : Int), (n : Int)⟩ : Span)]).getD l.length dfltSpan = ⟨n, n⟩ := by rw [getD_snoc, if_neg (by omega), if_pos rfl]
        refine ⟨fun i hi => ?_, fun i hp hi => ?_, fun m hm => ?_⟩
        · rcases lt i hi with h | rfl
          · rw [g1 i h]; have := h1 i h; push_cast; omega
          · rw [g2]; simp only; push_cast; omega
        · rcases lt i hi with h | rfl
          · rw [g1 i h, g1 _ (by omega)]; exact h2 i hp h
          · rw [g2, g1 _ (by omega)]; exact hfar hp
        · rw [List.any_append]
          by_cases hmn : m = n
          · subst hmn; rw [hC]; simp [cov]
          · rw [h3 m (by omega)]
            have : cov ⟨n, n⟩ (m : Int) = false := by
              rw [← Bool.not_eq_true, cov_iff]; simp only; omega
            simp [this]
theorem Wrap_rng (x : Int) : Ok (fun w => 0 ≤ w ∧ w < 1440) (Wrap x 1440) := by
  rw [Wrap_eq]; unfold Wrap'
  refine Ok.no rfl (Ok.chk rfl (Ok.chk rfl (Ok.some ?_)))
  have h1 : -1440 < x.tmod 1440 := Int.lt_tmod_of_pos _ (by decide)
  have h2 : x.tmod 1440 < 1440 := Int.tmod_lt_of_pos _ (by decide)
  rw [w64_id (by omega) (by omega), Int.tmod_eq_emod_of_nonneg (by omega)]
  omega
theorem cover_ok {r : Rescue} (hv : RV r) {m : Int} (hm : 0 ≤ m ∧ m ≤ 1439) : pCover r m = some ((List.range r.Spots.toNat).map (coverS r m), 0) := by
  rw [pCover_sp hv.few]
  unfold askS
  rw [eR_zero.2 hv, inR_iff.2 hm]; rfl
theorem gaps_ok {r : Rescue} (hv : RV r) {k : Int} (hk : 0 ≤ k ∧ k < r.Spots) : pGaps r k = some (gapsS r k, 0) := by
  rw [pGaps_sp hv.few]
  unfold gapsE
  rw [eR_zero.2 hv, inR_iff.2 ⟨hk.1, by omega⟩]; rfl
abbrev VD2 := (Unit × List Int × Int × Unit) × Unit
abbrev VD5 := (Unit × Unit × Bool × Int × Unit) × Unit
def Mins (l : List Int) : Prop := ∀ m ∈ l, 0 ≤ m ∧ m ≤ 1439
theorem Mins.app {a b : List Int} (ha : Mins a) (hb : Mins b) : Mins (a ++ b) := fun m hm => by
  rcases List.mem_append.1 hm with h | h
  · exact ha m h
  · exact hb m h
theorem RescueDay_true (nums : List Int) (hn : nums.length ≤ 9223372036854775807) : RescueDay nums = some true := by
  apply ok_eq
  rw [RescueDay_eq]; unfold RescueDay'
  refine Ok.bind (NewSeed_ok hn) fun s0 _ => Ok.bind (RescueOf_ok s0 (by decide) (by decide) ⟨by decide, by decide⟩) fun s hM => ?_
  have hv := hM.1
  have hsp := hv.spots
  have hnp := hv.nPosts
  refine Ok.bind (Below_ok _ (by omega)) fun q hq => ?_
  have hqs : 0 ≤ q.2 ∧ q.2 < s.2.Spots := by omega
  refine Ok.beq (gaps_ok hv hqs) (Ok.no rfl (Ok.bind (Below_ok _ (by decide)) fun b hb => ?_))
  obtain ⟨g1, g2, g3⟩ := gaps_in (fun m => coverS s.2 (m : Int) q.2.toNat == 1) 1440
  have hgl := gapsL_len (fun m => coverS s.2 (m : Int) q.2.toNat == 1) 1440
  obtain ⟨l, hl⟩ : ∃ l, gapsS s.2 q.2 = l := ⟨_, rfl⟩
  have hl' : gapsL (fun m => coverS s.2 (m : Int) q.2.toNat == 1) 1440 = l := hl
  rw [hl'] at g1 g2 g3 hgl
  rw [hl]
  refine Ok.rounds (fun (v : VD2) => 0 ≤ v.1.2.2.1 ∧ v.1.2.2.1 ≤ l.length ∧ Mins v.1.2.1 ∧ (v.1.2.1.length : Int) ≤ 3 + 2 * v.1.2.2.1) (fun (v : VD2) => (l.length - v.1.2.2.1).toNat) (FUEL_big (by show ((l.length : Int) - 0).toNat ≤ _; omega)) ⟨Int.le_refl _, by simp, fun m hm => by simp only [List.mem_cons, List.not_mem_nil, or_false] at hm; omega, by simp⟩ ?_
  rintro ⟨⟨u1, ms, i, u2⟩, u3⟩ kn ⟨i0, i1, i2, i3⟩ hk
  simp only at i0 i1 i2 i3 hk ⊢
  unfold RescueDay_L9
  simp only
  refine Ok.ite (fun hc => ?_) (fun hc => ?_)
  · have hi := of_decide_eq_true hc
    have hi' : i.toNat < l.length := by omega
    have e1 : w64 (i + 1) = i + 1 := w64_id (by omega) (by omega)
    obtain ⟨a1, a2, a3⟩ := g1 i.toNat hi'
    have next : Ok (fun b => b = true) (kn ((u1, ms ++ [(l.getD i.toNat dfltSpan).Lo, (l.getD i.toNat dfltSpan).Hi], i + 1, u2), u3)) := by
      refine hk ((u1, _, i + 1, u2), u3) ⟨by simp only; omega, by simp only; omega, i2.app fun m hm => ?_, by simp; omega⟩ (by simp only; omega)
      simp only [List.mem_cons, List.not_mem_nil, or_false] at hm
      omega
    have cb := ib i0 hi
    refine Ok.chk cb (Ok.chk cb (Ok.no (decide_eq_false (by omega)) (Ok.chk cb (Ok.no (decide_eq_false (by omega)) (Ok.chk cb (Ok.no (decide_eq_false (by omega)) ?_))))))
    refine Ok.ite (fun hp => ?_) (fun hp => ?_)
    · have hp := of_decide_eq_true hp
      have e2 : w64 (i - 1) = i - 1 := w64_id (by omega) (by omega)
      have e3 : (i - 1).toNat = i.toNat - 1 := by omega
      have b1 := g2 i.toNat (by omega) hi'
      obtain ⟨d1, d2, d3⟩ := g1 (i.toNat - 1) (by omega)
      have e4 : w64 ((l.getD (i.toNat - 1) dfltSpan).Hi + 1) = (l.getD (i.toNat - 1) dfltSpan).Hi + 1 := w64_id (by omega) (by omega)
      rw [e2, e3, e4]
      refine Ok.chk cb (Ok.chk (ib (by omega) (by omega)) (Ok.no (decide_eq_false (by omega)) (Ok.chk cb (Ok.chk cb (Ok.chk (fitA_ok (by simp; omega) (by decide)) ?_)))))
      rw [e1]; exact next
    · refine Ok.chk cb (Ok.chk cb (Ok.chk (fitA_ok (by simp; omega) (by decide)) ?_))
      rw [e1]; exact next
  · refine Ok.rounds (fun (v : VD2) => 0 ≤ v.1.2.2.1 ∧ v.1.2.2.1 ≤ s.2.Posts.length ∧ Mins v.1.2.1 ∧ (v.1.2.1.length : Int) ≤ 10000 + 3 * v.1.2.2.1) (fun (v : VD2) => (s.2.Posts.length - v.1.2.2.1).toNat) (FUEL_big (by show ((s.2.Posts.length : Int) - 0).toNat ≤ _; omega)) ⟨Int.le_refl _, by simp, i2, by simp only; omega⟩ ?_
    rintro ⟨⟨v1, ms2, j, v2⟩, v3⟩ kn2 ⟨j0, j1, j2, j3⟩ hk2
    simp only at j0 j1 j2 j3 hk2 ⊢
    unfold RescueDay_L15
    refine Ok.ite (fun hc => ?_) (fun hc => ?_)
    · have hj := of_decide_eq_true hc
      have hj' : j.toNat < s.2.Posts.length := by omega
      have e1 : w64 (j + 1) = j + 1 := w64_id (by omega) (by omega)
      have hp := hv.posts _ (getD_mem (d := dfltPost) hj')
      have h1 := hp.from_; have h2 := hp.to_
      have cb := ib j0 hj
      refine Ok.chk cb (Ok.chk cb (Ok.chk cb (Ok.bind (Wrap_rng _) fun w hw => Ok.chk (fitA_ok (by simp; omega) (by decide)) ?_)))
      rw [e1]
      refine hk2 ((v1, _, j + 1, v2), v3) ⟨by simp only; omega, by simp only; omega, j2.app fun m hm => ?_, by simp; omega⟩ (by simp only; omega)
      simp only [List.mem_cons, List.not_mem_nil, or_false] at hm
      omega
    · refine Ok.rounds (fun (v : V2u) => 0 ≤ v.1.2.2.1 ∧ v.1.2.2.1 ≤ ms2.length) (fun (v : V2u) => (ms2.length - v.1.2.2.1).toNat) (FUEL_big (by show ((ms2.length : Int) - 0).toNat ≤ _; omega)) ⟨Int.le_refl _, by simp⟩ ?_
      rintro ⟨⟨w1, w2, k, w3⟩, w4⟩ kn3 ⟨k0, k1⟩ hk3
      simp only at k0 k1 hk3 ⊢
      unfold RescueDay_L19
      refine Ok.ite (fun hc => ?_) (fun _ => awake_ok)
      have hkk := of_decide_eq_true hc
      have hkk' : k.toNat < ms2.length := by omega
      obtain ⟨m, hm0⟩ : ∃ m, ms2.getD k.toNat 0 = m := ⟨_, rfl⟩
      have hm : 0 ≤ m ∧ m ≤ 1439 := by rw [← hm0]; exact j2 _ (getD_mem hkk')
      refine Ok.rounds (fun (v : VD5) => 0 ≤ v.1.2.2.2.1 ∧ v.1.2.2.2.1 ≤ l.length ∧ v.1.2.2.1 = (l.take v.1.2.2.2.1.toNat).any (fun x => cov x m)) (fun (v : VD5) => (l.length - v.1.2.2.2.1).toNat) (FUEL_big (by show ((l.length : Int) - 0).toNat ≤ _; omega)) ⟨Int.le_refl _, by simp, rfl⟩ ?_
      rintro ⟨⟨x1, x2, is, t, x3⟩, x4⟩ kn4 ⟨t0, t1, t2⟩ hk4
      simp only at t0 t1 t2 hk4 ⊢
      unfold RescueDay_L23
      have c1 := ib k0 hkk
      have c2 : decide (k.toNat < ms2.length) = true := decide_eq_true hkk'
      simp only [c1, c2, chk, cond_true, hm0]
      refine Ok.ite (fun hc => ?_) (fun hc => ?_)
      · have ht := of_decide_eq_true hc
        have ht' : t.toNat < l.length := by omega
        have e1 : w64 (t + 1) = t + 1 := w64_id (by omega) (by omega)
        have hat := any_take (fun x => cov x m) (d := dfltSpan) ht'
        rw [← t2] at hat
        have nx : ∀ b, b = (l.take (t.toNat + 1)).any (fun x => cov x m) → Ok (fun b => b = true) (kn4 ((x1, x2, b, t + 1, x3), x4)) := fun b hb =>
          hk4 ((x1, x2, b, t + 1, x3), x4) ⟨by simp only; omega, by simp only; omega, by simp only [toNat_succ t0]; exact hb⟩ (by simp only; omega)
        rw [e1]
        cases is with
        | true => exact nx true (by rw [hat]; rfl)
        | false =>
          simp only [cond_false]
          refine Ok.chk (ib t0 ht) (Ok.beq (Has_sp _ _) (nx _ ?_))
          rw [hat]; rfl
      · have ht := of_decide_eq_false hc
        rw [List.take_of_length_le (by omega)] at t2
        have h3 := g3 m.toNat (by omega)
        rw [Int.toNat_of_nonneg hm.1] at h3
        refine Ok.beq (cover_ok hv hm) (Ok.no rfl (Ok.no (by simp; omega) (Ok.chk (by rw [len_range]; exact ib hqs.1 (by omega)) ?_)))
        simp only
        rw [getD_range _ _ (show q.2.toNat < s.2.Spots.toNat by omega)]
        refine Ok.no ?_ ?_
        · rw [t2, h3]
          show (!((!(coverS s.2 m q.2.toNat == 1)) == !(coverS s.2 m q.2.toNat == 1))) = false
          simp
        · have e1 : w64 (k + 1) = k + 1 := w64_id (by omega) (by omega)
          rw [e1]
          exact hk3 ((w1, w2, k + 1, w3), w4) ⟨by simp only; omega, by simp only; omega⟩ (by simp only; omega)
end Go.Proofs.Rescue07

