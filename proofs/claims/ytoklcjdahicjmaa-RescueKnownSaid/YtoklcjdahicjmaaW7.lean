/- Walks by computing: what each function of the program that the laws reach gives for what it gets, as plain Lean, and that it is so; without a condition but those that stand in each theorem. -/
import Derived.Test.YtoklcjdahicjmaaW1
import Derived.Test.YtoklcjdahicjmaaW2
import Derived.Test.YtoklcjdahicjmaaW3
import Derived.Test.YtoklcjdahicjmaaW4
import Derived.Test.YtoklcjdahicjmaaW5
import Derived.Test.YtoklcjdahicjmaaW6
set_option linter.all false
namespace Go.Proofs.Rescue07
open Go Go.Ab
set_option linter.all false
theorem ok_eq {α : Type} {x : Option α} {a : α} (h : Ok (fun b => b = a) x) : x = some a := by obtain ⟨b, h1, rfl⟩ := h; exact h1
theorem ok_of {α : Type} {P : α → Prop} {x : Option α} {a : α} (h : x = some a) (hp : P a) : Ok P x := ⟨a, h, hp⟩
theorem Ok.beq {α β : Type} {Q : β → Prop} {x : Option α} {a : α} {f : α → Option β} (hx : x = some a) (hf : Ok Q (f a)) : Ok Q (x.bind f) := by subst hx; exact hf
theorem Ok.roundsD {α γ : Type} {F : γ → (γ → Option α) → Option α} {v0 : γ} (inv : γ → Prop) (μ : γ → Nat) (P : γ → α → Prop) (hμ : μ v0 < FUEL) (h0 : inv v0)
    (step : ∀ v kn, inv v → (∀ v', inv v' → μ v' < μ v → Ok (P v') (kn v')) → Ok (P v) (F v kn)) : Ok (P v0) (itN γ F v0) := by
  have key : ∀ n v, inv v → μ v < n → Ok (P v) (iter F n v) := by
    intro n
    induction n with
    | zero => intro v _ h; omega
    | succ n ih =>
      intro v hv hn
      exact step v (iter F n) hv fun v' hv' hlt => ih v' hv' (by omega)
  exact key FUEL v0 h0 hμ
theorem Ok.yes {α : Type} {b : Bool} {x y : Option α} {P : α → Prop} (h : b = true) (hx : Ok P x) : Ok P (bif b then x else y) := by subst h; exact hx
theorem Ok.no {α : Type} {b : Bool} {x y : Option α} {P : α → Prop} (h : b = false) (hx : Ok P y) : Ok P (bif b then x else y) := by subst h; exact hx
theorem ib {i : Int} {n : Nat} (h1 : 0 ≤ i) (h2 : i < n) : (decide (0 ≤ i) && decide (i < (n : Int))) = true := by simp; omega
theorem dropm {α β : Type} {f : α → β} {l : List α} {d : α} {i : Nat} (h : i < l.length) : (l.map f).drop i = f (l.getD i d) :: (l.map f).drop (i + 1) := by
  rw [List.drop_eq_getElem_cons (by simpa using h)]
  simp [List.getD_eq_getElem?_getD, h]
theorem drop_get {α : Type} {l : List α} {d : α} {i : Nat} (h : i < l.length) : l.drop i = l.getD i d :: l.drop (i + 1) := by
  rw [List.drop_eq_getElem_cons h]
  simp [List.getD_eq_getElem?_getD, h]
theorem getD_mem {α : Type} {l : List α} {d : α} {i : Nat} (h : i < l.length) : l.getD i d ∈ l := by
  rw [List.getD_eq_getElem?_getD, List.getElem?_eq_getElem h]
  exact List.getElem_mem h
theorem getD_range {α : Type} (f : Nat → α) (d : α) {n i : Nat} (h : i < n) : ((List.range n).map f).getD i d = f i := by
  rw [List.getD_eq_getElem?_getD, List.getElem?_map, List.getElem?_range h]; rfl
theorem range_snoc {α : Type} (f : Nat → α) (n : Nat) : (List.range n).map f ++ [f n] = (List.range (n + 1)).map f := by
  rw [List.range_succ, List.map_append]; rfl
theorem len_range {α : Type} (f : Nat → α) (n : Nat) : ((List.range n).map f).length = n := by simp
theorem toNat_succ {i : Int} (h : 0 ≤ i) : (i + 1).toNat = i.toNat + 1 := by omega
theorem fitA_ok {n b : Nat} (hn : n ≤ 1000000) (hb : b ≤ 1000000) : fitA n b = true := by
  unfold fitA
  have : n * b ≤ 1000000 * 1000000 := Nat.mul_le_mul hn hb
  simp; omega
end Go.Proofs.Rescue07
namespace Go.Ways
set_option linter.all false
theorem few : ∀ (n : Nat) (l : List Int), l.Nodup → (∀ v ∈ l, 0 ≤ v ∧ v < n) → l.length ≤ n
  | 0, [], _, _ => Nat.le_refl _
  | 0, v :: l, _, h => by have := h v (List.mem_cons_self ..); omega
  | n + 1, l, hd, h => by
    have h1 : (l.erase (n : Int)).length ≤ n := few n _ (hd.erase _) fun v hv => by
      have hm := List.mem_of_mem_erase hv
      have hne : v ≠ (n : Int) := fun e => by subst e; exact (List.Nodup.not_mem_erase hd) hv
      have := h v hm
      omega
    have h2 : l.length - 1 ≤ (l.erase (n : Int)).length := by
      rw [List.length_erase]; split <;> omega
    omega
abbrev Edges := Int → Int → Int → Prop
inductive Walk (E : Edges) (s : Int) : Int → Int → Prop
  | nil : Walk E s s 0
  | step {u v d t} : Walk E s u d → E u v t → Walk E s v (d + t)
inductive NW (E : Edges) (s : Int) : List Int → Int → Prop
  | nil : NW E s [s] 0
  | step {u v d t l} : NW E s (u :: l) d → E u v t → v ∉ u :: l → NW E s (v :: u :: l) (d + t)
def GoodE (E : Edges) (n : Nat) (T : Int) : Prop := ∀ u v t, E u v t → 0 ≤ u ∧ u < n ∧ 0 ≤ v ∧ v < n ∧ 0 ≤ t ∧ t ≤ T
section
variable {E E' : Edges} {n : Nat} {T s : Int}
theorem Walk.nonneg (hg : GoodE E n T) {v d : Int} (h : Walk E s v d) : 0 ≤ d := by
  induction h with
  | nil => omega
  | step _ he ih => have := hg _ _ _ he; omega
theorem Walk.inside (hg : GoodE E n T) (hs : 0 ≤ s ∧ s < n) {v d : Int} (h : Walk E s v d) : 0 ≤ v ∧ v < n := by
  cases h with
  | nil => exact hs
  | step _ he => have := hg _ _ _ he; omega
theorem NW.walk {l : List Int} {d : Int} (h : NW E s l d) : ∃ v l', l = v :: l' ∧ Walk E s v d := by
  induction h with
  | nil => exact ⟨_, _, rfl, .nil⟩
  | step _ he _ ih =>
    obtain ⟨v, l', h1, h2⟩ := ih
    cases h1
    exact ⟨_, _, rfl, .step h2 he⟩
theorem NW.nodup {l : List Int} {d : Int} (h : NW E s l d) : l.Nodup := by
  induction h with
  | nil => simp
  | step _ _ hn ih => exact List.nodup_cons.2 ⟨hn, ih⟩
theorem NW.inside (hg : GoodE E n T) (hs : 0 ≤ s ∧ s < n) {l : List Int} {d : Int} (h : NW E s l d) : ∀ v ∈ l, 0 ≤ v ∧ v < n := by
  induction h with
  | nil => intro v hv; rw [List.mem_singleton.1 hv]; exact hs
  | step _ he _ ih =>
    intro v hv
    rcases List.mem_cons.1 hv with rfl | hv
    · have := hg _ _ _ he; omega
    · exact ih v hv
theorem NW.len (hg : GoodE E n T) (hs : 0 ≤ s ∧ s < n) {l : List Int} {d : Int} (h : NW E s l d) : l.length ≤ n := few n l h.nodup (h.inside hg hs)
theorem NW.small (hg : GoodE E n T) {l : List Int} {d : Int} (h : NW E s l d) : 0 ≤ d ∧ d ≤ T * ((l.length : Int) - 1) := by
  induction h with
  | nil => simp
  | step _ he _ ih =>
    have := hg _ _ _ he
    simp only [List.length_cons, Int.natCast_add, Int.natCast_one] at ih ⊢
    rename_i l _ _ _
    have e : ∀ k : Int, T * (k + 1 + 1 - 1) = T * (k + 1 - 1) + T := fun k => by
      have : k + 1 + 1 - 1 = (k + 1 - 1) + 1 := by omega
      rw [this, Int.mul_add, Int.mul_one]
    rw [e]
    omega
theorem NW.cut (hg : GoodE E n T) {l : List Int} {d : Int} (h : NW E s l d) : ∀ v ∈ l, ∃ l' d', NW E s (v :: l') d' ∧ d' ≤ d := by
  induction h with
  | nil => intro v hv; rw [List.mem_singleton.1 hv]; exact ⟨_, _, .nil, by omega⟩
  | step h0 he hn ih =>
    intro v hv
    rcases List.mem_cons.1 hv with rfl | hv
    · exact ⟨_, _, .step h0 he hn, by omega⟩
    · obtain ⟨l', d', h1, h2⟩ := ih v hv
      have := hg _ _ _ he
      exact ⟨l', d', h1, by omega⟩
theorem Walk.short (hg : GoodE E n T) {v d : Int} (h : Walk E s v d) : ∃ l d', NW E s (v :: l) d' ∧ d' ≤ d := by
  induction h with
  | nil => exact ⟨_, _, .nil, by omega⟩
  | step h0 he ih =>
    obtain ⟨l, d', h1, h2⟩ := ih
    rename_i u w d t
    by_cases hm : w ∈ u :: l
    · obtain ⟨l', d'', h3, h4⟩ := h1.cut hg w hm
      have := hg _ _ _ he
      exact ⟨l', d'', h3, by omega⟩
    · exact ⟨_, _, .step h1 he hm, by omega⟩
structure IsDist (E : Edges) (s : Int) (n : Nat) (B : Int) (f : Int → Int) : Prop where
  top : ∀ v : Int, 0 ≤ v → v < n → f v ≤ B
  way : ∀ v : Int, 0 ≤ v → v < n → f v = B ∨ Walk E s v (f v)
  low : ∀ v d : Int, Walk E s v d → f v ≤ d
theorem IsDist.le {B : Int} {f g : Int → Int} (hf : IsDist E s n B f) (hg : IsDist E' s n B g) (hm : ∀ v d, Walk E' s v d → ∃ d', Walk E s v d' ∧ d' ≤ d) {v : Int} (h0 : 0 ≤ v) (h1 : v < n) : f v ≤ g v := by
  rcases hg.way v h0 h1 with h | h
  · rw [h]; exact hf.top v h0 h1
  · obtain ⟨d', h2, h3⟩ := hm _ _ h
    have := hf.low _ _ h2
    omega
theorem IsDist.eq {B : Int} {f g : Int → Int} (hf : IsDist E s n B f) (hg : IsDist E s n B g) {v : Int} (h0 : 0 ≤ v) (h1 : v < n) : f v = g v := by
  have a := hf.le hg (fun v d h => ⟨d, h, by omega⟩) h0 h1
  have b := hg.le hf (fun v d h => ⟨d, h, by omega⟩) h0 h1
  omega
theorem Walk.mono (hm : ∀ u v t, E' u v t → ∃ t', E u v t' ∧ t' ≤ t) {v d : Int} (h : Walk E' s v d) : ∃ d', Walk E s v d' ∧ d' ≤ d := by
  induction h with
  | nil => exact ⟨0, .nil, by omega⟩
  | step _ he ih =>
    obtain ⟨d', h1, h2⟩ := ih
    obtain ⟨t', h3, h4⟩ := hm _ _ _ he
    exact ⟨_, .step h1 h3, by omega⟩
theorem IsDist.mono {B : Int} {f g : Int → Int} (hf : IsDist E s n B f) (hg : IsDist E' s n B g) (hm : ∀ u v t, E' u v t → ∃ t', E u v t' ∧ t' ≤ t) {v : Int} (h0 : 0 ≤ v) (h1 : v < n) : f v ≤ g v := hf.le hg (fun _ _ h => h.mono hm) h0 h1
theorem IsDist.small (hg : GoodE E n T) (hT : 0 ≤ T) (hs : 0 ≤ s ∧ s < n) {B : Int} {f : Int → Int} (hf : IsDist E s n B f) {v : Int} (h0 : 0 ≤ v) (h1 : v < n) : f v = B ∨ f v ≤ T * ((n : Int) - 1) := by
  rcases hf.way v h0 h1 with h | h
  · exact .inl h
  · obtain ⟨l, d', h2, h3⟩ := h.short hg
    have h4 := (h2.small hg).2
    have h5 := h2.len hg hs
    have h6 := hf.low _ _ (show Walk E s v d' by obtain ⟨v', l', e, hw⟩ := h2.walk; cases e; exact hw)
    have h7 : T * (((v :: l).length : Int) - 1) ≤ T * ((n : Int) - 1) := Int.mul_le_mul_of_nonneg_left (by omega) hT
    right; omega
theorem IsDist.nonneg (hg : GoodE E n T) {B : Int} (hB : 0 ≤ B) {f : Int → Int} (hf : IsDist E s n B f) {v : Int} (h0 : 0 ≤ v) (h1 : v < n) : 0 ≤ f v := by
  rcases hf.way v h0 h1 with h | h
  · omega
  · exact h.nonneg hg
theorem below {f : Int → Int} (h0 : f s ≤ 0) (hst : ∀ u v t, E u v t → f v ≤ f u + t) {v d : Int} (h : Walk E s v d) : f v ≤ d := by
  induction h with
  | nil => exact h0
  | step _ he ih => have := hst _ _ _ he; omega
end
end Go.Ways
namespace Go.Ways
set_option linter.all false
abbrev Leg := Int × Int × Int × Bool
def gt (out : List Int) (v : Int) : Int := out.getD v.toNat 0
theorem gt_set {out : List Int} {i x v : Int} (hi : 0 ≤ i) (hl : i < out.length) (hv : 0 ≤ v) : gt (out.set i.toNat x) v = if v = i then x else gt out v := by
  unfold gt
  rw [List.getD_eq_getElem?_getD, List.getElem?_set]
  by_cases h : v = i
  · subst h
    have : v.toNat < out.length := by omega
    simp [this]
  · have : ¬ i.toNat = v.toNat := by omega
    simp [h, this, List.getD_eq_getElem?_getD]
def relax (out : List Int) (e : Leg) : List Int :=
  bif e.2.2.2 then
    (out.set e.2.1.toNat (min (gt out e.2.1) (gt out e.1 + e.2.2.1))).set e.1.toNat (min (gt (out.set e.2.1.toNat (min (gt out e.2.1) (gt out e.1 + e.2.2.1))) e.1) (gt (out.set e.2.1.toNat (min (gt out e.2.1) (gt out e.1 + e.2.2.1))) e.2.1 + e.2.2.1))
  else out
def rnds (es : List Leg) : Nat → List Int → List Int
  | 0, out => out
  | k + 1, out => es.foldl relax (rnds es k out)
def startL (n : Nat) (B s : Int) : List Int := (List.replicate n B).set s.toNat 0
def bf (n : Nat) (B : Int) (es : List Leg) (s : Int) : List Int := rnds es n (startL n B s)
def EdgesOf (es : List Leg) : Edges := fun u v t => ∃ e ∈ es, e.2.2.2 = true ∧ t = e.2.2.1 ∧ ((e.1 = u ∧ e.2.1 = v) ∨ (e.1 = v ∧ e.2.1 = u))
def LegIn (n : Nat) (T : Int) (e : Leg) : Prop := 0 ≤ e.1 ∧ e.1 < n ∧ 0 ≤ e.2.1 ∧ e.2.1 < n ∧ 0 ≤ e.2.2.1 ∧ e.2.2.1 ≤ T
theorem good_of {es : List Leg} {n : Nat} {T : Int} (h : ∀ e ∈ es, LegIn n T e) : GoodE (EdgesOf es) n T := by
  rintro u v t ⟨e, he, _, rfl, h1⟩
  have := h e he
  unfold LegIn at this
  rcases h1 with ⟨rfl, rfl⟩ | ⟨rfl, rfl⟩ <;> omega
theorem relax_len (out : List Int) (e : Leg) : (relax out e).length = out.length := by
  unfold relax; cases e.2.2.2 <;> simp
theorem fold_len (es : List Leg) : ∀ out : List Int, (es.foldl relax out).length = out.length := by
  induction es with
  | nil => intro out; rfl
  | cons e es ih => intro out; rw [List.foldl_cons, ih, relax_len]
theorem rnds_len (es : List Leg) (out : List Int) : ∀ k, (rnds es k out).length = out.length
  | 0 => rfl
  | k + 1 => by rw [rnds, fold_len, rnds_len es out k]
theorem gt_relax {n : Nat} {T : Int} {out : List Int} {e : Leg} (hl : out.length = n) (he : LegIn n T e) {v : Int} (hv : 0 ≤ v) : gt (relax out e) v =
    if e.2.2.2 = true then (if v = e.1 then min (gt out e.1) (gt out e.2.1 + e.2.2.1) else if v = e.2.1 then min (gt out e.2.1) (gt out e.1 + e.2.2.1) else gt out v) else gt out v := by
  obtain ⟨a, b, t, o⟩ := e
  unfold LegIn at he
  simp only at he ⊢
  unfold relax
  cases o with
  | false => simp
  | true =>
    simp only [cond_true, if_true]
    rw [gt_set (by omega) (by simp; omega) hv, gt_set (by omega) (by omega) (by omega), gt_set (by omega) (by omega) (by omega), gt_set (by omega) (by omega) hv]
    by_cases h1 : v = a
    · simp only [h1, if_true]
      by_cases h2 : a = b
      · subst h2; simp only [if_true]; omega
      · simp only [h2, if_false, if_true]; omega
    · simp only [h1, if_false]
section
variable {n : Nat} {T B s : Int} {es : List Leg}
def Fine (E : Edges) (n : Nat) (B s : Int) (out : List Int) : Prop := out.length = n ∧ ∀ v : Int, 0 ≤ v → v < n → gt out v ≤ B ∧ (gt out v = B ∨ Walk E s v (gt out v))
theorem fine_relax {E : Edges} {out : List Int} {e : Leg} (hf : Fine E n B s out) (he : LegIn n T e) (hE : e.2.2.2 = true → E e.1 e.2.1 e.2.2.1 ∧ E e.2.1 e.1 e.2.2.1) : Fine E n B s (relax out e) := by
  refine ⟨by rw [relax_len]; exact hf.1, fun v h0 h1 => ?_⟩
  rw [gt_relax hf.1 he h0]
  unfold LegIn at he
  have hv := hf.2 v h0 h1
  by_cases ho : e.2.2.2 = true
  · obtain ⟨h2, h3⟩ := hE ho
    have ha := hf.2 e.1 (by omega) (by omega)
    have hb := hf.2 e.2.1 (by omega) (by omega)
    have pick : ∀ (x y w : Int), x ≤ B → (x = B ∨ Walk E s w x) → (y < B → Walk E s w y) → min x y ≤ B ∧ (min x y = B ∨ Walk E s w (min x y)) := fun x y w h4 h5 h6 => by
      by_cases hc : x ≤ y
      · rw [Int.min_eq_left hc]; exact ⟨h4, h5⟩
      · rw [Int.min_eq_right (by omega)]; exact ⟨by omega, .inr (h6 (by omega))⟩
    rw [if_pos ho]
    by_cases h4 : v = e.1
    · rw [if_pos h4, h4]
      refine pick _ _ _ ha.1 ha.2 fun h5 => ?_
      rcases hb.2 with h6 | h6
      · omega
      · exact .step h6 h3
    · rw [if_neg h4]
      by_cases h5 : v = e.2.1
      · rw [if_pos h5, h5]
        refine pick _ _ _ hb.1 hb.2 fun h7 => ?_
        rcases ha.2 with h6 | h6
        · omega
        · exact .step h6 h2
      · rw [if_neg h5]; exact hv
  · rw [if_neg ho]; exact hv
theorem edge_of {e : Leg} (he : e ∈ es) (ho : e.2.2.2 = true) : EdgesOf es e.1 e.2.1 e.2.2.1 ∧ EdgesOf es e.2.1 e.1 e.2.2.1 := ⟨⟨e, he, ho, rfl, .inl ⟨rfl, rfl⟩⟩, ⟨e, he, ho, rfl, .inr ⟨rfl, rfl⟩⟩⟩
theorem fine_fold {E : Edges} : ∀ (l : List Leg) (out : List Int), (∀ e ∈ l, LegIn n T e ∧ (e.2.2.2 = true → E e.1 e.2.1 e.2.2.1 ∧ E e.2.1 e.1 e.2.2.1)) → Fine E n B s out → Fine E n B s (l.foldl relax out)
  | [], out, _, h => h
  | e :: l, out, hl, h => fine_fold l _ (fun e' he' => hl e' (List.mem_cons_of_mem _ he')) (fine_relax h (hl e (List.mem_cons_self ..)).1 (hl e (List.mem_cons_self ..)).2)
theorem fine_rnds (hes : ∀ e ∈ es, LegIn n T e) {out : List Int} (h : Fine (EdgesOf es) n B s out) : ∀ k, Fine (EdgesOf es) n B s (rnds es k out)
  | 0 => h
  | k + 1 => fine_fold (T := T) es _ (fun e he => ⟨hes e he, edge_of he⟩) (fine_rnds hes h k)
theorem relax_le {out : List Int} {e : Leg} (hl : out.length = n) (he : LegIn n T e) {v : Int} (hv : 0 ≤ v) : gt (relax out e) v ≤ gt out v := by
  rw [gt_relax hl he hv]
  split
  · split
    · rename_i h; rw [h]; omega
    · split
      · rename_i h; rw [h]; omega
      · omega
  · omega
theorem fold_le : ∀ (l : List Leg) (out : List Int), out.length = n → (∀ e ∈ l, LegIn n T e) → ∀ v, 0 ≤ v → gt (l.foldl relax out) v ≤ gt out v
  | [], out, _, _, v, _ => Int.le_refl _
  | e :: l, out, h, hl, v, hv => by
    have h1 := fold_le l (relax out e) (by rw [relax_len]; exact h) (fun e' he' => hl e' (List.mem_cons_of_mem _ he')) v hv
    have h2 := relax_le (v := v) h (hl e (List.mem_cons_self ..)) hv
    rw [List.foldl_cons]; omega
theorem fold_edge : ∀ (l : List Leg) (out : List Int), out.length = n → (∀ e ∈ l, LegIn n T e) → ∀ e ∈ l, e.2.2.2 = true → gt (l.foldl relax out) e.2.1 ≤ gt out e.1 + e.2.2.1 ∧ gt (l.foldl relax out) e.1 ≤ gt out e.2.1 + e.2.2.1
  | e0 :: l, out, h, hl, e, he, ho => by
    have h0 := hl e0 (List.mem_cons_self ..)
    have hr : (relax out e0).length = n := by rw [relax_len]; exact h
    have hl' : ∀ e ∈ l, LegIn n T e := fun e' he' => hl e' (List.mem_cons_of_mem _ he')
    have hi := hl e he
    have hi' := hi
    unfold LegIn at hi'
    rw [List.foldl_cons]
    rcases List.mem_cons.1 he with rfl | he
    · have a1 := fold_le l _ hr hl' e.1 (by omega)
      have a2 := fold_le l _ hr hl' e.2.1 (by omega)
      rw [gt_relax h hi (by omega)] at a1 a2
      simp only [ho, if_true] at a1 a2
      refine ⟨?_, by omega⟩
      split at a2
      · rename_i h3; rw [← h3] at a2 ⊢; omega
      · omega
    · obtain ⟨a1, a2⟩ := fold_edge l (relax out e0) hr hl' e he ho
      have b1 := relax_le (v := e.1) h h0 (by omega)
      have b2 := relax_le (v := e.2.1) h h0 (by omega)
      omega
theorem rnds_low (hes : ∀ e ∈ es, LegIn n T e) {out : List Int} (hl : out.length = n) (hs : 0 ≤ s) (h0 : gt out s ≤ 0) : ∀ (k : Nat) (l : List Int) (v d : Int), NW (EdgesOf es) s (v :: l) d → l.length ≤ k → gt (rnds es k out) v ≤ d
  | 0, [], v, d, h, _ => by cases h; exact h0
  | 0, u :: l, v, d, h, hk => by simp at hk
  | k + 1, [], v, d, h, _ => by
    cases h
    have h1 := rnds_low hes hl hs h0 k [] s 0 .nil (by simp)
    have h2 := fold_le (n := n) (T := T) es (rnds es k out) (by rw [rnds_len]; exact hl) hes s hs
    rw [rnds]; omega
  | k + 1, u :: l, v, d, h, hk => by
    cases h with
    | step h1 he hn =>
      have h2 := rnds_low hes hl hs h0 k l u _ h1 (by simp at hk; omega)
      obtain ⟨e, he, ho, rfl, h3⟩ := he
      have h4 := fold_edge (n := n) (T := T) es (rnds es k out) (by rw [rnds_len]; exact hl) hes e he ho
      rw [rnds]
      rcases h3 with ⟨rfl, rfl⟩ | ⟨rfl, rfl⟩ <;> omega
theorem gt_start (hs : 0 ≤ s ∧ s < n) {v : Int} (h0 : 0 ≤ v) (h1 : v < (n : Int)) : gt (startL n B s) v = if v = s then 0 else B := by
  unfold startL
  rw [gt_set hs.1 (by simp; omega) h0]
  by_cases h : v = s
  · simp [h]
  · simp only [h, if_false, gt, List.getD_eq_getElem?_getD]
    rw [List.getElem?_eq_getElem (by simp; omega)]
    simp
theorem bf_fine (hes : ∀ e ∈ es, LegIn n T e) (hs : 0 ≤ s ∧ s < n) (hB : 0 ≤ B) (k : Nat) : Fine (EdgesOf es) n B s (rnds es k (startL n B s)) := by
  refine fine_rnds hes ⟨by simp [startL], fun v h0 h1 => ?_⟩ k
  rw [gt_start hs h0 h1]
  split
  · rename_i h; subst h; exact ⟨hB, .inr .nil⟩
  · exact ⟨Int.le_refl _, .inl rfl⟩
theorem bf_dist (hes : ∀ e ∈ es, LegIn n T e) (hs : 0 ≤ s ∧ s < n) (hB : 0 ≤ B) : IsDist (EdgesOf es) s n B (gt (bf n B es s)) := by
  have hf := bf_fine (T := T) hes hs hB n
  refine ⟨fun v h0 h1 => (hf.2 v h0 h1).1, fun v h0 h1 => (hf.2 v h0 h1).2, fun v d hw => ?_⟩
  obtain ⟨l, d', h1, h2⟩ := hw.short (good_of hes)
  have h3 := h1.len (good_of hes) hs
  have h4 := rnds_low hes (out := startL n B s) (by simp [startL]) hs.1 (by rw [gt_start hs hs.1 hs.2]; simp) n l v d' h1 (by simp at h3; omega)
  show gt (rnds es n (startL n B s)) v ≤ d
  omega
end
end Go.Ways
namespace Go.Proofs.Rescue07
open Go Go.Ab
set_option linter.all false
def inR (n lo hi : Int) : Bool := decide (lo ≤ n) && decide (n ≤ hi)
theorem inR_iff {n lo hi : Int} : inR n lo hi = true ↔ lo ≤ n ∧ n ≤ hi := by simp [inR]
theorem within_sp (n lo hi : Int) : within n lo hi = some (inR n lo hi) := by
  rw [within_eq]; unfold within' inR
  cases decide (lo ≤ n) <;> rfl
def first : List Int → Int
  | [] => 0
  | e :: l => bif e != 0 then e else first l
theorem first_zero : ∀ {l : List Int}, first l = 0 ↔ ∀ e ∈ l, e = 0
  | [] => by simp [first]
  | e :: l => by
    simp only [first, List.forall_mem_cons]
    by_cases h : e = 0
    · subst h; simp [first_zero]
    · have : (e != 0) = true := by simpa using h
      rw [this]; simp [h]
def eSpan (x : Span) (lo hi : Int) : Int := bif !(inR x.Lo lo hi) || !(inR x.Hi lo hi) then 2 else bif decide (x.Lo > x.Hi) then 11 else 0
def eSpans (l : List Span) (many lo hi : Int) : Int := bif (l.length : Int) != many then 3 else first (l.map fun x => eSpan x lo hi)
def ePath (n : Int) (p : Path) : Int := bif !(inR p.A 0 (n - 1)) || !(inR p.B 0 (n - 1)) then 7 else bif p.A == p.B then 12 else bif eSpan p.Time 0 5000 != 0 then eSpan p.Time 0 5000 else bif !(inR p.Open 1 3) then 4 else 0
def ePost (n : Int) (p : Post) : Int := bif !(inR p.Spot 0 (n - 1)) then 7 else bif eSpan p.Ready 0 5000 != 0 then eSpan p.Ready 0 5000 else bif !(inR p.From 0 1439) || !(inR p.To 0 1439) then 2 else bif p.Flies == 0 then eSpans p.Air 0 0 5000 else bif !(inR p.Flies 1 3) then 4 else eSpans p.Air n 0 5000
def eChill (l : List Chill) (i : Nat) : Int := bif !(inR (l.getD i dfltChill).Warm (-400) 400) then 2
  else bif (bif decide (i = 0) then (l.getD i dfltChill).Warm != -400 else decide ((l.getD i dfltChill).Warm ≤ (l.getD (i - 1) dfltChill).Warm)) then 11
  else bif eSpan (l.getD i dfltChill).Minutes 0 5000 != 0 then eSpan (l.getD i dfltChill).Minutes 0 5000
  else bif !(decide (i = 0)) && (decide ((l.getD i dfltChill).Minutes.Lo < (l.getD (i - 1) dfltChill).Minutes.Lo) || decide ((l.getD i dfltChill).Minutes.Hi < (l.getD (i - 1) dfltChill).Minutes.Hi)) then 11 else 0
def eChills (l : List Chill) : Int := bif (l.length : Int) == 0 then 6 else bif decide ((l.length : Int) > 20) then 8 else first ((List.range l.length).map (eChill l))
def eR (r : Rescue) : Int := bif !(inR r.Spots 1 40) then 2
  else bif decide ((r.Paths.length : Int) > 120) then 8
  else bif first (r.Paths.map (ePath r.Spots)) != 0 then first (r.Paths.map (ePath r.Spots))
  else bif decide ((r.Posts.length : Int) > 12) then 8
  else bif first (r.Posts.map (ePost r.Spots)) != 0 then first (r.Posts.map (ePost r.Spots))
  else bif eSpans r.Water r.Spots (-400) 400 != 0 then eSpans r.Water r.Spots (-400) 400
  else eChills r.Chills
theorem fault_sp (x : Span) (lo hi : Int) : fault x lo hi = some (eSpan x lo hi) := by
  rw [fault_eq]; unfold fault' eSpan
  simp only [within_sp, Option.bind_some]
  cases inR x.Lo lo hi <;> cases inR x.Hi lo hi <;> cases decide (x.Lo > x.Hi) <;> rfl
theorem first_drop {α : Type} {f : α → Int} {l : List α} {d : α} {i : Nat} (h : i < l.length) : first ((l.map f).drop i) = bif f (l.getD i d) != 0 then f (l.getD i d) else first ((l.map f).drop (i + 1)) := by
  rw [dropm (d := d) h]; rfl
theorem first_end {α : Type} {f : α → Int} {l : List α} {i : Nat} (h : l.length ≤ i) : first ((l.map f).drop i) = 0 := by
  rw [List.drop_eq_nil_of_le (by simpa using h)]; rfl
abbrev V1 := (Int × Unit) × Unit
abbrev V2 := (Unit × Int × Unit) × Unit
theorem FUEL_big {n : Nat} (h : n ≤ 1000000000) : n < FUEL := by unfold FUEL; omega
theorem faults_sp (l : List Span) (many lo hi : Int) (hn : l.length ≤ 100000) : faults l many lo hi = some (eSpans l many lo hi) := by
  rw [faults_eq]; unfold faults' eSpans
  cases hc : ((l.length : Int) != many) with
  | true => rfl
  | false =>
    simp only [cond_false]
    apply ok_eq
    refine (Ok.roundsD (P := fun (v : V1) r => r = first ((l.map fun x => eSpan x lo hi).drop v.1.1.toNat)) (fun v : V1 => 0 ≤ v.1.1 ∧ v.1.1 ≤ l.length) (fun v : V1 => (l.length - v.1.1).toNat) (FUEL_big (by show ((l.length : Int) - 0).toNat ≤ _; omega)) ⟨by decide, by simp⟩ ?_).mono (fun r h => by simpa using h)
    rintro ⟨⟨i, u⟩, u'⟩ kn ⟨h0, h1⟩ hk
    simp only at h0 h1 hk ⊢
    unfold faults_L4
    refine Ok.ite (fun hc => ?_) (fun hc => ?_)
    · have hi := of_decide_eq_true hc
      refine Ok.chk (ib h0 hi) (Ok.beq (fault_sp _ _ _) ?_)
      rw [first_drop (d := dfltSpan) (show i.toNat < l.length by omega)]
      refine Ok.ite (fun h => ?_) (fun h => ?_)
      · exact Ok.some (by rw [h]; rfl)
      · have e1 : w64 (i + 1) = i + 1 := w64_id (by omega) (by omega)
        have := hk ((i + 1, u), u') ⟨by simp only; omega, by simp only; omega⟩ (by simp only; omega)
        simp only [toNat_succ h0] at this
        rw [e1, h]; exact this
    · have := of_decide_eq_false hc
      exact Ok.some (by rw [first_end (by omega)])
theorem spots_w {n : Int} (h : inR n 1 40 = true) : w64 (n - 1) = n - 1 := by
  have := inR_iff.1 h
  exact w64_id (by omega) (by omega)
theorem path_sp (r : Rescue) (p : Path) (h : inR r.Spots 1 40 = true) : path r p = some (ePath r.Spots p) := by
  rw [path_eq]; unfold path' ePath
  simp only [within_sp, fault_sp, Option.bind_some, spots_w h]
  cases inR p.A 0 (r.Spots - 1) <;> cases inR p.B 0 (r.Spots - 1) <;> cases (p.A == p.B) <;> cases (eSpan p.Time 0 5000 != 0) <;> cases inR p.Open 1 3 <;> rfl
theorem post_sp (r : Rescue) (p : Post) (h : inR r.Spots 1 40 = true) (hn : p.Air.length ≤ 100000) : post r p = some (ePost r.Spots p) := by
  rw [post_eq]; unfold post' ePost
  simp only [within_sp, fault_sp, Option.bind_some, spots_w h, faults_sp _ _ _ _ hn]
  have e : (p.Flies != 0) = !(p.Flies == 0) := rfl
  rw [e]
  cases inR p.Spot 0 (r.Spots - 1) <;> cases (eSpan p.Ready 0 5000 != 0) <;> cases inR p.From 0 1439 <;> cases inR p.To 0 1439 <;> cases (p.Flies == 0) <;> cases inR p.Flies 1 3 <;> rfl
theorem range_drop {f : Nat → Int} {n i : Nat} (h : i < n) : first (((List.range n).map f).drop i) = bif f i != 0 then f i else first (((List.range n).map f).drop (i + 1)) := by
  rw [first_drop (d := 0) (by simpa using h)]
  have : (List.range n).getD i 0 = i := by rw [List.getD_eq_getElem?_getD, List.getElem?_range h]; rfl
  rw [this]
theorem range_end {f : Nat → Int} {n i : Nat} (h : n ≤ i) : first (((List.range n).map f).drop i) = 0 := first_end (by simpa using h)
theorem chills_sp (l : List Chill) : chills l = some (eChills l) := by
  rw [chills_eq]; unfold chills' eChills
  cases hc : ((l.length : Int) == 0) with
  | true => rfl
  | false =>
  cases hc2 : decide ((l.length : Int) > 20) with
  | true => rfl
  | false =>
    have hl := of_decide_eq_false hc2
    simp only [cond_false]
    apply ok_eq
    refine (Ok.roundsD (P := fun (v : V1) r => r = first (((List.range l.length).map (eChill l)).drop v.1.1.toNat)) (fun v : V1 => 0 ≤ v.1.1 ∧ v.1.1 ≤ l.length) (fun v : V1 => (l.length - v.1.1).toNat) (FUEL_big (by show ((l.length : Int) - 0).toNat ≤ _; omega)) ⟨by decide, by simp⟩ ?_).mono (fun r h => by simpa using h)
    rintro ⟨⟨i, u⟩, u'⟩ kn ⟨h0, h1⟩ hk
    simp only at h0 h1 hk ⊢
    unfold chills_L6
    refine Ok.ite (fun hc => ?_) (fun hc => ?_)
    · have hi := of_decide_eq_true hc
      have e1 : w64 (i + 1) = i + 1 := w64_id (by omega) (by omega)
      have hk' := hk ((i + 1, u), u') ⟨by simp only; omega, by simp only; omega⟩ (by simp only; omega)
      simp only [toNat_succ h0] at hk'
      refine Ok.chk (ib h0 hi) ?_
      simp only [within_sp, fault_sp, Option.bind_some, e1]
      rw [range_drop (show i.toNat < l.length by omega)]
      unfold eChill
      by_cases hz : i = 0
      · subst hz
        simp only [show decide ((0:Int) > 0) = false from rfl, show ((0:Int) == 0) = true from rfl, show decide ((0:Int).toNat = 0) = true from rfl, cond_true, cond_false, Bool.not_true, Bool.false_and]
        cases inR (l.getD (0:Int).toNat dfltChill).Warm (-400) 400 <;> cases ((l.getD (0:Int).toNat dfltChill).Warm != -400) <;> cases hs : (eSpan (l.getD (0:Int).toNat dfltChill).Minutes 0 5000 != 0) <;> simp only [cond_true, cond_false, Bool.not_true, Bool.not_false] <;> first | exact hk' | exact Ok.some (by rw [hs]; rfl) | exact Ok.some rfl
      · have hp : decide (i > 0) = true := decide_eq_true (by omega)
        have hz' : (i == 0) = false := by simpa using hz
        have hz2 : decide (i.toNat = 0) = false := decide_eq_false (by omega)
        have e2 : w64 (i - 1) = i - 1 := w64_id (by omega) (by omega)
        have e3 : (i - 1).toNat = i.toNat - 1 := by omega
        have hb : (decide (0 ≤ i - 1) && decide (i - 1 < (l.length : Int))) = true := ib (by omega) (by omega)
        simp only [hp, hz', hz2, e2, e3, hb, chk, cond_true, cond_false, Bool.not_false, Bool.true_and]
        cases inR (l.getD i.toNat dfltChill).Warm (-400) 400 <;> cases decide ((l.getD i.toNat dfltChill).Warm ≤ (l.getD (i.toNat - 1) dfltChill).Warm) <;> cases hs : (eSpan (l.getD i.toNat dfltChill).Minutes 0 5000 != 0) <;> cases decide ((l.getD i.toNat dfltChill).Minutes.Lo < (l.getD (i.toNat - 1) dfltChill).Minutes.Lo) <;> cases decide ((l.getD i.toNat dfltChill).Minutes.Hi < (l.getD (i.toNat - 1) dfltChill).Minutes.Hi) <;> simp only [cond_true, cond_false, Bool.not_true, Bool.not_false, Bool.or_true, Bool.or_false] <;> first | exact hk' | exact Ok.some (by rw [hs]; rfl) | exact Ok.some rfl
    · have := of_decide_eq_false hc
      exact Ok.some (by rw [range_end (by omega)])
def Few (r : Rescue) : Prop := (∀ p ∈ r.Posts, p.Air.length ≤ 100000) ∧ r.Paths.length ≤ 100000 ∧ r.Posts.length ≤ 100000 ∧ r.Water.length ≤ 100000 ∧ r.Chills.length ≤ 100000
theorem pCheck_sp (r : Rescue) (hf : Few r) : pCheck r = some (eR r) := by
  rw [pCheck_eq]; unfold pCheck' eR
  simp only [within_sp, Option.bind_some]
  cases hs : inR r.Spots 1 40 with
  | false => rfl
  | true =>
  simp only [Bool.not_true, cond_false]
  cases hc : decide ((r.Paths.length : Int) > 120) with
  | true => rfl
  | false =>
  have hl := of_decide_eq_false hc
  simp only [cond_false]
  apply ok_eq
  refine Ok.mono (Ok.roundsD (P := fun (v : V2) x => x = bif first ((r.Paths.map (ePath r.Spots)).drop v.1.2.1.toNat) != 0 then first ((r.Paths.map (ePath r.Spots)).drop v.1.2.1.toNat) else bif decide ((r.Posts.length : Int) > 12) then 8 else bif first (r.Posts.map (ePost r.Spots)) != 0 then first (r.Posts.map (ePost r.Spots)) else bif eSpans r.Water r.Spots (-400) 400 != 0 then eSpans r.Water r.Spots (-400) 400 else eChills r.Chills) (fun v : V2 => 0 ≤ v.1.2.1 ∧ v.1.2.1 ≤ r.Paths.length) (fun v : V2 => (r.Paths.length - v.1.2.1).toNat) (FUEL_big (by show ((r.Paths.length : Int) - 0).toNat ≤ _; omega)) ⟨by decide, by simp⟩ ?_) (fun x h => by simpa using h)
  rintro ⟨⟨u1, i, u2⟩, u3⟩ kn ⟨h0, h1⟩ hk
  simp only at h0 h1 hk ⊢
  unfold pCheck_L6
  refine Ok.ite (fun hc => ?_) (fun hc => ?_)
  · have hi := of_decide_eq_true hc
    refine Ok.chk (ib h0 hi) (Ok.beq (path_sp _ _ hs) ?_)
    rw [first_drop (d := dfltPath) (show i.toNat < r.Paths.length by omega)]
    refine Ok.ite (fun h => ?_) (fun h => ?_)
    · exact Ok.some (by rw [h]; simp only [cond_true]; rw [h]; rfl)
    · have e1 : w64 (i + 1) = i + 1 := w64_id (by omega) (by omega)
      have := hk ((u1, i + 1, u2), u3) ⟨by simp only; omega, by simp only; omega⟩ (by simp only; omega)
      simp only [toNat_succ h0] at this
      rw [e1, h]; exact this
  · have := of_decide_eq_false hc
    rw [first_end (by omega)]
    simp only [show ((0:Int) != 0) = false from rfl, cond_false]
    refine Ok.ite (fun hc => ?_) (fun hc => ?_)
    · exact Ok.some (by rw [hc]; rfl)
    · rw [hc]
      have hl2 := of_decide_eq_false hc
      simp only [cond_false]
      refine Ok.mono (Ok.roundsD (P := fun (v : V2) x => x = bif first ((r.Posts.map (ePost r.Spots)).drop v.1.2.1.toNat) != 0 then first ((r.Posts.map (ePost r.Spots)).drop v.1.2.1.toNat) else bif eSpans r.Water r.Spots (-400) 400 != 0 then eSpans r.Water r.Spots (-400) 400 else eChills r.Chills) (fun v : V2 => 0 ≤ v.1.2.1 ∧ v.1.2.1 ≤ r.Posts.length) (fun v : V2 => (r.Posts.length - v.1.2.1).toNat) (FUEL_big (by show ((r.Posts.length : Int) - 0).toNat ≤ _; omega)) ⟨by decide, by simp⟩ ?_) (fun x h => by simpa using h)
      rintro ⟨⟨u1, i, u2⟩, u3⟩ kn ⟨h0, h1⟩ hk
      simp only at h0 h1 hk ⊢
      unfold pCheck_L15
      refine Ok.ite (fun hc => ?_) (fun hc => ?_)
      · have hi := of_decide_eq_true hc
        refine Ok.chk (ib h0 hi) (Ok.beq (post_sp _ _ hs (hf.1 _ (getD_mem (by omega)))) ?_)
        rw [first_drop (d := dfltPost) (show i.toNat < r.Posts.length by omega)]
        refine Ok.ite (fun h => ?_) (fun h => ?_)
        · exact Ok.some (by rw [h]; simp only [cond_true]; rw [h]; rfl)
        · have e1 : w64 (i + 1) = i + 1 := w64_id (by omega) (by omega)
          have := hk ((u1, i + 1, u2), u3) ⟨by simp only; omega, by simp only; omega⟩ (by simp only; omega)
          simp only [toNat_succ h0] at this
          rw [e1, h]; exact this
      · have := of_decide_eq_false hc
        rw [first_end (by omega)]
        simp only [show ((0:Int) != 0) = false from rfl, cond_false]
        refine Ok.beq (faults_sp _ _ _ _ hf.2.2.2.1) ?_
        refine Ok.ite (fun hc => ?_) (fun hc => ?_)
        · exact Ok.some (by rw [hc]; rfl)
        · rw [hc, chills_sp]
          exact Ok.some rfl
end Go.Proofs.Rescue07
namespace Go.Proofs.Rescue07
open Go Go.Ab Go.Ways
set_option linter.all false
theorem bz {k x : Int} {b : Bool} (hk : k ≠ 0) : (bif b then k else x) = 0 ↔ b = false ∧ x = 0 := by cases b <;> simp [hk]
theorem bnz {x y : Int} : (bif x != 0 then x else y) = 0 ↔ x = 0 ∧ y = 0 := by
  by_cases h : x = 0
  · subst h; simp
  · have : (x != 0) = true := by simpa using h
    rw [this]; simp [h]
def SpIn (x : Span) (lo hi : Int) : Prop := lo ≤ x.Lo ∧ x.Lo ≤ x.Hi ∧ x.Hi ≤ hi
theorem eSpan_zero {x : Span} {lo hi : Int} : eSpan x lo hi = 0 ↔ SpIn x lo hi := by
  unfold eSpan SpIn
  rw [bz (by decide), bz (by decide)]
  simp only [Bool.or_eq_false_iff, Bool.not_eq_false', inR_iff, decide_eq_false_iff_not]
  constructor
  · rintro ⟨⟨h1, h2⟩, h3, _⟩; omega
  · rintro ⟨h1, h2, h3⟩; exact ⟨⟨by omega, by omega⟩, by omega, trivial⟩
def SpsIn (l : List Span) (many lo hi : Int) : Prop := (l.length : Int) = many ∧ ∀ x ∈ l, SpIn x lo hi
theorem eSpans_zero {l : List Span} {many lo hi : Int} : eSpans l many lo hi = 0 ↔ SpsIn l many lo hi := by
  unfold eSpans SpsIn
  rw [bz (by decide), first_zero]
  simp only [List.mem_map, forall_exists_index, and_imp, forall_apply_eq_imp_iff₂, eSpan_zero, bne_eq_false_iff_eq]
structure PathV (n : Int) (p : Path) : Prop where
  a0 : 0 ≤ p.A
  a1 : p.A < n
  b0 : 0 ≤ p.B
  b1 : p.B < n
  ne : p.A ≠ p.B
  time : SpIn p.Time 0 5000
  open_ : 1 ≤ p.Open ∧ p.Open ≤ 3
structure PostV (n : Int) (p : Post) : Prop where
  spot : 0 ≤ p.Spot ∧ p.Spot < n
  ready : SpIn p.Ready 0 5000
  from_ : 0 ≤ p.From ∧ p.From ≤ 1439
  to_ : 0 ≤ p.To ∧ p.To ≤ 1439
  flies : 0 ≤ p.Flies ∧ p.Flies ≤ 3
  air : SpsIn p.Air (if p.Flies = 0 then 0 else n) 0 5000
structure ChillV (l : List Chill) : Prop where
  len : 1 ≤ l.length ∧ l.length ≤ 20
  warm : ∀ i, i < l.length → -400 ≤ (l.getD i dfltChill).Warm ∧ (l.getD i dfltChill).Warm ≤ 400
  head : (l.getD 0 dfltChill).Warm = -400
  up : ∀ i, 0 < i → i < l.length → (l.getD (i - 1) dfltChill).Warm < (l.getD i dfltChill).Warm
  min : ∀ i, i < l.length → SpIn (l.getD i dfltChill).Minutes 0 5000
  upm : ∀ i, 0 < i → i < l.length → (l.getD (i - 1) dfltChill).Minutes.Lo ≤ (l.getD i dfltChill).Minutes.Lo ∧ (l.getD (i - 1) dfltChill).Minutes.Hi ≤ (l.getD i dfltChill).Minutes.Hi
structure RV (r : Rescue) : Prop where
  spots : 1 ≤ r.Spots ∧ r.Spots ≤ 40
  nPaths : r.Paths.length ≤ 120
  paths : ∀ p ∈ r.Paths, PathV r.Spots p
  nPosts : r.Posts.length ≤ 12
  posts : ∀ p ∈ r.Posts, PostV r.Spots p
  water : SpsIn r.Water r.Spots (-400) 400
  chills : ChillV r.Chills
theorem ePath_zero {n : Int} {p : Path} : ePath n p = 0 ↔ PathV n p := by
  unfold ePath
  rw [bz (by decide), bz (by decide), bnz, bz (by decide), eSpan_zero]
  simp only [Bool.or_eq_false_iff, Bool.not_eq_false', inR_iff, beq_eq_false_iff_ne]
  constructor
  · rintro ⟨⟨h1, h2⟩, h3, h4, h5, _⟩
    exact ⟨h1.1, by omega, h2.1, by omega, h3, h4, h5⟩
  · rintro ⟨h1, h2, h3, h4, h5, h6, h7⟩
    exact ⟨⟨⟨h1, by omega⟩, ⟨h3, by omega⟩⟩, h5, h6, h7, trivial⟩
theorem ePost_zero {n : Int} {p : Post} : ePost n p = 0 ↔ PostV n p := by
  unfold ePost
  rw [bz (by decide), bnz, bz (by decide), eSpan_zero]
  simp only [Bool.or_eq_false_iff, Bool.not_eq_false', inR_iff]
  constructor
  · rintro ⟨h1, h2, ⟨h3, h4⟩, h5⟩
    by_cases hf : p.Flies = 0
    · rw [show (p.Flies == 0) = true by simpa using hf, cond_true, eSpans_zero] at h5
      exact ⟨⟨h1.1, by omega⟩, h2, h3, h4, by omega, by rw [if_pos hf]; exact h5⟩
    · rw [show (p.Flies == 0) = false by simpa using hf, cond_false, bz (by decide), eSpans_zero, Bool.not_eq_false', inR_iff] at h5
      exact ⟨⟨h1.1, by omega⟩, h2, h3, h4, by omega, by rw [if_neg hf]; exact h5.2⟩
  · rintro ⟨h1, h2, h3, h4, h5, h6⟩
    refine ⟨⟨h1.1, by omega⟩, h2, ⟨h3, h4⟩, ?_⟩
    by_cases hf : p.Flies = 0
    · rw [show (p.Flies == 0) = true by simpa using hf, cond_true, eSpans_zero]
      rw [if_pos hf] at h6; exact h6
    · rw [show (p.Flies == 0) = false by simpa using hf, cond_false, bz (by decide), eSpans_zero, Bool.not_eq_false', inR_iff]
      rw [if_neg hf] at h6; exact ⟨by omega, h6⟩
theorem eChill_zero {l : List Chill} {i : Nat} : eChill l i = 0 ↔ (-400 ≤ (l.getD i dfltChill).Warm ∧ (l.getD i dfltChill).Warm ≤ 400) ∧ (if i = 0 then (l.getD i dfltChill).Warm = -400 else (l.getD (i - 1) dfltChill).Warm < (l.getD i dfltChill).Warm) ∧ SpIn (l.getD i dfltChill).Minutes 0 5000 ∧ (0 < i → (l.getD (i - 1) dfltChill).Minutes.Lo ≤ (l.getD i dfltChill).Minutes.Lo ∧ (l.getD (i - 1) dfltChill).Minutes.Hi ≤ (l.getD i dfltChill).Minutes.Hi) := by
  unfold eChill
  rw [bz (by decide), bz (by decide), bnz, bz (by decide), eSpan_zero, Bool.not_eq_false', inR_iff]
  by_cases h : i = 0
  · subst h
    simp only [decide_true, cond_true, if_true, bne_eq_false_iff_eq, Bool.not_true, Bool.false_and, Nat.lt_irrefl, false_implies, true_and]
  · have h' : 0 < i := by omega
    simp only [h, h', decide_false, cond_false, if_false, decide_eq_false_iff_not, Bool.not_false, Bool.true_and, Bool.or_eq_false_iff, true_implies, and_true, Int.not_le, Int.not_lt]
theorem eChills_zero {l : List Chill} : eChills l = 0 ↔ ChillV l := by
  unfold eChills
  rw [bz (by decide), bz (by decide), first_zero]
  simp only [List.mem_map, List.mem_range, forall_exists_index, and_imp, forall_apply_eq_imp_iff₂, eChill_zero, beq_eq_false_iff_ne, decide_eq_false_iff_not]
  constructor
  · rintro ⟨h1, h2, h3⟩
    have h0 : 0 < l.length := by omega
    refine ⟨⟨by omega, by omega⟩, fun i hi => (h3 i hi).1, ?_, fun i h hi => ?_, fun i hi => (h3 i hi).2.2.1, fun i h hi => (h3 i hi).2.2.2 h⟩
    · have := (h3 0 h0).2.1; rw [if_pos rfl] at this; exact this
    · have := (h3 i hi).2.1; rw [if_neg (by omega)] at this; exact this
  · rintro ⟨h1, h2, h3, h4, h5, h6⟩
    refine ⟨by omega, by omega, fun i hi => ⟨h2 i hi, ?_, h5 i hi, fun h => h6 i h hi⟩⟩
    split
    · rename_i h; subst h; exact h3
    · exact h4 i (by omega) hi
theorem eR_zero {r : Rescue} : eR r = 0 ↔ RV r := by
  unfold eR
  rw [bz (by decide), bz (by decide), bnz, bz (by decide), bnz, bnz, eSpans_zero, eChills_zero, first_zero, first_zero]
  simp only [List.mem_map, forall_exists_index, and_imp, forall_apply_eq_imp_iff₂, ePath_zero, ePost_zero, Bool.not_eq_false', inR_iff, decide_eq_false_iff_not]
  constructor
  · rintro ⟨h1, h2, h3, h4, h5, h6, h7⟩
    exact ⟨h1, by omega, h3, by omega, h5, h6, h7⟩
  · rintro ⟨h1, h2, h3, h4, h5, h6, h7⟩
    exact ⟨h1, by omega, h3, by omega, h5, h6, h7⟩
theorem RV.few {r : Rescue} (h : RV r) : Few r := by
  refine ⟨fun p hp => ?_, by have := h.nPaths; omega, by have := h.nPosts; omega, ?_, by have := h.chills.len; omega⟩
  · have h1 := (h.posts p hp).air.1
    have h2 := h.spots
    split at h1 <;> omega
  · have := h.water.1; have := h.spots; omega
def legsOf (ps : List Path) (lo : Bool) : List Leg := ps.map fun p => (p.A, p.B, bif lo then p.Time.Lo else p.Time.Hi, bif lo then p.Open != 2 else p.Open == 1)
def distL (r : Rescue) (s : Int) (lo : Bool) : List Int := bf r.Spots.toNat 1000000 (legsOf r.Paths lo) s
theorem legs_mem {r : Rescue} (hv : RV r) (lo : Bool) : ∀ e ∈ legsOf r.Paths lo, LegIn r.Spots.toNat 5000 e := fun e he => by
  simp only [legsOf, List.mem_map] at he
  obtain ⟨p, hp, rfl⟩ := he
  obtain ⟨a0, a1, b0, b1, _, ⟨t0, t1, t2⟩, _⟩ := hv.paths p hp
  unfold LegIn
  cases lo <;> simp only [cond_true, cond_false] <;> omega
theorem map_take_succ {α β : Type} (f : α → β) {l : List α} {i : Nat} {d : α} (h : i < l.length) : (l.take (i + 1)).map f = (l.take i).map f ++ [f (l.getD i d)] := by
  rw [List.take_succ, List.getElem?_eq_getElem h, List.map_append, List.getD_eq_getElem?_getD, List.getElem?_eq_getElem h]; rfl
theorem map_take_all {α β : Type} (f : α → β) {l : List α} {i : Nat} (h : l.length ≤ i) : (l.take i).map f = l.map f := by rw [List.take_of_length_le h]
end Go.Proofs.Rescue07
namespace Go.Proofs.Rescue07
open Go Go.Ab Go.Ways
set_option linter.all false
def keysM (m : List (Int × Int)) : List Int := m.map (·.1)
def sumM : List (Int × Int) → Int
  | [] => 0
  | p :: m => p.2 + sumM m
theorem mFind_none : ∀ {m : List (Int × Int)} {k : Int}, mFind m k = none ↔ k ∉ keysM m
  | [], k => by simp [mFind, keysM]
  | p :: m, k => by
    have ih := mFind_none (m := m) (k := k)
    simp only [mFind, keysM, List.map_cons, List.mem_cons, not_or] at ih ⊢
    by_cases h : p.1 = k
    · simp [h]
    · have h' : ¬ k = p.1 := fun e => h e.symm
      simp only [h, decide_false, cond_false, ih, h', not_false_eq_true, true_and]
theorem keys_old : ∀ {m : List (Int × Int)} {k : Int} (x : Int), k ∈ keysM m → keysM (mSet m k x) = keysM m
  | [], k, x, h => by simp [keysM] at h
  | p :: m, k, x, h => by
    simp only [mSet]
    by_cases hp : p.1 = k
    · simp [hp, keysM]
    · simp only [hp, decide_false, cond_false]
      have h2 : k ∈ keysM m := by
        simp only [keysM, List.map_cons, List.mem_cons] at h
        rcases h with h | h
        · exact absurd h.symm hp
        · exact h
      have ih := keys_old x h2
      simp only [keysM, List.map_cons] at ih ⊢
      rw [ih]
theorem keys_new : ∀ {m : List (Int × Int)} {k : Int} (x : Int), k ∉ keysM m → keysM (mSet m k x) = keysM m ++ [k]
  | [], k, x, h => by simp [mSet, keysM]
  | p :: m, k, x, h => by
    simp only [keysM, List.map_cons, List.mem_cons, not_or] at h
    have hp : ¬ p.1 = k := fun e => h.1 e.symm
    have ih := keys_new x (show k ∉ keysM m from h.2)
    simp only [mSet, hp, decide_false, cond_false]
    simp only [keysM, List.map_cons] at ih ⊢
    rw [ih]; rfl
theorem len_keys (l : List (Int × Int)) : (keysM l).length = l.length := by simp [keysM]
theorem len_old {m : List (Int × Int)} {k : Int} (x : Int) (h : k ∈ keysM m) : (mSet m k x).length = m.length := by rw [← len_keys, keys_old x h, len_keys]
theorem len_new {m : List (Int × Int)} {k : Int} (x : Int) (h : k ∉ keysM m) : (mSet m k x).length = m.length + 1 := by rw [← len_keys, keys_new x h, List.length_append, len_keys]; rfl
theorem sum_set : ∀ (m : List (Int × Int)) (k x : Int), sumM (mSet m k x) = sumM m + x - (mFind m k).getD 0
  | [], k, x => by simp [mSet, sumM, mFind]
  | p :: m, k, x => by
    have ih := sum_set m k x
    simp only [mSet, mFind]
    by_cases h : p.1 = k
    · simp only [h, decide_true, cond_true, sumM, Option.getD_some]; omega
    · simp only [h, decide_false, cond_false, sumM, ih]; omega
structure MOk (E : Edges) (s : Int) (n : Nat) (m : List (Int × Int)) : Prop where
  nodup : (keysM m).Nodup
  inside : ∀ v ∈ keysM m, 0 ≤ v ∧ v < (n : Int)
  way : ∀ v x, mFind m v = some x → Walk E s v x ∧ x ≤ 5000 * ((m.length : Int) - 1)
  s0 : mFind m s = some 0
def mu (m : List (Int × Int)) : Int := (40 - (m.length : Int)) * 1000000 + sumM m
section
variable {E : Edges} {s : Int} {n : Nat} {m : List (Int × Int)}
theorem MOk.len (h : MOk E s n m) : m.length ≤ n := by
  have := few n (keysM m) h.nodup h.inside
  simpa [keysM] using this
theorem sum_pos : ∀ {m : List (Int × Int)}, (∀ p ∈ m, 0 ≤ p.2) → 0 ≤ sumM m
  | [], _ => Int.le_refl _
  | p :: m, h => by
    have h1 := h p (List.mem_cons_self ..)
    have h2 := sum_pos (m := m) fun q hq => h q (List.mem_cons_of_mem _ hq)
    simp only [sumM]; omega
theorem find_mem : ∀ {m : List (Int × Int)}, (keysM m).Nodup → ∀ p ∈ m, mFind m p.1 = some p.2
  | q :: m, hd, p, hp => by
    simp only [keysM, List.map_cons, List.nodup_cons] at hd
    simp only [mFind]
    rcases List.mem_cons.1 hp with rfl | hp
    · simp
    · have : ¬ q.1 = p.1 := fun e => hd.1 (by rw [e]; exact List.mem_map_of_mem hp)
      simp only [this, decide_false, cond_false]
      exact find_mem hd.2 p hp
theorem MOk.sum (hg : GoodE E n 5000) (h : MOk E s n m) : 0 ≤ sumM m := sum_pos fun p hp => (h.way _ _ (find_mem h.nodup p hp)).1.nonneg hg
theorem MOk.mu (hg : GoodE E n 5000) (hn : n ≤ 40) (h : MOk E s n m) : 0 ≤ mu m := by
  have h1 := h.len
  have h2 := h.sum hg
  unfold Rescue07.mu
  have : 0 ≤ (40 - (m.length : Int)) * 1000000 := Int.mul_nonneg (by omega) (by decide)
  omega
theorem MOk.set (hg : GoodE E n 5000) (hn : n ≤ 40) (h : MOk E s n m) {a b t x : Int} (he : E a b t) (ha : mFind m a = some x) (hb : mFind m b = none ∨ ∃ y, mFind m b = some y ∧ x + t < y) : MOk E s n (mSet m b (x + t)) ∧ Rescue07.mu (mSet m b (x + t)) < Rescue07.mu m := by
  have hin := hg _ _ _ he
  obtain ⟨hw, hx⟩ := h.way _ _ ha
  have hx0 := hw.nonneg hg
  have hwb : Walk E s b (x + t) := .step hw he
  rcases hb with hb | ⟨y, hb, hy⟩
  · have hk := mFind_none.1 hb
    have hl : (mSet m b (x + t)).length = m.length + 1 := len_new _ hk
    have hM : MOk E s n (mSet m b (x + t)) := by
      refine ⟨?_, ?_, fun v z hz => ?_, ?_⟩
      · rw [keys_new _ hk, List.nodup_append]
        refine ⟨h.nodup, by simp, fun u hu v hv e => ?_⟩
        rw [List.mem_singleton.1 hv] at e; subst e; exact hk hu
      · rw [keys_new _ hk]
        intro v hv
        rcases List.mem_append.1 hv with hv | hv
        · exact h.inside v hv
        · rw [List.mem_singleton.1 hv]; omega
      · rw [mFind_set] at hz
        rw [hl]
        split at hz
        · rename_i e; subst e
          cases hz
          exact ⟨hwb, by push_cast; omega⟩
        · have := h.way v z hz
          exact ⟨this.1, by push_cast; omega⟩
      · rw [mFind_set, if_neg (fun e => by subst e; rw [h.s0] at hb; cases hb)]; exact h.s0
    refine ⟨hM, ?_⟩
    have h1 := hM.len
    rw [hl] at h1
    unfold Rescue07.mu
    rw [hl, sum_set, hb]
    simp only [Option.getD_none]
    push_cast
    omega
  · have hk : b ∈ keysM m := by
      refine Classical.byContradiction fun hk => ?_
      rw [mFind_none.2 hk] at hb; cases hb
    have hl : (mSet m b (x + t)).length = m.length := len_old _ hk
    have hyb := h.way _ _ hb
    refine ⟨⟨?_, ?_, fun v z hz => ?_, ?_⟩, ?_⟩
    · rw [keys_old _ hk]; exact h.nodup
    · rw [keys_old _ hk]; exact h.inside
    · rw [mFind_set] at hz
      rw [hl]
      split at hz
      · rename_i e; subst e
        cases hz
        exact ⟨hwb, by omega⟩
      · exact h.way v z hz
    · rw [mFind_set, if_neg (fun e => by
        subst e; rw [h.s0] at hb; cases hb
        have := hwb.nonneg hg; omega)]
      exact h.s0
    · unfold Rescue07.mu
      rw [hl, sum_set, hb]
      simp only [Option.getD_some]
      omega
def Half (m : List (Int × Int)) (a b t : Int) : Prop := ∀ x, mFind m a = some x → ∃ y, mFind m b = some y ∧ y ≤ x + t
def Stb (m : List (Int × Int)) (e : Leg) : Prop := e.2.2.2 = true → Half m e.1 e.2.1 e.2.2.1 ∧ Half m e.2.1 e.1 e.2.2.1
theorem leg_step {α : Type} {P : α → Prop} {F : List (Int × Int) → Bool → Option α} {a b t : Int} {more : Bool} (hg : GoodE E n 5000) (hn : n ≤ 40) (h : MOk E s n m) (he : E a b t)
    (h1 : ∀ m', MOk E s n m' → Rescue07.mu m' < Rescue07.mu m → Ok P (F m' true)) (h2 : Half m a b t → Ok P (F m more)) :
    Ok P (bif mHas m a then (bif !(mHas m b) then F (mSet m b (w64 (mGet m a + t))) true else bif decide (w64 (mGet m a + t) < mGet m b) then F (mSet m b (w64 (mGet m a + t))) true else F m more) else F m more) := by
  have hin := hg _ _ _ he
  unfold mHas mGet
  cases ha : mFind m a with
  | none => exact h2 fun x hx => by rw [ha] at hx; cases hx
  | some x =>
    obtain ⟨hw, hx⟩ := h.way _ _ ha
    have hx0 := hw.nonneg hg
    have hlen := h.len
    have e1 : w64 (x + t) = x + t := w64_id (by omega) (by omega)
    simp only [Option.isSome_some, Option.getD_some, cond_true, e1]
    cases hb : mFind m b with
    | none =>
      obtain ⟨k1, k2⟩ := h.set hg hn he ha (.inl hb)
      exact h1 _ k1 k2
    | some y =>
      simp only [Option.isSome_some, Option.getD_some, Bool.not_true, cond_false]
      refine Ok.ite (fun hc => ?_) (fun hc => ?_)
      · obtain ⟨k1, k2⟩ := h.set hg hn he ha (.inr ⟨y, hb, of_decide_eq_true hc⟩)
        exact h1 _ k1 k2
      · refine h2 fun x' hx' => ?_
        rw [ha] at hx'; cases hx'
        exact ⟨y, hb, by have := of_decide_eq_false hc; omega⟩
theorem MOk.dist (hg : GoodE E n 5000) (hn : n ≤ 40) (h : MOk E s n m) (hst : ∀ u v t, E u v t → Half m u v t) : IsDist E s n 1000000 (fun v => (mFind m v).getD 1000000) := by
  have hlen := h.len
  have hlow : ∀ v d, Walk E s v d → ∃ y, mFind m v = some y ∧ y ≤ d := fun v d hw => by
    induction hw with
    | nil => exact ⟨0, h.s0, by omega⟩
    | step _ he ih =>
      obtain ⟨y, h1, h2⟩ := ih
      obtain ⟨z, h3, h4⟩ := hst _ _ _ he y h1
      exact ⟨z, h3, by omega⟩
  refine ⟨fun v _ _ => ?_, fun v _ _ => ?_, fun v d hw => ?_⟩
  · cases hv : mFind m v with
    | none => simp
    | some y => have := (h.way v y hv).2; simp only [Option.getD_some]; omega
  · cases hv : mFind m v with
    | none => exact .inl rfl
    | some y => exact .inr (h.way v y hv).1
  · obtain ⟨y, h1, h2⟩ := hlow v d hw
    rw [h1]; exact h2
end
abbrev M3 := (Unit × List (Int × Int) × Bool × Unit) × Unit
abbrev M6 := (Unit × List (Int × Int) × Bool × Int × Unit) × Unit
theorem may_sp (e v : Int) : may e v = some (bif e == 0 then v != 2 else v == 1) := by rw [may_eq]; unfold may'; cases (e == 0) <;> rfl
theorem endsOf_sp (x : Span) : endsOf x = some ⟨x.Lo, x.Hi⟩ := by rw [endsOf_eq]; rfl
theorem spanE_sp (x : Pair) : spanE x = some ⟨x.a, x.b⟩ := by rw [spanE_eq]; rfl
theorem drives_sp {r : Rescue} (hv : RV r) {s : Int} (hs : 0 ≤ s ∧ s < r.Spots) (lo : Bool) : Ok (fun m => ∀ v : Int, 0 ≤ v → v < r.Spots → (mFind m v).getD 1000000 = (distL r s lo).getD v.toNat 0 ∧ ∀ x, mFind m v = some x → 0 ≤ x ∧ x ≤ 195000) (drives r s (bif lo then 0 else 1)) := by
  obtain ⟨n, hn0⟩ : ∃ n, r.Spots.toNat = n := ⟨_, rfl⟩
  have hsp := hv.spots
  have hnp := hv.nPaths
  have hsn : r.Spots = (n : Int) := by omega
  have hn : n ≤ 40 := by omega
  obtain ⟨es, hE⟩ : ∃ es, legsOf r.Paths lo = es := ⟨_, rfl⟩
  have hes : ∀ e ∈ es, LegIn n 5000 e := by rw [← hE, ← hn0]; exact legs_mem hv lo
  have hg : GoodE (EdgesOf es) n 5000 := good_of hes
  have hel : es.length = r.Paths.length := by rw [← hE]; simp [legsOf]
  have hD : distL r s lo = bf n 1000000 es s := by unfold distL; rw [hn0, hE]
  have hs' : 0 ≤ s ∧ s < (n : Int) := by omega
  have fin : ∀ m, MOk (EdgesOf es) s n m → (∀ e ∈ es, Stb m e) → ∀ v : Int, 0 ≤ v → v < r.Spots → (mFind m v).getD 1000000 = (distL r s lo).getD v.toNat 0 ∧ ∀ x, mFind m v = some x → 0 ≤ x ∧ x ≤ 195000 := fun m h hst v h0 h1 => by
    have hlen := h.len
    refine ⟨?_, fun x hx => ?_⟩
    · rw [hD]
      exact (h.dist hg hn (fun u v t he => by
        obtain ⟨e, he, ho, rfl, hab⟩ := he
        obtain ⟨k1, k2⟩ := hst e he ho
        rcases hab with ⟨rfl, rfl⟩ | ⟨rfl, rfl⟩
        · exact k1
        · exact k2)).eq (bf_dist hes hs' (by decide)) h0 (by omega)
    · obtain ⟨h2, h3⟩ := h.way v x hx
      exact ⟨h2.nonneg hg, by omega⟩
  rw [drives_eq]; unfold drives'
  have hM0 : MOk (EdgesOf es) s n (mSet ([] : List (Int × Int)) s 0) := by
    refine ⟨by simp [mSet, keysM], fun v hv => ?_, fun v x hx => ?_, by simp [mSet, mFind]⟩
    · simp only [mSet, keysM, List.map_cons, List.map_nil, List.mem_singleton] at hv; subst hv; exact hs'
    · simp only [mSet, mFind] at hx
      by_cases h : s = v
      · subst h; simp at hx; subst hx; exact ⟨.nil, by simp [mSet]⟩
      · simp [h] at hx
  refine Ok.rounds (fun (v : M3) => MOk (EdgesOf es) s n v.1.2.1 ∧ (v.1.2.2.1 = false → ∀ e ∈ es, Stb v.1.2.1 e)) (fun (v : M3) => (2 * mu v.1.2.1 + (bif v.1.2.2.1 then 1 else 0)).toNat) ?_ ⟨hM0, fun h => by cases h⟩ ?_
  · refine FUEL_big ?_
    simp [mu, mSet, sumM]
  rintro ⟨⟨u1, m0, more0, u2⟩, u3⟩ kn ⟨hm0, hst0⟩ hk
  simp only at hm0 hst0 hk ⊢
  have hmu0 := hm0.mu hg hn
  unfold drives_L3
  refine Ok.ite (fun hc => ?_) (fun hc => ?_)
  · rw [hc] at hk
    simp only [cond_true] at hk
    let Rnd (i : Nat) (m : List (Int × Int)) (more : Bool) : Prop := MOk (EdgesOf es) s n m ∧ (more = true → mu m < mu m0) ∧ (more = false → m = m0 ∧ ∀ j, j < i → Stb m0 (es.getD j (0, 0, 0, false)))
    refine Ok.rounds (fun (v : M6) => 0 ≤ v.1.2.2.2.1 ∧ v.1.2.2.2.1 ≤ es.length ∧ Rnd v.1.2.2.2.1.toNat v.1.2.1 v.1.2.2.1) (fun (v : M6) => (es.length - v.1.2.2.2.1).toNat) (FUEL_big (by show ((es.length : Int) - 0).toNat ≤ _; omega)) ⟨Int.le_refl _, by simp, hm0, (fun h => by cases h), fun _ => ⟨rfl, fun j hj => by simp at hj⟩⟩ ?_
    rintro ⟨⟨v1, m, more, i, v2⟩, v3⟩ kn2 ⟨i0, i1, hm, hmt, hmf⟩ hk2
    simp only at i0 i1 hm hmt hmf hk2 ⊢
    unfold drives_L6
    refine Ok.ite (fun hc => ?_) (fun hc => ?_)
    · have hi := of_decide_eq_true hc
      have hi' : i.toNat < r.Paths.length := by omega
      have e1 : w64 (i + 1) = i + 1 := w64_id (by omega) (by omega)
      refine Ok.chk (ib i0 hi) (Ok.beq (may_sp _ _) ?_)
      obtain ⟨p, hp⟩ : ∃ p, r.Paths.getD i.toNat dfltPath = p := ⟨_, rfl⟩
      have he : es.getD i.toNat (0, 0, 0, false) = (p.A, p.B, bif lo then p.Time.Lo else p.Time.Hi, bif lo then p.Open != 2 else p.Open == 1) := by
        rw [← hE, ← hp]
        simp [legsOf, List.getD_eq_getElem?_getD, List.getElem?_map, List.getElem?_eq_getElem hi']
      have hmem := getD_mem (d := ((0, 0, 0, false) : Leg)) (show i.toNat < es.length by omega)
      rw [he] at hmem
      rw [hp]
      have hopen : (bif (bif lo then (0:Int) else 1) == 0 then p.Open != 2 else p.Open == 1) = (bif lo then p.Open != 2 else p.Open == 1) := by cases lo <;> rfl
      rw [hopen]
      rw [e1]
      -- what a path leaves
      have next : ∀ m' more', MOk (EdgesOf es) s n m' → (more' = true → mu m' < mu m0) → (more' = false → m' = m0 ∧ (∀ j, j < i.toNat → Stb m0 (es.getD j (0, 0, 0, false))) ∧ Stb m0 (es.getD i.toNat (0, 0, 0, false))) → Ok (fun m => ∀ v : Int, 0 ≤ v → v < r.Spots → (mFind m v).getD 1000000 = (distL r s lo).getD v.toNat 0 ∧ ∀ x, mFind m v = some x → 0 ≤ x ∧ x ≤ 195000) (kn2 ((v1, m', more', i + 1, v2), v3)) := fun m' more' a1 a2 a3 => by
        refine hk2 ((v1, m', more', i + 1, v2), v3) ⟨by simp only; omega, by simp only; omega, a1, a2, fun h => ?_⟩ (by simp only; omega)
        obtain ⟨b1, b2, b3⟩ := a3 h
        refine ⟨b1, fun j hj => ?_⟩
        simp only [toNat_succ i0] at hj
        by_cases hji : j = i.toNat
        · rw [hji]; exact b3
        · exact b2 j (by omega)
      refine Ok.ite (fun hno => ?_) (fun hno => ?_)
      · refine next m more hm hmt fun h => ⟨(hmf h).1, (hmf h).2, fun ho => ?_⟩
        rw [he] at ho
        simp only at ho
        rw [ho] at hno; cases hno
      · have ho : (bif lo then p.Open != 2 else p.Open == 1) = true := by simpa using hno
        rw [ho] at hmem he
        have hed := edge_of hmem rfl
        simp only at hed
        refine Ok.beq (endsOf_sp _) ?_
        -- the two legs of a path
        have rnd : ∀ (G : M6 → (M6 → Option (List (Int × Int))) → Option (List (Int × Int))) (t : Int), (bif lo then p.Time.Lo else p.Time.Hi) = t →
            (∀ v kn3, G v kn3 = bif decide (v.1.2.2.2.1 < 2) then (bif v.1.2.2.2.1 == 0 then (bif mHas v.1.2.1 p.A then (bif !(mHas v.1.2.1 p.B) then kn3 (((), mSet v.1.2.1 p.B (w64 (mGet v.1.2.1 p.A + t)), true, w64 (v.1.2.2.2.1 + 1), ()), ()) else bif decide (w64 (mGet v.1.2.1 p.A + t) < mGet v.1.2.1 p.B) then kn3 (((), mSet v.1.2.1 p.B (w64 (mGet v.1.2.1 p.A + t)), true, w64 (v.1.2.2.2.1 + 1), ()), ()) else kn3 (((), v.1.2.1, v.1.2.2.1, w64 (v.1.2.2.2.1 + 1), ()), ())) else kn3 (((), v.1.2.1, v.1.2.2.1, w64 (v.1.2.2.2.1 + 1), ()), ()))
              else bif v.1.2.2.2.1 == 1 then (bif mHas v.1.2.1 p.B then (bif !(mHas v.1.2.1 p.A) then kn3 (((), mSet v.1.2.1 p.A (w64 (mGet v.1.2.1 p.B + t)), true, w64 (v.1.2.2.2.1 + 1), ()), ()) else bif decide (w64 (mGet v.1.2.1 p.B + t) < mGet v.1.2.1 p.A) then kn3 (((), mSet v.1.2.1 p.A (w64 (mGet v.1.2.1 p.B + t)), true, w64 (v.1.2.2.2.1 + 1), ()), ()) else kn3 (((), v.1.2.1, v.1.2.2.1, w64 (v.1.2.2.2.1 + 1), ()), ())) else kn3 (((), v.1.2.1, v.1.2.2.1, w64 (v.1.2.2.2.1 + 1), ()), ())) else none) else kn2 (((), v.1.2.1, v.1.2.2.1, i + 1, ()), ())) →
            Ok (fun m => ∀ v : Int, 0 ≤ v → v < r.Spots → (mFind m v).getD 1000000 = (distL r s lo).getD v.toNat 0 ∧ ∀ x, mFind m v = some x → 0 ≤ x ∧ x ≤ 195000) (itN M6 G (((), m, more, 0, ()), ())) := fun G t hT hG => by
          rw [hT] at hed he
          refine Ok.rounds (fun (v : M6) => 0 ≤ v.1.2.2.2.1 ∧ v.1.2.2.2.1 ≤ 2 ∧ MOk (EdgesOf es) s n v.1.2.1 ∧ (v.1.2.2.1 = true → mu v.1.2.1 < mu m0) ∧ (v.1.2.2.1 = false → v.1.2.1 = m0 ∧ (∀ j, j < i.toNat → Stb m0 (es.getD j (0, 0, 0, false))) ∧ (1 ≤ v.1.2.2.2.1 → Half m0 p.A p.B t) ∧ (2 ≤ v.1.2.2.2.1 → Half m0 p.B p.A t))) (fun (v : M6) => (2 - v.1.2.2.2.1).toNat) (FUEL_big (by show ((2 : Int) - 0).toNat ≤ _; omega)) ⟨Int.le_refl _, (show (0:Int) ≤ 2 by decide), hm, hmt, fun h => ⟨(hmf h).1, (hmf h).2, (fun h => by simp at h), fun h => by simp at h⟩⟩ ?_
          rintro ⟨⟨w1, m3, more3, q, w2⟩, w3⟩ kn3 ⟨q0, q1, qm, qt, qf⟩ hk3
          simp only at q0 q1 qm qt qf hk3
          rw [hG]
          simp only
          refine Ok.ite (fun hq => ?_) (fun hq => ?_)
          · have hq := of_decide_eq_true hq
            have e2 : w64 (q + 1) = q + 1 := w64_id (by omega) (by omega)
            rw [e2]
            have mlt : ∀ m', mu m' < mu m3 → (more3 = true → mu m3 < mu m0) → mu m' < mu m0 := fun m' h1 h2 => by
              cases hm3 : more3 with
              | true => have := h2 hm3; omega
              | false => rw [(qf hm3).1] at h1; exact h1
            refine Ok.ite (fun hz => ?_) (fun hz => ?_)
            · have hz : q = 0 := by simpa using hz
              subst hz
              refine leg_step (F := fun m' more' => kn3 (((), m', more', (0:Int) + 1, ()), ())) hg hn qm hed.1 (fun m' k1 k2 => ?_) (fun hh => ?_)
              · exact hk3 (((), m', true, (0:Int) + 1, ()), ()) ⟨by simp only; omega, by simp only; omega, k1, fun _ => mlt m' k2 qt, fun h => by cases h⟩ (by simp only; omega)
              · refine hk3 (((), m3, more3, (0:Int) + 1, ()), ()) ⟨by simp only; omega, by simp only; omega, qm, qt, fun h => ?_⟩ (by simp only; omega)
                obtain ⟨a1, a2, _, _⟩ := qf h
                refine ⟨a1, a2, fun _ => by rw [← a1]; exact hh, fun h2 => ?_⟩
                simp only at h2; omega
            · have hz : q = 1 := by
                have : ¬ q = 0 := by simpa using hz
                omega
              subst hz
              rw [show (((1:Int) == 1) = true) from rfl, cond_true]
              refine leg_step (F := fun m' more' => kn3 (((), m', more', (1:Int) + 1, ()), ())) hg hn qm hed.2 (fun m' k1 k2 => ?_) (fun hh => ?_)
              · exact hk3 (((), m', true, (1:Int) + 1, ()), ()) ⟨by simp only; omega, by simp only; omega, k1, fun _ => mlt m' k2 qt, fun h => by cases h⟩ (by simp only; omega)
              · refine hk3 (((), m3, more3, (1:Int) + 1, ()), ()) ⟨by simp only; omega, by simp only; omega, qm, qt, fun h => ?_⟩ (by simp only; omega)
                obtain ⟨a1, a2, a3, _⟩ := qf h
                exact ⟨a1, a2, fun _ => a3 (by omega), fun _ => by rw [← a1]; exact hh⟩
          · have hq := of_decide_eq_false hq
            refine next m3 more3 qm qt fun h => ?_
            obtain ⟨a1, a2, a3, a4⟩ := qf h
            refine ⟨a1, a2, fun _ => ?_⟩
            rw [he]
            exact ⟨a3 (by omega), a4 (by omega)⟩
        cases lo with
        | true =>
          simp only [cond_true, show ((0:Int) == 0) = true from rfl]
          exact rnd _ p.Time.Lo rfl fun v kn3 => by simp only [drives_L11, hp, e1]
        | false =>
          simp only [cond_true, cond_false, show ((1:Int) == 0) = false from rfl, show ((1:Int) == 1) = true from rfl]
          exact rnd _ p.Time.Hi rfl fun v kn3 => by simp only [drives_L11__2, hp, e1]
    · have hi := of_decide_eq_false hc
      have hmu := hm.mu hg hn
      refine hk ((u1, m, more, u2), u3) ⟨hm, fun h e he => ?_⟩ ?_
      · obtain ⟨a1, a2⟩ := hmf h
        simp only
        rw [a1]
        obtain ⟨j, hj, rfl⟩ := List.getElem_of_mem he
        have := a2 j (by omega)
        rw [List.getD_eq_getElem?_getD, List.getElem?_eq_getElem hj] at this
        exact this
      · simp only
        cases hmo : more with
        | true => have := hmt hmo; simp only [cond_true]; omega
        | false => rw [(hmf hmo).1]; simp only [cond_false]; omega
  · exact Ok.some (fin m0 hm0 (hst0 hc))
end Go.Proofs.Rescue07
namespace Go.Proofs.Rescue07
open Go Go.Ab Go.Ways
set_option linter.all false
theorem w01 : w64 ((0:Int) + 1) = 1 := by decide +kernel
theorem w12 : w64 ((1:Int) + 1) = 2 := by decide +kernel
theorem itN3 {R γ : Type} (F : γ → (γ → Option R) → Option R) (v : γ) : itN γ F v = F v (fun v => F v (fun v => F v (iter F 18446744073709551613))) := rfl
theorem dist_bnd {r : Rescue} (hv : RV r) {s : Int} (hs : 0 ≤ s ∧ s < r.Spots) (lo : Bool) {k : Nat} (hk : k < r.Spots.toNat) : 0 ≤ (distL r s lo).getD k 0 ∧ ((distL r s lo).getD k 0 = 1000000 ∨ (distL r s lo).getD k 0 ≤ 195000) := by
  have hsp := hv.spots
  have hs' : 0 ≤ s ∧ s < (r.Spots.toNat : Int) := by omega
  have hd := bf_dist (B := 1000000) (legs_mem hv lo) hs' (by decide)
  have hg := good_of (legs_mem hv lo)
  have h1 := hd.nonneg hg (by decide) (v := (k : Int)) (by omega) (by omega)
  have h2 := hd.small hg (by decide) hs' (v := (k : Int)) (by omega) (by omega)
  unfold gt at h1 h2
  simp only [Int.toNat_natCast] at h1 h2
  refine ⟨h1, ?_⟩
  rcases h2 with h2 | h2
  · exact .inl h2
  · right
    have : (5000:Int) * ((r.Spots.toNat : Int) - 1) ≤ 195000 := by omega
    unfold distL; omega
def loS (r : Rescue) (p : Post) (k : Nat) : Int := bif p.Flies == 0 then (distL r p.Spot true).getD k 0 else (p.Air.getD k dfltSpan).Lo
def hiS (r : Rescue) (p : Post) (k : Nat) : Int := bif p.Flies == 0 then (distL r p.Spot false).getD k 0 else (p.Air.getD k dfltSpan).Hi
def goS (r : Rescue) (p : Post) (k : Nat) : Span := ⟨bif p.Flies == 2 then 1000000 else min 1000000 (p.Ready.Lo + loS r p k), bif p.Flies == 2 || p.Flies == 3 then 1000000 else min 1000000 (p.Ready.Hi + hiS r p k)⟩
def goesS (r : Rescue) (p : Post) : List Span := (List.range r.Spots.toNat).map (goS r p)
theorem air_in {r : Rescue} {p : Post} (hp : PostV r.Spots p) (hf : p.Flies ≠ 0) {k : Nat} (hk : k < r.Spots.toNat) : k < p.Air.length ∧ SpIn (p.Air.getD k dfltSpan) 0 5000 := by
  have h := hp.air
  rw [if_neg hf] at h
  have hl : k < p.Air.length := by have := h.1; omega
  exact ⟨hl, h.2 _ (getD_mem hl)⟩
abbrev VG8 := (Unit × Unit × Unit × Unit × Int × Unit) × ((Unit × Unit × Unit) × (Int × Int × Unit) × Unit)
abbrev VG := (Unit × List Span × Unit × Int × Unit) × ((Unit × Unit × Unit) × Unit)
theorem goes_sp {r : Rescue} (hv : RV r) {p : Post} (hp : PostV r.Spots p) : goes r p = some (goesS r p) := by
  have hsp := hv.spots
  rw [goes_eq]; unfold goes'
  apply ok_eq
  refine Ok.bind (drives_sp hv hp.spot true) fun m1 hm1 => Ok.bind (drives_sp hv hp.spot false) fun m2 hm2 => ?_
  refine Ok.rounds (fun (v : VG) => 0 ≤ v.1.2.2.2.1 ∧ v.1.2.2.2.1 ≤ r.Spots ∧ v.1.2.1 = (List.range v.1.2.2.2.1.toNat).map (goS r p)) (fun (v : VG) => (r.Spots - v.1.2.2.2.1).toNat) (FUEL_big (by show (r.Spots - 0).toNat ≤ _; omega)) ⟨Int.le_refl _, by simp; omega, rfl⟩ ?_
  rintro ⟨⟨v1, out, v2, k, v3⟩, ⟨⟨v4, v5, v6⟩, v7⟩⟩ kn ⟨j0, j1, j2⟩ hk
  simp only at j0 j1 j2 hk ⊢
  unfold goes_L4
  refine Ok.ite (fun hc => ?_) (fun hc => ?_)
  · have hkk := of_decide_eq_true hc
    have hkn : k.toNat < r.Spots.toNat := by omega
    have e1 : w64 (k + 1) = k + 1 := w64_id (by omega) (by omega)
    obtain ⟨r1, r2, r3⟩ := hp.ready
    have b1 := dist_bnd hv hp.spot true hkn
    have b2 := dist_bnd hv hp.spot false hkn
    obtain ⟨c1, c2⟩ := hm1 k j0 hkk
    obtain ⟨d1, d2⟩ := hm2 k j0 hkk
    have hl : out.length ≤ 40 := by rw [j2]; simp; omega
    have hfit : ∀ x : Span, fitA (out.length + ([x] : List Span).length) 16 = true := fun x => fitA_ok (by simp; omega) (by decide)
    have hF : Ok (fun x => x = goesS r p) (kn ((v1, out ++ [goS r p k.toNat], v2, k + 1, v3), ((v4, v5, v6), v7))) := by
      refine hk ((v1, _, v2, k + 1, v3), ((v4, v5, v6), v7)) ⟨by simp only; omega, by simp only; omega, ?_⟩ (by simp only; omega)
      simp only [toNat_succ j0]
      rw [← range_snoc, j2]
    refine Ok.rounds (fun (v : VG8) => (v.1.2.2.2.2.1 = 0 ∧ v.2.2.1.1 = 1000000 ∧ v.2.2.1.2.1 = 1000000) ∨ (v.1.2.2.2.2.1 = 1 ∧ v.2.2.1.1 = (goS r p k.toNat).Lo ∧ v.2.2.1.2.1 = 1000000) ∨ (v.1.2.2.2.2.1 = 2 ∧ v.2.2.1.1 = (goS r p k.toNat).Lo ∧ v.2.2.1.2.1 = (goS r p k.toNat).Hi)) (fun (v : VG8) => (2 - v.1.2.2.2.2.1).toNat) (FUEL_big (by show ((2 : Int) - 0).toNat ≤ _; omega)) (.inl ⟨rfl, rfl, rfl⟩) ?_
    rintro ⟨⟨w1, w2, w3, w4, q, w5⟩, ⟨w6, ⟨x, x2, w7⟩, w8⟩⟩ kn2 hq hk2
    simp only at hq hk2 ⊢
    rcases hq with ⟨rfl, rfl, rfl⟩ | ⟨rfl, rfl, rfl⟩ | ⟨rfl, rfl, rfl⟩
    · have next : ∀ z, z = (goS r p k.toNat).Lo → Ok (fun x => x = goesS r p) (kn2 (((), (), (), (), 1, ()), (((), (), ()), (z, 1000000, ()), ()))) := fun z hz => hk2 _ (.inr (.inl ⟨rfl, hz, rfl⟩)) (by simp only; omega)
      simp only [goes_L8, w01, show decide ((0:Int) < 2) = true from rfl, show ((0:Int) == 0) = true from rfl, cond_true, cond_false, endsOf_sp, may_sp, Option.bind_some]
      by_cases hf : p.Flies = 0
      · have g1 : (p.Flies != 0) = false := by rw [hf]; rfl
        have g2 : (p.Flies == 0) = true := by rw [hf]; rfl
        have g3 : (p.Flies == 2) = false := by rw [hf]; rfl
        simp only [g1, cond_false, mHas, mGet]
        unfold goS loS at next
        simp only [g2, g3, cond_true, cond_false] at next
        cases hf1 : mFind m1 k with
        | none =>
          rw [hf1] at c1
          simp only [Option.getD_none] at c1
          exact next _ (by omega)
        | some y =>
          rw [hf1] at c1
          simp only [Option.getD_some] at c1
          have := c2 y hf1
          simp only [Option.isSome_some, Option.getD_some, cond_true]
          exact next _ (by rw [w64_id (by omega) (by omega)]; omega)
      · have g1 : (p.Flies != 0) = true := by simpa using hf
        have g2 : (p.Flies == 0) = false := by simpa using hf
        obtain ⟨hl2, a1, a2, a3⟩ := air_in hp hf hkn
        have hb : (decide (0 ≤ k) && decide (k < (p.Air.length : Int))) = true := ib j0 (by omega)
        simp only [g1, cond_true, hb, chk]
        unfold goS loS at next
        simp only [g2, cond_false] at next
        refine Ok.ite (fun h => ?_) (fun h => ?_)
        · have h2 : (p.Flies == 2) = false := by simpa using h
          rw [h2] at next
          exact next _ (by rw [w64_id (by omega) (by omega), cond_false]; omega)
        · have h2 : (p.Flies == 2) = true := by simpa using h
          rw [h2] at next
          exact next _ rfl
    · have next : ∀ z, z = (goS r p k.toNat).Hi → Ok (fun x => x = goesS r p) (kn2 (((), (), (), (), 2, ()), (((), (), ()), ((goS r p k.toNat).Lo, z, ()), ()))) := fun z hz => hk2 _ (.inr (.inr ⟨rfl, rfl, hz⟩)) (by simp only; omega)
      simp only [goes_L8, w12, show decide ((1:Int) < 2) = true from rfl, show ((1:Int) == 0) = false from rfl, show ((1:Int) == 1) = true from rfl, cond_true, cond_false, endsOf_sp, may_sp, Option.bind_some]
      by_cases hf : p.Flies = 0
      · have g1 : (p.Flies != 0) = false := by rw [hf]; rfl
        have g2 : (p.Flies == 0) = true := by rw [hf]; rfl
        have g3 : (p.Flies == 2) = false := by rw [hf]; rfl
        have g4 : (p.Flies == 3) = false := by rw [hf]; rfl
        simp only [g1, cond_false, mHas, mGet]
        have hH : (goS r p k.toNat).Hi = min 1000000 (p.Ready.Hi + (distL r p.Spot false).getD k.toNat 0) := by unfold goS hiS; simp only [g2, g3, g4, cond_true, cond_false, Bool.or_false]
        cases hf1 : mFind m2 k with
        | none =>
          rw [hf1] at d1
          simp only [Option.getD_none] at d1
          exact next _ (by rw [hH]; omega)
        | some y =>
          rw [hf1] at d1
          simp only [Option.getD_some] at d1
          have := d2 y hf1
          simp only [Option.isSome_some, Option.getD_some, cond_true]
          exact next _ (by rw [w64_id (by omega) (by omega), hH]; omega)
      · have g1 : (p.Flies != 0) = true := by simpa using hf
        have g2 : (p.Flies == 0) = false := by simpa using hf
        obtain ⟨hl2, a1, a2, a3⟩ := air_in hp hf hkn
        have hb : (decide (0 ≤ k) && decide (k < (p.Air.length : Int))) = true := ib j0 (by omega)
        simp only [g1, cond_true, hb, chk]
        have hfl := hp.flies
        refine Ok.ite (fun h => ?_) (fun h => ?_)
        · have h2 : p.Flies = 1 := by simpa using h
          have hH : (goS r p k.toNat).Hi = min 1000000 (p.Ready.Hi + (p.Air.getD k.toNat dfltSpan).Hi) := by unfold goS hiS; simp only [h2]; rfl
          exact next _ (by rw [w64_id (by omega) (by omega), hH]; omega)
        · have h2 : ¬ p.Flies = 1 := by simpa using h
          have h3 : p.Flies = 2 ∨ p.Flies = 3 := by omega
          have hH : (goS r p k.toNat).Hi = 1000000 := by unfold goS; rcases h3 with h3 | h3 <;> simp only [h3] <;> rfl
          exact next _ hH.symm
    · simp only [goes_L8, show decide ((2:Int) < 2) = false from rfl, cond_false, spanE_sp, Option.bind_some, hfit, chk, cond_true, e1]
      exact hF
  · have hkk := of_decide_eq_false hc
    exact Ok.some (by rw [j2, show k.toNat = r.Spots.toNat by omega]; rfl)
def chillS (l : List Chill) (w : Int) : Span := l.foldl (fun x c => bif decide (c.Warm ≤ w) then c.Minutes else x) (l.getD 0 dfltChill).Minutes
def livesS (r : Rescue) (w : Span) : Span := ⟨(chillS r.Chills w.Lo).Lo, (chillS r.Chills w.Hi).Hi⟩
theorem foldl_take {α β : Type} (f : β → α → β) {l : List α} {i : Nat} {d : α} (h : i < l.length) (x : β) : (l.take (i + 1)).foldl f x = f ((l.take i).foldl f x) (l.getD i d) := by
  rw [List.take_succ, List.getElem?_eq_getElem h, List.foldl_append, List.getD_eq_getElem?_getD, List.getElem?_eq_getElem h]; rfl
theorem fold_Lo (w : Int) : ∀ (l : List Chill) (x : Span), (l.foldl (fun x c => bif decide (c.Warm ≤ w) then c.Minutes else x) x).Lo = l.foldl (fun x c => bif decide (c.Warm ≤ w) then c.Minutes.Lo else x) x.Lo
  | [], _ => rfl
  | c :: l, x => by rw [List.foldl_cons, List.foldl_cons, fold_Lo w l]; cases decide (c.Warm ≤ w) <;> rfl
theorem fold_Hi (w : Int) : ∀ (l : List Chill) (x : Span), (l.foldl (fun x c => bif decide (c.Warm ≤ w) then c.Minutes else x) x).Hi = l.foldl (fun x c => bif decide (c.Warm ≤ w) then c.Minutes.Hi else x) x.Hi
  | [], _ => rfl
  | c :: l, x => by rw [List.foldl_cons, List.foldl_cons, fold_Hi w l]; cases decide (c.Warm ≤ w) <;> rfl
theorem chill_Lo {l : List Chill} (hl : ChillV l) {w : Int} (hw : -400 ≤ w) : l.foldl (fun x c => bif decide (c.Warm ≤ w) then c.Minutes.Lo else x) (0 : Int) = (chillS l w).Lo := by
  unfold chillS
  rw [fold_Lo]
  cases l with
  | nil => have := hl.len; simp at this
  | cons c l =>
    have h := hl.head
    have e : decide (c.Warm ≤ w) = true := decide_eq_true (by simp at h; omega)
    simp [e]
theorem chill_Hi {l : List Chill} (hl : ChillV l) {w : Int} (hw : -400 ≤ w) : l.foldl (fun x c => bif decide (c.Warm ≤ w) then c.Minutes.Hi else x) (0 : Int) = (chillS l w).Hi := by
  unfold chillS
  rw [fold_Hi]
  cases l with
  | nil => have := hl.len; simp at this
  | cons c l =>
    have h := hl.head
    have e : decide (c.Warm ≤ w) = true := decide_eq_true (by simp at h; omega)
    simp [e]
abbrev VL := (Unit × Unit × Unit × Int × Unit) × ((Int × Int × Unit) × Unit)
theorem lives_sp {r : Rescue} (hl : ChillV r.Chills) {w : Span} (hw : SpIn w (-400) 400) : lives r w = some (livesS r w) := by
  obtain ⟨w1, w2, w3⟩ := hw
  have hlen := hl.len
  rw [lives_eq]; unfold lives'
  refine ok_eq (Ok.beq (endsOf_sp _) ?_)
  rw [itN3]
  simp only [lives_L3, show decide ((0:Int) < 2) = true from rfl, show ((0:Int) == 0) = true from rfl, cond_true]
  refine Ok.rounds (fun (v : VL) => 0 ≤ v.1.2.2.2.1 ∧ v.1.2.2.2.1 ≤ r.Chills.length ∧ v.2.1.1 = (r.Chills.take v.1.2.2.2.1.toNat).foldl (fun x c => bif decide (c.Warm ≤ w.Lo) then c.Minutes.Lo else x) (0 : Int) ∧ v.2.1.2.1 = 0) (fun (v : VL) => (r.Chills.length - v.1.2.2.2.1).toNat) (FUEL_big (by show ((r.Chills.length : Int) - 0).toNat ≤ _; omega)) ⟨Int.le_refl _, by simp, rfl, rfl⟩ ?_
  rintro ⟨⟨u1, u2, u3, i, u4⟩, ⟨⟨a, b, u5⟩, u6⟩⟩ kn ⟨i0, i1, i2, i3⟩ hk
  simp only at i0 i1 i2 i3 hk ⊢
  unfold lives_L6
  refine Ok.ite (fun hc => ?_) (fun hc => ?_)
  · have hi := of_decide_eq_true hc
    have e1 : w64 (i + 1) = i + 1 := w64_id (by omega) (by omega)
    have hs := foldl_take (fun (x : Int) (c : Chill) => bif decide (c.Warm ≤ w.Lo) then c.Minutes.Lo else x) (d := dfltChill) (show i.toNat < r.Chills.length by omega) 0
    rw [← i2] at hs
    refine Ok.chk (ib i0 hi) ?_
    simp only [e1, endsOf_sp, Option.bind_some, show ((0:Int) == 0) = true from rfl, cond_true]
    refine Ok.ite (fun hw => ?_) (fun hw => ?_)
    · refine hk ((u1, u2, u3, i + 1, u4), ((_, b, u5), u6)) ⟨by simp only; omega, by simp only; omega, ?_, i3⟩ (by simp only; omega)
      simp only [toNat_succ i0]
      rw [hs, hw]; rfl
    · refine hk ((u1, u2, u3, i + 1, u4), ((a, b, u5), u6)) ⟨by simp only; omega, by simp only; omega, ?_, i3⟩ (by simp only; omega)
      simp only [toNat_succ i0]
      rw [hs, hw]; rfl
  · have hi := of_decide_eq_false hc
    rw [List.take_of_length_le (by omega), chill_Lo hl w1] at i2
    subst i2 i3
    simp only [w01, show decide ((1:Int) < 2) = true from rfl, show ((1:Int) == 0) = false from rfl, show ((1:Int) == 1) = true from rfl, cond_true, cond_false]
    refine Ok.rounds (fun (v : VL) => 0 ≤ v.1.2.2.2.1 ∧ v.1.2.2.2.1 ≤ r.Chills.length ∧ v.2.1.2.1 = (r.Chills.take v.1.2.2.2.1.toNat).foldl (fun x c => bif decide (c.Warm ≤ w.Hi) then c.Minutes.Hi else x) (0 : Int) ∧ v.2.1.1 = (chillS r.Chills w.Lo).Lo) (fun (v : VL) => (r.Chills.length - v.1.2.2.2.1).toNat) (FUEL_big (by show ((r.Chills.length : Int) - 0).toNat ≤ _; omega)) ⟨Int.le_refl _, by simp, rfl, rfl⟩ ?_
    rintro ⟨⟨u1, u2, u3, i, u4⟩, ⟨⟨a, b, u5⟩, u6⟩⟩ kn ⟨i0, i1, i2, i3⟩ hk
    simp only at i0 i1 i2 i3 hk ⊢
    unfold lives_L6__2
    refine Ok.ite (fun hc => ?_) (fun hc => ?_)
    · have hi := of_decide_eq_true hc
      have e1 : w64 (i + 1) = i + 1 := w64_id (by omega) (by omega)
      have hs := foldl_take (fun (x : Int) (c : Chill) => bif decide (c.Warm ≤ w.Hi) then c.Minutes.Hi else x) (d := dfltChill) (show i.toNat < r.Chills.length by omega) 0
      rw [← i2] at hs
      refine Ok.chk (ib i0 hi) ?_
      simp only [e1, endsOf_sp, Option.bind_some, show ((1:Int) == 0) = false from rfl, show ((1:Int) == 1) = true from rfl, cond_true, cond_false]
      refine Ok.ite (fun hw => ?_) (fun hw => ?_)
      · refine hk ((u1, u2, u3, i + 1, u4), ((a, _, u5), u6)) ⟨by simp only; omega, by simp only; omega, ?_, i3⟩ (by simp only; omega)
        simp only [toNat_succ i0]
        rw [hs, hw]; rfl
      · refine hk ((u1, u2, u3, i + 1, u4), ((a, b, u5), u6)) ⟨by simp only; omega, by simp only; omega, ?_, i3⟩ (by simp only; omega)
        simp only [toNat_succ i0]
        rw [hs, hw]; rfl
    · have hi := of_decide_eq_false hc
      rw [List.take_of_length_le (by omega), chill_Hi hl (by omega)] at i2
      subst i2 i3
      simp only [w12, show decide ((2:Int) < 2) = false from rfl, cond_false]
      refine Ok.beq (spanE_sp _) (Ok.some rfl)
end Go.Proofs.Rescue07
