/- States written in short, and loops over them. -/
import Derived.Test.YtafnhieaeejlcaaDoorAb8
set_option linter.all false
namespace Go.Ab
open Go Go.RowKit

def look {α : Type} (e : α) : List (Nat × α) → Nat → α
  | [], _ => e
  | (i, a) :: l, j => bif Nat.beq j i then a else look e l j
def lookF (h : Nat → Nat) : List (Nat × Nat) → Nat → Nat
  | [], j => h j
  | (i, a) :: l, j => bif Nat.beq j i then a else lookF h l j

/-- A state by what is known of it: slots, ages, what is owned. -/
def mk (rs : List (Nat × D)) (gs : List (Nat × Nat)) (os : List (Nat × Own)) (h : Nat → Nat) : St := ⟨look .undef rs, lookF h gs, look .none os⟩

def AllE {α : Type} (f : Nat → α) : List (Nat × α) → Prop
  | [] => True
  | (i, a) :: l => f i = a ∧ AllE f l

theorem look_ok {α : Type} {f : Nat → α} {e : α} : ∀ {l : List (Nat × α)}, AllE f l → ∀ j, look e l j = e ∨ look e l j = f j
  | [], _, _ => .inl rfl
  | (i, a) :: l, h, j => by
    unfold look
    cases hb : Nat.beq j i with
    | true => have := Nat.eq_of_beq_eq_true hb; subst this; exact .inr h.1.symm
    | false => exact look_ok h.2 j
theorem lookF_le {f h : Nat → Nat} (hf : ∀ s, f s ≤ h s) : ∀ {l : List (Nat × Nat)}, AllE f l → ∀ j, f j ≤ lookF h l j
  | [], _, j => hf j
  | (i, a) :: l, hl, j => by
    unfold lookF
    cases hb : Nat.beq j i with
    | true => have := Nat.eq_of_beq_eq_true hb; subst this; exact Nat.le_of_eq hl.1
    | false => exact lookF_le hf hl.2 j

def Match (S : St) (rs : List (Nat × D)) (gs : List (Nat × Nat)) (os : List (Nat × Own)) : Prop := AllE S.ρ rs ∧ AllE S.γ gs ∧ AllE S.σ os

section
variable {X : Ctx} {Q : Exit → St → Prop} {S : St}
theorem wk_gen {S' : St} (h1 : ∀ i, S'.ρ i = .undef ∨ S'.ρ i = S.ρ i) (h2 : ∀ s, S.γ s ≤ S'.γ s) (h3 : ∀ s, S'.σ s = .none ∨ S'.σ s = S.σ s) : Wk X S S' := fun κ sv a w hs => by
  have hle : Le κ κ S.γ S'.γ sv sv := ⟨fun _ _ _ h => h, h2, fun _ _ => rfl⟩
  refine ⟨κ, sv, ⟨hs.size, hs.defers, fun i hi => ?_, ?_⟩⟩
  · rcases h1 i with h | h
    · rw [h]; exact .undef _
    · rw [h]; exact (hs.slot i hi).mono hle
  · obtain ⟨w1, w2, w3, w4, w5, ⟨M, w6, w6'⟩, w7, w8, w9, w10, w11, w12, w13, w14⟩ := hs.wld
    have hb : ∀ t b, blk (S'.σ t) (sv t) = some b → blk (S.σ t) (sv t) = some b := by
      intro t b h
      rcases h3 t with e | e
      · rw [e] at h; cases h
      · rw [← e]; exact h
    refine ⟨w1, fun s => ?_, fun s t b hs' ht => w3 s t b (hb s b hs') (hb t b ht), fun s b o h => w4 s b o (hb s b h), fun s b h => w5 s b (hb s b h), ⟨M, w6, fun s b h => w6' s b (hb s b h)⟩, fun g l hg => ?_, w8, fun b hb' => ?_, w10, w11.trans hle, w12, fun s b h => w13 s b (hb s b h), w14⟩
    · rcases h3 s with e | e
      · rw [e]; trivial
      · rw [e]; exact owns_mono hle rfl (fun _ _ => rfl) (w2 s)
    · obtain ⟨hc, u, hu, hk⟩ := w7 g l hg
      exact ⟨hc, u, hu.mono hle, hk⟩
    · obtain ⟨e1, e2⟩ := w9 b hb'
      have := h2 0
      exact ⟨by omega, fun e => e2 (by omega)⟩

theorem wk_mk {rs : List (Nat × D)} {gs : List (Nat × Nat)} {os : List (Nat × Own)} (h : Match S rs gs os) : Wk X S (mk rs gs os S.γ) :=
  wk_gen (look_ok h.1) (lookF_le (fun _ => Nat.le_refl _) h.2.1) (look_ok h.2.2)

/-- A loop whose states are written in short. -/
theorem W_loopM {c : Code} {α : Type} (rs : α → List (Nat × D)) (gs : α → List (Nat × Nat)) (os : α → List (Nat × Own)) (inv : α → Prop) (μ : α → Nat) (x0 : α) (h0 : inv x0) (hs : Match S (rs x0) (gs x0) (os x0))
    (round : ∀ x h, inv x → W X c (thenQ (fun S' => ∃ x', inv x' ∧ μ x' < μ x ∧ Match S' (rs x') (gs x') (os x')) Q) (mk (rs x) (gs x) (os x) h)) : W X (.loop c) Q S := by
  refine W_loop (α := α × (Nat → Nat)) (fun x => mk (rs x.1) (gs x.1) (os x.1) x.2) (fun x => inv x.1) (fun x => μ x.1) (x0, S.γ) h0 (wk_mk hs) (fun x hi => ?_)
  refine W_mono (round x.1 x.2 hi) (fun e S' hq => ?_)
  cases e with
  | normal =>
    obtain ⟨x', h1, h2, h3⟩ := hq
    exact ⟨(x', S'.γ), h1, h2, wk_mk h3⟩
  | _ => exact hq

/-- Anywhere: go on from less. -/
theorem W_short {c : Code} (rs : List (Nat × D)) (gs : List (Nat × Nat)) (os : List (Nat × Own)) (hs : Match S rs gs os) (h : ∀ g, W X c Q (mk rs gs os g)) : W X c Q S := W_wk (wk_mk hs) (h _)
end

section
variable {X : Ctx} {Q : Exit → St → Prop} {S : St} {ops : Array Oper} {o : Oper} {rest : List Oper} {c : Operand} {x y : Code} {j t : Nat} {b : Bool}
theorem W_cD {p : Prop} {_ : Decidable p} (hc : S.ev X c = .bool (decide p)) (ht : p → W X x Q S) (hf : ¬ p → W X y Q S) : W X (.cond c x y) Q S := W_cond hc (fun h => ht (of_decide_eq_true h)) (fun h => hf (of_decide_eq_false h))
theorem W_cND {p : Prop} {_ : Decidable p} (hc : S.ev X c = .bool (!decide p)) (ht : ¬ p → W X x Q S) (hf : p → W X y Q S) : W X (.cond c x y) Q S := W_cond hc (fun h => ht (by simpa using h)) (fun h => hf (by simpa using h))
theorem W_cE {m n : Int} (hc : S.ev X c = .bool (m == n)) (ht : m = n → W X x Q S) (hf : m ≠ n → W X y Q S) : W X (.cond c x y) Q S := W_cond hc (fun h => ht (by simpa using h)) (fun h => hf (by simpa using h))
theorem W_cNE {m n : Int} (hc : S.ev X c = .bool (m != n)) (ht : m ≠ n → W X x Q S) (hf : m = n → W X y Q S) : W X (.cond c x y) Q S := W_cond hc (fun h => ht (by simpa using h)) (fun h => hf (by simpa using h))
theorem W_cN {d : Bool} (hc : S.ev X c = .bool (!d)) (ht : d = false → W X x Q S) (hf : d = true → W X y Q S) : W X (.cond c x y) Q S := W_cond hc (fun h => ht (by simpa using h)) (fun h => hf (by simpa using h))
theorem L_tD {p : Prop} {_ : Decidable p} (hg : o.guard = some (j, b)) (hj : (ops[j]?).bind (·.dst) = some t) (hc : S.ev X (.tmp t) = .bool (decide p)) (ht : p → WL X ops (o :: rest) Q (S.set t (.bool true))) (hf : ¬ p → WL X ops (o :: rest) Q (S.set t (.bool false))) : WL X ops (o :: rest) Q S :=
  WL_tell hg hj hc (fun h => ht (of_decide_eq_true h)) (fun h => hf (of_decide_eq_false h))
theorem L_tND {p : Prop} {_ : Decidable p} (hg : o.guard = some (j, b)) (hj : (ops[j]?).bind (·.dst) = some t) (hc : S.ev X (.tmp t) = .bool (!decide p)) (ht : ¬ p → WL X ops (o :: rest) Q (S.set t (.bool true))) (hf : p → WL X ops (o :: rest) Q (S.set t (.bool false))) : WL X ops (o :: rest) Q S :=
  WL_tell hg hj hc (fun h => ht (by simpa using h)) (fun h => hf (by simpa using h))
theorem L_tE {m n : Int} (hg : o.guard = some (j, b)) (hj : (ops[j]?).bind (·.dst) = some t) (hc : S.ev X (.tmp t) = .bool (m == n)) (ht : m = n → WL X ops (o :: rest) Q (S.set t (.bool true))) (hf : m ≠ n → WL X ops (o :: rest) Q (S.set t (.bool false))) : WL X ops (o :: rest) Q S :=
  WL_tell hg hj hc (fun h => ht (by simpa using h)) (fun h => hf (by simpa using h))
theorem L_tNE {m n : Int} (hg : o.guard = some (j, b)) (hj : (ops[j]?).bind (·.dst) = some t) (hc : S.ev X (.tmp t) = .bool (m != n)) (ht : m ≠ n → WL X ops (o :: rest) Q (S.set t (.bool true))) (hf : m = n → WL X ops (o :: rest) Q (S.set t (.bool false))) : WL X ops (o :: rest) Q S :=
  WL_tell hg hj hc (fun h => ht (by simpa using h)) (fun h => hf (by simpa using h))
theorem L_tN {d : Bool} (hg : o.guard = some (j, b)) (hj : (ops[j]?).bind (·.dst) = some t) (hc : S.ev X (.tmp t) = .bool (!d)) (ht : d = false → WL X ops (o :: rest) Q (S.set t (.bool true))) (hf : d = true → WL X ops (o :: rest) Q (S.set t (.bool false))) : WL X ops (o :: rest) Q S :=
  WL_tell hg hj hc (fun h => ht (by simpa using h)) (fun h => hf (by simpa using h))
end

/- Typed data. -/
def slOf {α : Type} [Inhabited α] (z : Nat) (enc : α → List D) (l : List α) : D := .sl z l.length (fun i => enc (l.getD i default))
def arrOf {α : Type} [Inhabited α] (T z : Nat) (enc : α → List D) (l : List α) : Own := .arr T z l.length (fun i => enc (l.getD i default))
def encI (n : Int) : List D := [.int .i64 n]
def encB (b : Bool) : List D := [.bool b]
theorem pure_slOf {α : Type} [Inhabited α] {z : Nat} {enc : α → List D} {l : List α} (h : ∀ a, PureL (enc a)) : Pure (slOf z enc l) := .sl _ _ _ fun _ _ d hd => h _ d hd
theorem pure_I (n : Int) : PureL (encI n) := PureL.cons (.int _ _) PureL.nil
theorem pure_B (n : Bool) : PureL (encB n) := PureL.cons (.bool _) PureL.nil
section
variable {X : Ctx} {Q : Exit → St → Prop} {S S' : St}
/-- Behind x only what is told of goes on. -/
theorem W_cut {x y : Code} (rs : List (Nat × D)) (gs : List (Nat × Nat)) (os : List (Nat × Own)) (h : W X x (thenQ (fun S' => Match S' rs gs os) Q) S) (h2 : ∀ g, W X y Q (mk rs gs os g)) : W X (.seq x y) Q S :=
  W_seq (W_mono h fun e S' hq => by
    cases e with
    | normal => exact W_short rs gs os hq h2
    | _ => exact hq)

theorem T_match {rs : List (Nat × D)} {gs : List (Nat × Nat)} {os : List (Nat × Own)} (h : Match S rs gs os) : thenQ (fun S' => Match S' rs gs os) Q .normal S := h

theorem toI {x : D} {a b : Int} {k : IntKind} (h : x = .int k a) (e : a = b) : x = .int k b := by rw [h, e]
theorem toB {x : Own} {l l' : List D} (h : x = .box l) (e : l = l') : x = .box l' := by rw [h, e]

/-- None is an empty slice. -/
def NilL : List D → List D → Prop
  | [], [] => True
  | d :: l, d' :: l' => (d' = d ∨ (d = .nil ∧ ∃ z f, d' = .sl z 0 f)) ∧ NilL l l'
  | _, _ => False
theorem nilL_rep {κ : Nat → Nat → Option Value} {γ : Nat → Nat} {sv : Nat → Value} : ∀ {l l' : List D} {vs : List Value}, NilL l l' → RepL κ γ sv l vs → RepL κ γ sv l' vs
  | [], [], _, _, h => h
  | d :: l, d' :: l', _, h, .cons _ _ _ _ h1 h2 => by
    refine .cons _ _ _ _ ?_ (nilL_rep h.2 h2)
    rcases h.1 with e | ⟨e, z, f, e'⟩
    · rw [e]; exact h1
    · subst e e'; cases h1; exact .sl0 _ _
  | [], _ :: _, _, h, _ => h.elim
  | _ :: _, [], _, h, _ => h.elim
theorem nilL_cell : ∀ {l l' : List D}, NilL l l' → allCell l = true → allCell l' = true
  | [], [], _, _ => rfl
  | d :: l, d' :: l', h, hc => by
    simp only [allCell, Bool.and_eq_true] at hc ⊢
    refine ⟨?_, nilL_cell h.2 hc.2⟩
    rcases h.1 with e | ⟨e, z, f, e'⟩
    · rw [e]; exact hc.1
    · subst e'; rfl
  | [], _ :: _, h, _ => h.elim
  | _ :: _, [], h, _ => h.elim
theorem wk_nilbox (t : Nat) {l l' : List D} (hσ : S.σ t = .box l) (h : NilL l l') : Wk X S ⟨S.ρ, S.γ, upd S.σ t (.box l')⟩ := fun κ sv a w hs => by
  have hown := hs.wld.own t
  rw [hσ] at hown
  obtain ⟨b, T, cs, e1, e2, e3, e4⟩ := hown
  refine ⟨κ, sv, ⟨hs.size, hs.defers, hs.slot, ?_⟩⟩
  exact hs.wld.rewrite t (.box _) (below_grown (Below.refl _ _) _) (by rw [hσ, e1]; rfl) ⟨b, T, cs, e1, e2, nilL_rep h e3, nilL_cell h e4⟩ _
end
end Go.Ab
