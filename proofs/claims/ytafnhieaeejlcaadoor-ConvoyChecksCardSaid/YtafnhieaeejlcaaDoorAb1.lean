/- A program logic over abstract states: abstract values, how they stand for the model's values, and when a state of the machine is one that an abstract state describes. No program in sight. -/
import Derived.WalkKit
import Derived.WalkSpells
set_option linter.all false
namespace Go.Ab
open Go Go.RowKit

/-- An abstract value: numbers, texts, aggregates (their cells in a row), slices that are never written again (by how many cells an element has, how many elements, and what each holds), pointers into such an element, pointers into a box of the call's own (by the slot at which it was made and the how-manieth), slices of the call's own. -/
inductive D where
  | int (k : IntKind) (n : Int)
  | bool (b : Bool)
  | str (s : ByteArray)
  | agg (l : List D)
  | tup (l : List D)
  | sl (z n : Nat) (f : Nat → List D)
  | nil
  | rp (l : List D) (o : Nat)
  | bx (s g o : Nat)
  | os (s g : Nat)
  | op (s g z i o : Nat)
  | fn (f : FuncId) (c : List D)
  | yl (l : Nat)
  | mf (f : FuncId) (c : List D)
  | undef

instance : Inhabited D := ⟨.undef⟩

/-- One that fills one cell. -/
def D.isCell : D → Bool
  | .agg _ | .tup _ | .undef => false
  | _ => true

def allCell : List D → Bool
  | [] => true
  | d :: l => d.isCell && allCell l

/-- What a box or a slice of the call's own holds. -/
inductive Own where
  | none
  | box (l : List D)
  | arr (T z n : Nat) (f : Nat → List D)

structure St where
  ρ : Nat → D
  γ : Nat → Nat
  σ : Nat → Own

def upd {α : Type} (f : Nat → α) (i : Nat) (v : α) : Nat → α := fun j => bif Nat.beq j i then v else f j

theorem upd_same {α : Type} (f : Nat → α) (i : Nat) (v : α) : upd f i v i = v := by
  unfold upd; have : Nat.beq i i = true := Nat.beq_refl i; rw [this]; rfl
theorem upd_ne {α : Type} (f : Nat → α) (i j : Nat) (v : α) (h : j ≠ i) : upd f i v j = f j := by
  unfold upd
  have : Nat.beq j i = false := by
    cases hb : Nat.beq j i
    · rfl
    · exact absurd (Nat.eq_of_beq_eq_true hb) h
  rw [this]; rfl

def St.set (S : St) (i : Nat) (d : D) : St := ⟨upd S.ρ i d, S.γ, S.σ⟩
def St.put (S : St) : Option Nat → D → St
  | some i, d => S.set i d
  | none, _ => S

mutual
inductive Rep (κ : Nat → Nat → Option Value) (γ : Nat → Nat) (sv : Nat → Value) : D → Value → Prop
  | int (k : IntKind) (n : Int) : Rep κ γ sv (.int k n) (.int k n)
  | bool (b : Bool) : Rep κ γ sv (.bool b) (.bool b)
  | str (s : ByteArray) : Rep κ γ sv (.str s) (.string s)
  | agg (l : List D) (vs : List Value) : RepL κ γ sv l vs → Rep κ γ sv (.agg l) (.agg vs.toArray)
  | tup (l : List D) (vs : List Value) : RepL κ γ sv l vs → Rep κ γ sv (.tup l) (.tuple vs.toArray)
  | sl (z n : Nat) (f : Nat → List D) (b off cap : Nat) (u : Nat → List Value) : n ≤ cap → (∀ i, i < n → (f i).length = z) →
      (∀ i, i < n → allCell (f i) = true) → (∀ i, i < n → RepL κ γ sv (f i) (u i)) → (∀ i j v, i < n → (u i)[j]? = some v → κ b (off + i * z + j) = some v) →
      Rep κ γ sv (.sl z n f) (.slice (some ⟨b, off, none⟩) n cap)
  | sl0 (z : Nat) (f : Nat → List D) : Rep κ γ sv (.sl z 0 f) (.slice none 0 0)
  | slE (z : Nat) (f : Nat → List D) (a : Addr) (cap : Nat) : Rep κ γ sv (.sl z 0 f) (.slice (some a) 0 cap)
  | nil : Rep κ γ sv .nil (.slice none 0 0)
  | rp (l : List D) (o b off : Nat) (u : List Value) : allCell l = true → RepL κ γ sv l u → (∀ j v, u[j]? = some v → κ b (off + j) = some v) →
      Rep κ γ sv (.rp l o) (.pointer (some ⟨b, off + o, none⟩))
  | bx (s g o : Nat) (v : Value) : g ≤ γ s → (g = γ s → ∃ b, sv s = .pointer (some ⟨b, 0, none⟩) ∧ v = .pointer (some ⟨b, o, none⟩)) →
      v.oneCell' = true → Rep κ γ sv (.bx s g o) v
  | os (s g : Nat) (v : Value) : g ≤ γ s → (g = γ s → v = sv s) → v.oneCell' = true → Rep κ γ sv (.os s g) v
  | op (s g z i o : Nat) (v : Value) : g ≤ γ s → (g = γ s → ∃ b n cap, sv s = .slice (some ⟨b, 0, none⟩) n cap ∧ v = .pointer (some ⟨b, i * z + o, none⟩)) →
      v.oneCell' = true → Rep κ γ sv (.op s g z i o) v
  | fn (f : FuncId) (c : List D) (vs : List Value) : RepL κ γ sv c vs → Rep κ γ sv (.fn f c) (.func (.func f) #[] vs.toArray)
  | yl (l : Nat) : Rep κ γ sv (.yl l) (.func (.yield l) #[] #[])
  | mf (f : FuncId) (c : List D) (vs : List Value) : RepL κ γ sv c vs → Rep κ γ sv (.mf f c) (.func (.func f) vs.toArray #[])
  | undef (v : Value) : Rep κ γ sv .undef v
inductive RepL (κ : Nat → Nat → Option Value) (γ : Nat → Nat) (sv : Nat → Value) : List D → List Value → Prop
  | nil : RepL κ γ sv [] []
  | cons (d : D) (v : Value) (l : List D) (vs : List Value) : Rep κ γ sv d v → RepL κ γ sv l vs → RepL κ γ sv (d :: l) (v :: vs)
end

section
variable {κ κ' : Nat → Nat → Option Value} {γ γ' : Nat → Nat} {sv sv' : Nat → Value}

/-- More is known to stay, and what was made anew at a place is younger. -/
structure Le (κ κ' : Nat → Nat → Option Value) (γ γ' : Nat → Nat) (sv sv' : Nat → Value) : Prop where
  cells : ∀ b o v, κ b o = some v → κ' b o = some v
  gens : ∀ s, γ s ≤ γ' s
  vals : ∀ s, γ s = γ' s → sv' s = sv s

theorem Le.refl (κ : Nat → Nat → Option Value) (γ : Nat → Nat) (sv : Nat → Value) : Le κ κ γ γ sv sv := ⟨fun _ _ _ h => h, fun _ => Nat.le_refl _, fun _ _ => rfl⟩

theorem Le.trans {κ'' : Nat → Nat → Option Value} {γ'' : Nat → Nat} {sv'' : Nat → Value} (h : Le κ κ' γ γ' sv sv') (h' : Le κ' κ'' γ' γ'' sv' sv'') : Le κ κ'' γ γ'' sv sv'' :=
  ⟨fun b o v hk => h'.cells b o v (h.cells b o v hk), fun s => Nat.le_trans (h.gens s) (h'.gens s), fun s e => by
    have h1 := h.gens s
    have h2 := h'.gens s
    rw [h'.vals s (by omega), h.vals s (by omega)]⟩
theorem Le.gen_eq (h : Le κ κ' γ γ' sv sv') {s g : Nat} (hg : g ≤ γ s) (he : g = γ' s) : g = γ s ∧ sv' s = sv s := by
  have := h.gens s
  have e : γ s = γ' s := by omega
  exact ⟨by omega, h.vals s e⟩

mutual
theorem Rep.mono (h : Le κ κ' γ γ' sv sv') : ∀ {d : D} {v : Value}, Rep κ γ sv d v → Rep κ' γ' sv' d v
  | _, _, .int k n => .int k n
  | _, _, .bool b => .bool b
  | _, _, .str s => .str s
  | _, _, .agg l vs hl => .agg l vs (RepL.mono h hl)
  | _, _, .tup l vs hl => .tup l vs (RepL.mono h hl)
  | _, _, .sl z n f b off cap u h1 h2 h5 h3 h4 => .sl z n f b off cap u h1 h2 h5 (fun i hi => RepL.mono h (h3 i hi)) (fun i j v hi hj => h.cells _ _ _ (h4 i j v hi hj))
  | _, _, .sl0 z f => .sl0 z f
  | _, _, .slE z f a c => .slE z f a c
  | _, _, .nil => .nil
  | _, _, .rp l o b off u h0 h1 h2 => .rp l o b off u h0 (RepL.mono h h1) (fun j v hj => h.cells _ _ _ (h2 j v hj))
  | _, _, .bx s g o v h1 h2 h3 => .bx s g o v (Nat.le_trans h1 (h.gens s)) (fun e => by
      obtain ⟨e1, e2⟩ := h.gen_eq h1 e
      rw [e2]; exact h2 e1) h3
  | _, _, .os s g v h1 h2 h3 => .os s g v (Nat.le_trans h1 (h.gens s)) (fun e => by
      obtain ⟨e1, e2⟩ := h.gen_eq h1 e
      rw [e2]; exact h2 e1) h3
  | _, _, .op s g z i o v h1 h2 h3 => .op s g z i o v (Nat.le_trans h1 (h.gens s)) (fun e => by
      obtain ⟨e1, e2⟩ := h.gen_eq h1 e
      rw [e2]; exact h2 e1) h3
  | _, _, .fn f c vs hl => .fn f c vs (RepL.mono h hl)
  | _, _, .yl l => .yl l
  | _, _, .mf f c vs hl => .mf f c vs (RepL.mono h hl)
  | _, _, .undef v => .undef v
theorem RepL.mono (h : Le κ κ' γ γ' sv sv') : ∀ {l : List D} {vs : List Value}, RepL κ γ sv l vs → RepL κ' γ' sv' l vs
  | _, _, .nil => .nil
  | _, _, .cons d v l vs h1 h2 => .cons d v l vs (Rep.mono h h1) (RepL.mono h h2)
end

theorem RepL.length : ∀ {l : List D} {vs : List Value}, RepL κ γ sv l vs → vs.length = l.length
  | _, _, .nil => rfl
  | _, _, .cons _ _ _ _ _ h => by simp [RepL.length h]

theorem RepL.get : ∀ {l : List D} {vs : List Value}, RepL κ γ sv l vs → ∀ {j : Nat} {d : D}, l[j]? = some d → ∃ v, vs[j]? = some v ∧ Rep κ γ sv d v
  | _, _, .nil, j, d, h => by simp at h
  | _, _, .cons _ v _ _ h1 h2, 0, d, h => by simp at h; subst h; exact ⟨v, by simp, h1⟩
  | _, _, .cons _ _ _ _ _ h2, j + 1, d, h => by
    obtain ⟨v, hv, hr⟩ := RepL.get h2 (j := j) (d := d) (by simpa using h)
    exact ⟨v, by simpa using hv, hr⟩

theorem RepL.take : ∀ {l : List D} {vs : List Value}, RepL κ γ sv l vs → ∀ n, RepL κ γ sv (l.take n) (vs.take n)
  | _, _, .nil, n => by simp; exact .nil
  | _, _, .cons _ _ _ _ _ _, 0 => by simp; exact .nil
  | _, _, .cons d v l vs h1 h2, n + 1 => by simp; exact .cons _ _ _ _ h1 (RepL.take h2 n)

theorem RepL.drop : ∀ {l : List D} {vs : List Value}, RepL κ γ sv l vs → ∀ n, RepL κ γ sv (l.drop n) (vs.drop n)
  | _, _, .nil, n => by simp; exact .nil
  | _, _, .cons d v l vs h1 h2, 0 => by simp; exact .cons _ _ _ _ h1 h2
  | _, _, .cons _ _ _ _ _ h2, n + 1 => by simp; exact RepL.drop h2 n

theorem RepL.append : ∀ {l : List D} {vs : List Value}, RepL κ γ sv l vs → ∀ {l' : List D} {vs' : List Value}, RepL κ γ sv l' vs' → RepL κ γ sv (l ++ l') (vs ++ vs')
  | _, _, .nil, _, _, h => by simpa using h
  | _, _, .cons d v l vs h1 h2, _, _, h => by simp; exact .cons _ _ _ _ h1 (RepL.append h2 h)

theorem Rep.oneCell {d : D} {v : Value} (h : Rep κ γ sv d v) (hc : d.isCell = true) : v.oneCell' = true := by
  cases h <;> first | rfl | assumption | (simp [D.isCell] at hc)

theorem RepL.oneCells : ∀ {l : List D} {vs : List Value}, RepL κ γ sv l vs → allCell l = true → ∀ v ∈ vs, v.oneCell' = true
  | _, _, .nil, _, v, hv => by simp at hv
  | _, _, .cons d v l vs h1 h2, hc, x, hx => by
    simp only [allCell, Bool.and_eq_true] at hc
    rcases List.mem_cons.1 hx with rfl | hx
    · exact h1.oneCell hc.1
    · exact RepL.oneCells h2 hc.2 x hx

theorem allCell_append {l l' : List D} (h : allCell l = true) (h' : allCell l' = true) : allCell (l ++ l') = true := by
  induction l with
  | nil => simpa
  | cons d l ih => simp only [allCell, Bool.and_eq_true] at h; simp [allCell, h.1, ih h.2]
theorem allCell_take {l : List D} (h : allCell l = true) (n : Nat) : allCell (l.take n) = true := by
  induction l generalizing n with
  | nil => simpa
  | cons d l ih =>
    simp only [allCell, Bool.and_eq_true] at h
    cases n with
    | zero => simp [allCell]
    | succ n => simp [allCell, h.1, ih h.2]
theorem allCell_drop {l : List D} (h : allCell l = true) (n : Nat) : allCell (l.drop n) = true := by
  induction l generalizing n with
  | nil => simpa
  | cons d l ih =>
    cases n with
    | zero => simpa using h
    | succ n => simp only [allCell, Bool.and_eq_true] at h; simpa using ih h.2 n
theorem allCell_get {l : List D} (h : allCell l = true) {j : Nat} {d : D} (hj : l[j]? = some d) : d.isCell = true := by
  induction l generalizing j with
  | nil => simp at hj
  | cons x l ih =>
    simp only [allCell, Bool.and_eq_true] at h
    cases j with
    | zero => simp at hj; subst hj; exact h.1
    | succ j => exact ih h.2 (by simpa using hj)

/-- A value's cells, as an abstract value's. -/
def D.cells : D → List D
  | .agg l => l
  | d => [d]

theorem Rep.cells {d : D} {v : Value} (h : Rep κ γ sv d v) (hc : allCell d.cells = true) : RepL κ γ sv d.cells v.cells.toList ∧ ∀ u ∈ v.cells.toList, u.oneCell' = true := by
  have key : d.isCell = true → RepL κ γ sv [d] v.cells.toList ∧ ∀ u ∈ v.cells.toList, u.oneCell' = true := by
    intro hd
    have ho := h.oneCell hd
    have hv : v.cells = #[v] := by cases v <;> first | rfl | (simp [Value.oneCell'] at ho)
    rw [hv]
    exact ⟨.cons _ _ _ _ h .nil, by simpa using ho⟩
  cases h with
  | agg l vs hl => exact ⟨by simpa [D.cells, Value.cells] using hl, by simpa [Value.cells] using RepL.oneCells hl (by simpa [D.cells] using hc)⟩
  | tup l vs hl => simp [D.cells, allCell, D.isCell] at hc
  | undef v => simp [D.cells, allCell, D.isCell] at hc
  | _ => exact key rfl
end

/-- No reference to what belongs to the call alone. -/
inductive Pure : D → Prop
  | int (k : IntKind) (n : Int) : Pure (.int k n)
  | bool (b : Bool) : Pure (.bool b)
  | str (s : ByteArray) : Pure (.str s)
  | agg (l : List D) : (∀ d ∈ l, Pure d) → Pure (.agg l)
  | tup (l : List D) : (∀ d ∈ l, Pure d) → Pure (.tup l)
  | sl (z n : Nat) (f : Nat → List D) : (∀ i, i < n → ∀ d ∈ f i, Pure d) → Pure (.sl z n f)
  | nil : Pure .nil
  | rp (l : List D) (o : Nat) : (∀ d ∈ l, Pure d) → Pure (.rp l o)
  | fn (f : FuncId) (c : List D) : (∀ d ∈ c, Pure d) → Pure (.fn f c)
  | yl (l : Nat) : Pure (.yl l)
  | mf (f : FuncId) (c : List D) : (∀ d ∈ c, Pure d) → Pure (.mf f c)
  | undef : Pure .undef
def PureL (l : List D) : Prop := ∀ d ∈ l, Pure d

theorem PureL.nil : PureL [] := fun _ h => by simp at h
theorem PureL.cons {d : D} {l : List D} (h : Pure d) (hl : PureL l) : PureL (d :: l) := fun x hx => by
  rcases List.mem_cons.1 hx with rfl | hx
  · exact h
  · exact hl x hx

section
variable {κ κ' : Nat → Nat → Option Value} {γ γ' : Nat → Nat} {sv sv' : Nat → Value}
mutual
theorem Rep.pure (hκ : ∀ b o v, κ b o = some v → κ' b o = some v) : ∀ {d : D} {v : Value}, Rep κ γ sv d v → Pure d → Rep κ' γ' sv' d v
  | _, _, .int k n, _ => .int k n
  | _, _, .bool b, _ => .bool b
  | _, _, .str s, _ => .str s
  | _, _, .agg l vs hl, hp => .agg l vs (RepL.pure hκ hl (by cases hp; assumption))
  | _, _, .tup l vs hl, hp => .tup l vs (RepL.pure hκ hl (by cases hp; assumption))
  | _, _, .sl z n f b off cap u h1 h2 h5 h3 h4, hp => .sl z n f b off cap u h1 h2 h5 (fun i hi => RepL.pure hκ (h3 i hi) (by cases hp with | sl _ _ _ h => exact h i hi)) (fun i j v hi hj => hκ _ _ _ (h4 i j v hi hj))
  | _, _, .sl0 z f, _ => .sl0 z f
  | _, _, .slE z f a c, _ => .slE z f a c
  | _, _, .nil, _ => .nil
  | _, _, .rp l o b off u h0 h1 h2, hp => .rp l o b off u h0 (RepL.pure hκ h1 (by cases hp; assumption)) (fun j v hj => hκ _ _ _ (h2 j v hj))
  | _, _, .bx s g o v _ _ _, hp => by cases hp
  | _, _, .os s g v _ _ _, hp => by cases hp
  | _, _, .op s g z i o v _ _ _, hp => by cases hp
  | _, _, .fn f c vs hl, hp => .fn f c vs (RepL.pure hκ hl (by cases hp; assumption))
  | _, _, .yl l, _ => .yl l
  | _, _, .mf f c vs hl, hp => .mf f c vs (RepL.pure hκ hl (by cases hp; assumption))
  | _, _, .undef v, _ => .undef v
theorem RepL.pure (hκ : ∀ b o v, κ b o = some v → κ' b o = some v) : ∀ {l : List D} {vs : List Value}, RepL κ γ sv l vs → PureL l → RepL κ' γ' sv' l vs
  | _, _, .nil, _ => .nil
  | _, _, .cons d v l vs h1 h2, hp => .cons d v l vs (Rep.pure hκ h1 (hp d (by simp))) (RepL.pure hκ h2 (fun x hx => hp x (by simp [hx])))
end
end

end Go.Ab
