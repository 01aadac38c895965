/- Walks by computing: what each function of the program that the laws reach gives for what it gets, as plain Lean, and that it is so; without a condition but those that stand in each theorem. -/
import Derived.Shelf.Abstract
import Derived.Test.YtafnhieaeejlcaaDoorW1
set_option linter.all false
/- Regions that draw their order, in general: each operation is looked at once, in the order of the text, with what it reads and what it writes; that the orders agree is one check of numbers. -/
namespace Go.Ab
open Go Go.RowKit

/-- What an operation reads: slots, ages, what places hold. -/
structure Lc where
  rr : List Nat
  rg : List Nat
  ro : List Nat
/-- What it writes: a slot, an age, what a place holds. -/
structure Wr where
  t : Option Nat
  g : Option Nat
  o : Option Nat
structure Vl where
  d : D
  g : Nat
  o : Own
instance : Inhabited Vl := ⟨⟨.undef, 0, .none⟩⟩

def memN (i : Nat) : List Nat → Bool
  | [] => false
  | j :: l => bif Nat.beq i j then true else memN i l
theorem memN_iff {i : Nat} : ∀ {l : List Nat}, memN i l = true ↔ i ∈ l
  | [] => by simp [memN]
  | j :: l => by
    simp only [memN, List.mem_cons]
    cases h : Nat.beq i j with
    | true => simp [Nat.eq_of_beq_eq_true h]
    | false =>
      have : i ≠ j := fun e => by rw [e, Nat.beq_refl] at h; cases h
      simp [this, memN_iff]

def updO {α : Type} (f : Nat → α) (i : Option Nat) (v : α) : Nat → α := match i with | some i => upd f i v | none => f
def St.app (T : St) (w : Wr) (v : Vl) : St := ⟨updO T.ρ w.t v.d, updO T.γ w.g v.g, updO T.σ w.o v.o⟩

structure Agree (lc : Lc) (S T : St) : Prop where
  rr : ∀ t ∈ lc.rr, T.ρ t = S.ρ t
  rg : ∀ s ∈ lc.rg, T.γ s = S.γ s
  ro : ∀ s ∈ lc.ro, T.σ s = S.σ s

/- One kind of location. -/
section val
variable {α : Type}
def val (w : Nat → Option Nat) (v : Nat → α) (L : Nat → Bool) (f0 : Nat → α) : Nat → (Nat → α)
  | 0 => f0
  | n + 1 => if L n then updO (val w v L f0 n) (w n) (v n) else val w v L f0 n
theorem updO_ne {f : Nat → α} {i : Option Nat} {v : α} {j : Nat} (h : i ≠ some j) : updO f i v j = f j := by
  cases i with
  | none => rfl
  | some i => exact upd_ne _ _ _ _ (fun e => h (by rw [e]))
theorem updO_comm {f : Nat → α} {i j : Option Nat} {u v : α} (h : i ≠ j ∨ i = none) : updO (updO f i u) j v = updO (updO f j v) i u := by
  cases i with
  | none => rfl
  | some i =>
    cases j with
    | none => rfl
    | some j =>
      have hne : i ≠ j := by
        rcases h with h | h
        · exact fun e => h (by rw [e])
        · cases h
      funext k
      show upd (upd f i u) j v k = upd (upd f j v) i u k
      by_cases e1 : k = j
      · subst e1; rw [upd_same, upd_ne _ _ _ _ (Ne.symm hne), upd_same]
      · rw [upd_ne _ _ _ _ e1]
        by_cases e2 : k = i
        · subst e2; rw [upd_same, upd_same]
        · rw [upd_ne _ _ _ _ e2, upd_ne _ _ _ _ e2, upd_ne _ _ _ _ e1]
variable {w : Nat → Option Nat} {v : Nat → α} {L : Nat → Bool} {f0 : Nat → α}
theorem val_at {i l : Nat} : ∀ n, (∀ j, j < n → w j = some l → (L j = true ↔ j < i)) → val w v L f0 n l = val w v (fun _ => true) f0 (min n i) l
  | 0, _ => by simp [val]
  | n + 1, h => by
    have ih := val_at n fun j hj => h j (by omega)
    have hn := h n (by omega)
    by_cases hi : n < i
    · rw [show min (n + 1) i = n + 1 by omega]
      rw [show min n i = n by omega] at ih
      simp only [val, if_true]
      by_cases e : w n = some l
      · rw [if_pos ((hn e).2 hi), e]; show upd _ l _ l = upd _ l _ l; rw [upd_same, upd_same]
      · rw [updO_ne e]
        split
        · rw [updO_ne e]; exact ih
        · exact ih
    · rw [show min (n + 1) i = i by omega]
      rw [show min n i = i by omega] at ih
      simp only [val]
      by_cases e : w n = some l
      · rw [if_neg (fun h => hi ((hn e).1 h))]; exact ih
      · split
        · rw [updO_ne e]; exact ih
        · exact ih
theorem val_congr {L' : Nat → Bool} : ∀ n, (∀ j, j < n → L j = L' j) → val w v L f0 n = val w v L' f0 n
  | 0, _ => rfl
  | n + 1, h => by simp only [val, val_congr n fun j hj => h j (by omega), h n (by omega)]
theorem val_add {i : Nat} (hL : L i = false) : ∀ n, i < n → (∀ j, i < j → j < n → L j = true → w i ≠ w j ∨ w i = none) →
    val w v (fun j => bif Nat.beq j i then true else L j) f0 n = updO (val w v L f0 n) (w i) (v i)
  | 0, h, _ => by omega
  | n + 1, h, hw => by
    by_cases e : i = n
    · subst e
      have h2 : val w v (fun j => bif Nat.beq j i then true else L j) f0 i = val w v L f0 i := val_congr i fun j hj => by
        have : Nat.beq j i = false := by
          cases hb : Nat.beq j i
          · rfl
          · have := Nat.eq_of_beq_eq_true hb; omega
        rw [this]; rfl
      simp only [val, h2, Nat.beq_refl, cond_true, if_true, hL, Bool.false_eq_true, if_false]
    · have ih := val_add hL n (by omega) fun j h1 h2 => hw j h1 (by omega)
      have hb : Nat.beq n i = false := by
        cases hb : Nat.beq n i
        · rfl
        · have := Nat.eq_of_beq_eq_true hb; omega
      simp only [val, hb, cond_false, ih]
      by_cases hn : L n = true
      · rw [if_pos hn, if_pos hn]; exact updO_comm (hw n (by omega) (by omega) hn)
      · rw [if_neg hn, if_neg hn]
end val

abbrev Ent := Lc × Wr
def wrF (E : List Ent) (j : Nat) : Wr := match E[j]? with | some e => e.2 | none => ⟨none, none, none⟩
def lcF (E : List Ent) (j : Nat) : Lc := match E[j]? with | some e => e.1 | none => ⟨[], [], []⟩
def vlF (V : List Vl) (j : Nat) : Vl := match V[j]? with | some v => v | none => default
def stt (S0 : St) (E : List Ent) (V : List Vl) (L : Nat → Bool) (n : Nat) : St :=
  ⟨val (fun j => (wrF E j).t) (fun j => (vlF V j).d) L S0.ρ n, val (fun j => (wrF E j).g) (fun j => (vlF V j).g) L S0.γ n, val (fun j => (wrF E j).o) (fun j => (vlF V j).o) L S0.σ n⟩
def top : Nat → Bool := fun _ => true
theorem stt_succ (S0 : St) (E : List Ent) (V : List Vl) (n : Nat) : stt S0 E V top (n + 1) = (stt S0 E V top n).app (wrF E n) (vlF V n) := by
  simp only [stt, val, top, St.app, if_true]

/-- What an operation of the list does, in any order. -/
def StepOk (X : Ctx) (Q : Exit → St → Prop) (ops : Array Oper) (i : Nat) (T T' : St) : Prop := ∀ κ sv a w, Sim X κ sv T a w →
  wpOpIn X.F 0 X.Z.P ops (lift X Q) i (fun a' w' => ∃ κ' sv', Sim X κ' sv' T' a' w') a w
def Snd (X : Ctx) (Q : Exit → St → Prop) (ops : Array Oper) (i : Nat) (S : St) (lc : Lc) (wr : Wr) (v : Vl) : Prop := ∀ T, Agree lc S T → StepOk X Q ops i T (T.app wr v)

/- The check of numbers. -/
def dirB (o : Oper) : List Nat := (o.after.toList.filter (Region.binds .any)).map (·.on)
def maskOf (acc : List Nat) (l : List Nat) : Nat := l.foldl (fun s j => s ||| (2 ^ j ||| (acc[j]?).getD 0)) 0
def masks (acc : List Nat) : List Oper → List Nat
  | [] => acc
  | o :: l => masks (acc ++ [maskOf acc (dirB o)]) l
def hasO (l : List Nat) : Option Nat → Bool
  | none => false
  | some i => memN i l
def sameO : Option Nat → Option Nat → Bool
  | some i, some j => Nat.beq i j
  | _, _ => false
/-- Number j writes what number i reads or writes. -/
def clash (a b : Ent) : Bool := hasO a.1.rr b.2.t || hasO a.1.rg b.2.g || hasO a.1.ro b.2.o
def clashW (a b : Ent) : Bool := sameO a.2.t b.2.t || sameO a.2.g b.2.g || sameO a.2.o b.2.o
def pairsB (M : List Nat) (E : List Ent) : Bool := E.zipIdx.all fun (a, i) => E.zipIdx.all fun (b, j) =>
  (Nat.beq i j) || !(clash a b || clashW a b) || (if j < i then ((M[i]?).getD 0).testBit j else ((M[j]?).getD 0).testBit i)
def backB (ops : List Oper) : Bool := ops.zipIdx.all fun (o, i) => (dirB o).all fun j => Nat.blt j i
def okB (ops : List Oper) (E : List Ent) : Bool := backB ops && pairsB (masks [] ops) E && Nat.beq ops.length E.length

theorem maskOf_bit {acc l : List Nat} {b : Nat} : (maskOf acc l).testBit b = true → ∃ j ∈ l, j = b ∨ ((acc[j]?).getD 0).testBit b = true := by
  have key : ∀ (l : List Nat) (s : Nat), (l.foldl (fun s j => s ||| (2 ^ j ||| (acc[j]?).getD 0)) s).testBit b = true → s.testBit b = true ∨ ∃ j ∈ l, j = b ∨ ((acc[j]?).getD 0).testBit b = true := by
    intro l
    induction l with
    | nil => intro s h; exact .inl h
    | cons x l ih =>
      intro s h
      rcases ih _ h with h | ⟨j, hj, h⟩
      · simp only [Nat.testBit_or, Nat.testBit_two_pow, Bool.or_eq_true, decide_eq_true_eq] at h
        rcases h with h | h | h
        · exact .inl h
        · exact .inr ⟨x, List.mem_cons_self .., .inl h⟩
        · exact .inr ⟨x, List.mem_cons_self .., .inr h⟩
      · exact .inr ⟨j, List.mem_cons_of_mem _ hj, h⟩
  intro h
  rcases key l 0 h with h | h
  · simp at h
  · exact h

def Closed (ops : List Oper) (L : Nat → Bool) : Prop := ∀ i o, ops[i]? = some o → L i = true → ∀ j ∈ dirB o, L j = true
theorem masks_bit {ops : List Oper} {L : Nat → Bool} (hc : Closed ops L) : ∀ (l : List Oper) (acc : List Nat) (pre : List Oper), ops = pre ++ l → acc.length = pre.length →
    (∀ (i : Nat) (o : Oper) (b : Nat), pre[i]? = some o → ((acc[i]?).getD 0).testBit b = true → (∀ j ∈ dirB o, L j = true) → L b = true) →
    ∀ (i : Nat) (o : Oper) (b : Nat), ops[i]? = some o → (((masks acc l)[i]?).getD 0).testBit b = true → (∀ j ∈ dirB o, L j = true) → L b = true := by
  intro l
  induction l with
  | nil => intro acc pre h1 h2 h3 i o b ho hb hd; rw [h1, List.append_nil] at ho; exact h3 i o b ho hb hd
  | cons x l ih =>
    intro acc pre h1 h2 h3
    refine ih (acc ++ [maskOf acc (dirB x)]) (pre ++ [x]) (by simp [h1]) (by simp [h2]) (fun i o b ho hb hd => ?_)
    rw [List.getElem?_append] at ho hb
    by_cases hi : i < pre.length
    · rw [if_pos hi] at ho
      rw [if_pos (by omega)] at hb
      exact h3 i o b ho hb hd
    · rw [if_neg hi] at ho
      rw [if_neg (by omega)] at hb
      have hi0 : i - pre.length = 0 := by
        have := (List.getElem?_eq_some_iff.1 ho).1
        simp at this; omega
      rw [hi0] at ho
      simp at ho
      subst ho
      rw [show i - acc.length = 0 by omega] at hb
      simp at hb
      obtain ⟨j, hj, h | h⟩ := maskOf_bit hb
      · subst h; exact hd j hj
      · by_cases hjp : j < pre.length
        · have hjo : pre[j]? = some pre[j] := List.getElem?_eq_getElem hjp
          refine h3 j _ b hjo h (hc j _ ?_ (hd j hj))
          rw [h1, List.getElem?_append_left hjp]; exact hjo
        · rw [List.getElem?_eq_none (by omega)] at h; simp at h

theorem pairs_spec {M : List Nat} {E : List Ent} (h : pairsB M E = true) {i j : Nat} {a b : Ent} (hi : E[i]? = some a) (hj : E[j]? = some b) (hne : i ≠ j) (hc : (clash a b || clashW a b) = true) :
    (if j < i then ((M[i]?).getD 0).testBit j else ((M[j]?).getD 0).testBit i) = true := by
  have h1 := List.all_eq_true.1 h (a, i) (List.mk_mem_zipIdx_iff_getElem?.2 hi)
  have h2 := List.all_eq_true.1 h1 (b, j) (List.mk_mem_zipIdx_iff_getElem?.2 hj)
  simp only [hc, Bool.not_true, Bool.or_false, Bool.or_eq_true] at h2
  rcases h2 with h2 | h2
  · exact absurd (Nat.eq_of_beq_eq_true h2) hne
  · exact h2

section
variable {X : Ctx} {Q : Exit → St → Prop} {S S' S0 : St} {ops : Array Oper} {o : Oper}

def Reg (X : Ctx) (Q : Exit → St → Prop) (ops : Array Oper) (S0 : St) : Prop := ∀ κ sv a w, Sim X κ sv S0 a w →
  wpAnyIn X.F 0 X.Z.P .any ops (lift X Q) ops.size (Array.replicate ops.size false) a w

theorem clash_of {a b : Ent} {t : Nat} (h : (t ∈ a.1.rr ∧ b.2.t = some t) ∨ (t ∈ a.1.rg ∧ b.2.g = some t) ∨ (t ∈ a.1.ro ∧ b.2.o = some t)) : clash a b = true := by
  unfold clash
  rcases h with ⟨h1, h2⟩ | ⟨h1, h2⟩ | ⟨h1, h2⟩ <;> simp [h2, hasO, memN_iff.2 h1]
theorem clashW_of {a b : Ent} (h : (a.2.t = b.2.t ∧ a.2.t ≠ none) ∨ (a.2.g = b.2.g ∧ a.2.g ≠ none) ∨ (a.2.o = b.2.o ∧ a.2.o ≠ none)) : clashW a b = true := by
  unfold clashW
  have key : ∀ {x y : Option Nat}, x = y → x ≠ none → sameO x y = true := by
    intro x y h1 h2
    subst h1
    cases x with
    | none => exact absurd rfl h2
    | some x => simp [sameO, Nat.beq_refl]
  rcases h with ⟨h1, h2⟩ | ⟨h1, h2⟩ | ⟨h1, h2⟩ <;> simp [key h1 h2]

theorem wrF_of {E : List Ent} {i : Nat} {a : Ent} (h : E[i]? = some a) : wrF E i = a.2 := by simp [wrF, h]
theorem lcF_of {E : List Ent} {i : Nat} {a : Ent} (h : E[i]? = some a) : lcF E i = a.1 := by simp [lcF, h]

theorem reg_ok {E : List Ent} {V : List Vl} (hok : okB ops.toList E = true) (hs : ∀ k, k < E.length → Snd X Q ops k (stt S0 E V top k) (lcF E k) (wrF E k) (vlF V k)) (hQ : Q .normal (stt S0 E V top E.length)) : Reg X Q ops S0 := by
  simp only [okB, Bool.and_eq_true] at hok
  obtain ⟨⟨hback, hpairs⟩, hlen⟩ := hok
  have hlen : ops.size = E.length := by simpa using Nat.eq_of_beq_eq_true hlen
  have back : ∀ {i : Nat} {o : Oper}, ops[i]? = some o → ∀ j ∈ dirB o, j < i := by
    intro i o ho j hj
    have h1 := List.all_eq_true.1 hback (o, i) (List.mk_mem_zipIdx_iff_getElem?.2 (by simpa using ho))
    have h2 := List.all_eq_true.1 h1 j hj
    simpa [Nat.blt_eq] using h2
  have ent : ∀ {i : Nat}, i < E.length → ∃ a, E[i]? = some a := fun h => ⟨_, List.getElem?_eq_getElem h⟩
  have bits : ∀ {L : Nat → Bool}, Closed ops.toList L → ∀ (i : Nat) (o : Oper) (b : Nat), ops[i]? = some o → (((masks [] ops.toList)[i]?).getD 0).testBit b = true → (∀ j ∈ dirB o, L j = true) → L b = true := fun hc i o b ho =>
    masks_bit hc ops.toList [] [] (by simp) rfl (by simp) i o b (by simpa using ho)
  have main : ∀ n (L : Array Bool) (a : Act) (w : World) κ sv, L.size = ops.size → L.toList.count false ≤ n → Closed ops.toList (fun i => L.getD i false) →
      Sim X κ sv (stt S0 E V (fun i => L.getD i false) E.length) a w → wpAnyIn X.F 0 X.Z.P .any ops (lift X Q) n L a w := by
    intro n
    have fin : ∀ (L : Array Bool) (a : Act) (w : World) κ sv, L.size = ops.size → (∀ i, i < ops.size → L.getD i false = true) → Sim X κ sv (stt S0 E V (fun i => L.getD i false) E.length) a w → lift X Q .normal a w := by
      intro L a w κ sv hsz hall hsim
      refine ⟨κ, sv, _, hsim, ?_⟩
      have : stt S0 E V (fun i => L.getD i false) E.length = stt S0 E V top E.length := by
        unfold stt
        rw [val_congr (L' := top) _ fun j hj => hall j (by omega), val_congr (L' := top) _ fun j hj => hall j (by omega), val_congr (L' := top) _ fun j hj => hall j (by omega)]
      rw [this]; exact hQ
    have rdy : ∀ (L : Array Bool), L.size = ops.size → Region.ready .any ops L = [] → ∀ i, i < ops.size → L.getD i false = true := by
      intro L hsz hr i
      induction i using Nat.strongRecOn with
      | ind i ih =>
        intro hi
        cases hL : L.getD i false with
        | true => rfl
        | false =>
          exfalso
          have : i ∈ Region.ready .any ops L := by
            refine mem_ready.2 ⟨?_, ops[i], Array.getElem?_eq_getElem hi, fun e he hb => ?_⟩
            · have h1 : i < L.size := by omega
              simp [Array.getD, h1] at hL ⊢; exact hL
            · have hj : e.on ∈ dirB ops[i] := List.mem_map.2 ⟨e, List.mem_filter.2 ⟨by simpa using he, hb⟩, rfl⟩
              have := back (Array.getElem?_eq_getElem hi) _ hj
              exact ih _ this (by omega)
          rw [hr] at this; cases this
    induction n with
    | zero =>
      intro L a w κ sv hsz hcnt hcl hsim
      have hall : ∀ i, i < ops.size → L.getD i false = true := by
        intro i hi
        have h1 : i < L.size := by omega
        have h0 : L.toList.count false = 0 := by omega
        have h2 := List.count_eq_zero.1 h0
        cases hL : L.getD i false with
        | true => rfl
        | false =>
          exfalso
          apply h2
          simp [Array.getD, h1] at hL
          rw [← hL]; exact List.getElem_mem (by simpa using h1)
      refine ⟨?_, fin L a w κ sv hsz hall hsim⟩
      rw [List.eq_nil_iff_forall_not_mem]
      intro i hi
      obtain ⟨h1, o, h2, _⟩ := mem_ready.1 hi
      have h3 : i < ops.size := (Array.getElem?_eq_some_iff.1 h2).1
      have := hall i h3
      have h4 : i < L.size := by omega
      simp [Array.getD, h4] at h1 this
      rw [this] at h1; cases h1
    | succ n ih =>
      intro L a w κ sv hsz hcnt hcl hsim
      refine ⟨fun h0 => fin L a w κ sv hsz (rdy L hsz h0) hsim, fun i hi => ?_⟩
      obtain ⟨h1, o, h2, h3⟩ := mem_ready.1 hi
      have hio : i < ops.size := (Array.getElem?_eq_some_iff.1 h2).1
      have hiL : i < L.size := by omega
      have hLi : L.getD i false = false := by simp [Array.getD, hiL] at h1 ⊢; exact h1
      obtain ⟨ei, hei⟩ := ent (i := i) (by omega)
      have hdir : ∀ j ∈ dirB o, L.getD j false = true := by
        intro j hj
        obtain ⟨e, he, rfl⟩ := List.mem_map.1 hj
        obtain ⟨he1, he2⟩ := List.mem_filter.1 he
        exact h3 e (by simpa using he1) he2
      -- what number i reads is as2 in the text's order
      have order : ∀ j, j < E.length → j ≠ i → ∀ ej, E[j]? = some ej → clash ei ej = true → (L.getD j false = true ↔ j < i) := by
        intro j hj hne ej hej hc
        have hp := pairs_spec hpairs hei hej (Ne.symm hne) (by rw [hc]; rfl)
        constructor
        · intro hLj
          refine Nat.lt_of_le_of_ne (Nat.le_of_not_lt fun hlt => ?_) hne
          rw [if_neg (by omega)] at hp
          obtain ⟨oj, hoj⟩ : ∃ oj, ops[j]? = some oj := ⟨_, Array.getElem?_eq_getElem (by omega)⟩
          have := bits hcl j oj i hoj hp (hcl j oj (by simpa using hoj) hLj)
          rw [hLi] at this; cases this
        · intro hlt
          rw [if_pos hlt] at hp
          exact bits hcl i o j h2 hp hdir
      have agree : Agree (lcF E i) (stt S0 E V top i) (stt S0 E V (fun i => L.getD i false) E.length) := by
        rw [lcF_of hei]
        have hmin : min E.length i = i := by omega
        have key : ∀ (j t : Nat), j < E.length → ((t ∈ ei.1.rr ∧ (wrF E j).t = some t) ∨ (t ∈ ei.1.rg ∧ (wrF E j).g = some t) ∨ (t ∈ ei.1.ro ∧ (wrF E j).o = some t)) → (L.getD j false = true ↔ j < i) := by
          intro j t hj hc
          by_cases e : j = i
          · subst e; rw [hLi]; simp
          · obtain ⟨ej, hej⟩ := ent hj
            rw [wrF_of hej] at hc
            exact order j hj e ej hej (clash_of hc)
        refine ⟨fun t ht => ?_, fun t ht => ?_, fun t ht => ?_⟩
        · have := val_at (w := fun j => (wrF E j).t) (v := fun j => (vlF V j).d) (L := fun i => L.getD i false) (f0 := S0.ρ) (i := i) (l := t) E.length (fun j hj hw => key j t hj (.inl ⟨ht, hw⟩))
          rw [hmin] at this; exact this
        · have := val_at (w := fun j => (wrF E j).g) (v := fun j => (vlF V j).g) (L := fun i => L.getD i false) (f0 := S0.γ) (i := i) (l := t) E.length (fun j hj hw => key j t hj (.inr (.inl ⟨ht, hw⟩)))
          rw [hmin] at this; exact this
        · have := val_at (w := fun j => (wrF E j).o) (v := fun j => (vlF V j).o) (L := fun i => L.getD i false) (f0 := S0.σ) (i := i) (l := t) E.length (fun j hj hw => key j t hj (.inr (.inr ⟨ht, hw⟩)))
          rw [hmin] at this; exact this
      refine wpOpIn_mono ?_ (hs i (by omega) _ agree κ sv a w hsim)
      rintro a' w' ⟨κ', sv', hsim'⟩
      have hLset : (fun k => (L.setIfInBounds i true).getD k false) = fun k => bif Nat.beq k i then true else L.getD k false := by
        funext k
        by_cases e : k = i
        · subst e; rw [Nat.beq_refl]; simp [Array.getD, hiL]
        · have : Nat.beq k i = false := by
            cases hb : Nat.beq k i
            · rfl
            · exact absurd (Nat.eq_of_beq_eq_true hb) e
          rw [this]
          simp only [Array.getD_eq_getD_getElem?, cond_false]
          rw [Array.getElem?_setIfInBounds, if_neg (fun h => e h.symm)]
      refine ih (L.setIfInBounds i true) a' w' κ' sv' (by simp [hsz]) ?_ ?_ ?_
      · rw [Array.toList_setIfInBounds]
        have hget : L.toList[i]'(by simpa using hiL) = false := by simp [Array.getD, hiL] at hLi; simpa using hLi
        have hmem : false ∈ L.toList := hget ▸ List.getElem_mem (by simpa using hiL)
        have hpos := List.count_pos_iff.2 hmem
        rw [List.count_set (by simpa using hiL), hget, if_pos (show (false == false) = true from rfl), if_neg (by decide)]
        omega
      · intro j oj hoj hLj d hd
        have hcong : ∀ k, (L.setIfInBounds i true).getD k false = bif Nat.beq k i then true else L.getD k false := fun k => congrFun hLset k
        simp only [hcong] at hLj ⊢
        by_cases e : d = i
        · subst e; rw [Nat.beq_refl]; rfl
        · have hb : Nat.beq d i = false := by
            cases hb : Nat.beq d i
            · rfl
            · exact absurd (Nat.eq_of_beq_eq_true hb) e
          rw [hb]
          show L.getD d false = true
          by_cases e2 : j = i
          · subst e2
            have : ops[j]? = some oj := by simpa using hoj
            rw [h2] at this
            cases this
            exact hdir d hd
          · have hb2 : Nat.beq j i = false := by
              cases hb : Nat.beq j i
              · rfl
              · exact absurd (Nat.eq_of_beq_eq_true hb) e2
            rw [hb2] at hLj
            exact hcl j oj hoj hLj d hd
      · rw [hLset]
        have hww : ∀ j, i < j → j < E.length → L.getD j false = true → ∀ ej, E[j]? = some ej → clashW ei ej = false := by
          intro j hij hj hLj ej hej
          cases hc : clashW ei ej with
          | false => rfl
          | true =>
            exfalso
            have hp := pairs_spec hpairs hei hej (by omega) (by rw [hc]; simp)
            rw [if_neg (by omega)] at hp
            obtain ⟨oj, hoj⟩ : ∃ oj, ops[j]? = some oj := ⟨_, Array.getElem?_eq_getElem (by omega)⟩
            have := bits hcl j oj i hoj hp (hcl j oj (by simpa using hoj) hLj)
            rw [hLi] at this; cases this
        have kw : ∀ (f : Wr → Option Nat) j, i < j → j < E.length → L.getD j false = true → (∀ a b : Ent, f a.2 = f b.2 → f a.2 ≠ none → clashW a b = true) → f (wrF E i) ≠ f (wrF E j) ∨ f (wrF E i) = none := by
          intro f j h1 h2 h3 h4
          obtain ⟨ej, hej⟩ := ent h2
          have := hww j h1 h2 h3 ej hej
          rw [wrF_of hei, wrF_of hej]
          by_cases e : f ei.2 = none
          · exact .inr e
          · refine .inl fun e2 => ?_
            rw [h4 ei ej e2 e] at this; cases this
        have : stt S0 E V (fun k => bif Nat.beq k i then true else L.getD k false) E.length = (stt S0 E V (fun i => L.getD i false) E.length).app (wrF E i) (vlF V i) := by
          unfold stt St.app
          simp only
          rw [val_add (L := fun i => L.getD i false) hLi E.length (by omega) fun j a b c => kw Wr.t j a b c fun a b h1 h2 => clashW_of (.inl ⟨h1, h2⟩),
            val_add (L := fun i => L.getD i false) hLi E.length (by omega) fun j a b c => kw Wr.g j a b c fun a b h1 h2 => clashW_of (.inr (.inl ⟨h1, h2⟩)),
            val_add (L := fun i => L.getD i false) hLi E.length (by omega) fun j a b c => kw Wr.o j a b c fun a b h1 h2 => clashW_of (.inr (.inr ⟨h1, h2⟩))]
        rw [this]; exact hsim'
  intro κ sv a w hsim
  refine main ops.size (Array.replicate ops.size false) a w κ sv (by simp) (by simp) ?_ ?_
  · intro i o ho hL
    exfalso
    by_cases h : i < ops.size <;> simp [Array.getD, h] at hL
  · have : stt S0 E V (fun i => (Array.replicate ops.size false).getD i false) E.length = S0 := by
      have e : (fun i => (Array.replicate ops.size false).getD i false) = fun _ => false := by
        funext i
        by_cases h : i < ops.size <;> simp [Array.getD, h]
      rw [e]
      have k : ∀ {α : Type} (w : Nat → Option Nat) (v : Nat → α) (f0 : Nat → α) n, val w v (fun _ => false) f0 n = f0 := by
        intro α w v f0 n
        induction n with
        | zero => rfl
        | succ n ih => simp only [val, ih]; rfl
      unfold stt
      rw [k, k, k]
    rw [this]; exact hsim
end
end Go.Ab


/- The rules for regions that draw their order: one for each kind of operation. -/
namespace Go.Ab
open Go Go.RowKit

/-- A state of which only what is read is known. -/
def restr (S : St) (lc : Lc) (h : Nat → Nat) : St := ⟨fun i => bif memN i lc.rr then S.ρ i else .undef, fun s => bif memN s lc.rg then S.γ s else h s, fun s => bif memN s lc.ro then S.σ s else .none⟩

def slotsOf : List Operand → List Nat
  | [] => []
  | .tmp t :: l => t :: slotsOf l
  | _ :: l => slotsOf l
mutual
def plD : D → List Nat
  | .bx s _ _ => [s]
  | .os s _ => [s]
  | .op s _ _ _ _ => [s]
  | .agg l => plL l
  | .tup l => plL l
  | .fn _ l => plL l
  | .mf _ l => plL l
  | _ => []
def plL : List D → List Nat
  | [] => []
  | d :: l => plD d ++ plL l
end
def plS (X : Ctx) (S : St) : List Operand → List Nat
  | [] => []
  | x :: l => plD (S.ev X x) ++ plS X S l
/-- Which operations look at ages (1), and at what places hold (2). -/
def lvl (o : Oper) : Nat := match o.op with
  | .move _ | .assign _ | .pick .. | .binOp .. | .unOp .. | .extract .. | .build .. | .convert .. | .field .. => 0
  | .fieldAddr .. | .nilCheck _ => 1
  | _ => 2
def lcOf (X : Ctx) (S : St) (o : Oper) : Lc :=
  ⟨slotsOf o.op.operands.toList, (match lvl o with | 0 => [] | _ => plS X S o.op.operands.toList), (match lvl o with | 0 => [] | 1 => [] | _ => plS X S o.op.operands.toList)⟩
def Lc.plus (lc : Lc) (gs : List Nat) (as2 : List Nat) : Lc := ⟨gs ++ lc.rr, as2 ++ lc.rg, lc.ro⟩

section
variable {X : Ctx} {Q : Exit → St → Prop} {S S' T : St}
theorem slots_mem {t : Nat} : ∀ {l : List Operand}, Operand.tmp t ∈ l → t ∈ slotsOf l
  | [], h => by cases h
  | x :: l, h => by
    rcases List.mem_cons.1 h with rfl | h
    · simp [slotsOf]
    · have := slots_mem h
      cases x <;> simp [slotsOf, this]
theorem ev_congr {x : Operand} (h : ∀ t, x = .tmp t → T.ρ t = S.ρ t) : T.ev X x = S.ev X x := by
  cases x with
  | tmp t => simp only [St.ev, h t rfl]
  | _ => rfl
theorem pl_mem {x : Operand} {s : Nat} : ∀ {l : List Operand}, x ∈ l → s ∈ plD (S.ev X x) → s ∈ plS X S l
  | [], h, _ => by cases h
  | y :: l, h, hs => by
    unfold plS
    rcases List.mem_cons.1 h with rfl | h
    · exact List.mem_append_left _ hs
    · exact List.mem_append_right _ (pl_mem h hs)

theorem sim_gen {κ : Nat → Nat → Option Value} {sv : Nat → Value} {a : Act} {w : World} (h1 : ∀ i, S'.ρ i = .undef ∨ S'.ρ i = S.ρ i) (h2 : ∀ s, S.γ s ≤ S'.γ s) (h3 : ∀ s, S'.σ s = .none ∨ S'.σ s = S.σ s) (hs : Sim X κ sv S a w) : Sim X κ sv S' a w := by
  have hle : Le κ κ S.γ S'.γ sv sv := ⟨fun _ _ _ h => h, h2, fun _ _ => rfl⟩
  refine ⟨hs.size, hs.defers, fun i hi => ?_, ?_⟩
  · rcases h1 i with h | h
    · rw [h]; exact .undef _
    · rw [h]; exact (hs.slot i hi).mono hle
  · obtain ⟨w1, w2, w3, w4, w5, ⟨M, w6, w6'⟩, w7, w8, w9, w10, w11, w12, w13, w14⟩ := hs.wld
    have hb : ∀ t b, blk (S'.σ t) (sv t) = some b → blk (S.σ t) (sv t) = some b := by
      intro t b h
      rcases h3 t with e | e
      · rw [e] at h; cases h
      · rw [← e]; exact h
    refine ⟨w1, fun s => ?_, fun s t b hs' ht => w3 s t b (hb s b hs') (hb t b ht), fun s b o h => w4 s b o (hb s b h), fun s b h => w5 s b (hb s b h), ⟨M, w6, fun s b h => w6' s b (hb s b h)⟩, fun g l hg => ?_, w8, fun b hb' => ?_, w10, w11.trans hle, w12, fun s b h => w13 s b (hb s b h), w14⟩
    · rcases h3 s with e | e
      · rw [e]; trivial
      · rw [e]; exact owns_mono hle rfl (fun _ _ => rfl) (w2 s)
    · obtain ⟨hc, u, hu, hk⟩ := w7 g l hg
      exact ⟨hc, u, hu.mono hle, hk⟩
    · obtain ⟨e1, e2⟩ := w9 b hb'
      have := h2 0
      exact ⟨by omega, fun e => e2 (by omega)⟩

theorem restr_γ {lc : Lc} (ha : Agree lc S T) : (restr S lc T.γ).γ = T.γ := by
  funext s
  simp only [restr]
  cases h : memN s lc.rg with
  | false => rfl
  | true => exact (ha.rg s (memN_iff.1 h)).symm
theorem sim_restr {lc : Lc} (ha : Agree lc S T) {κ : Nat → Nat → Option Value} {sv : Nat → Value} {a : Act} {w : World} (hs : Sim X κ sv T a w) : Sim X κ sv (restr S lc T.γ) a w := by
  refine sim_gen (fun i => ?_) (fun s => by rw [restr_γ ha]; exact Nat.le_refl _) (fun s => ?_) hs
  · simp only [restr]
    cases h : memN i lc.rr with
    | false => exact .inl rfl
    | true => exact .inr (ha.rr i (memN_iff.1 h)).symm
  · simp only [restr]
    cases h : memN s lc.ro with
    | false => exact .inl rfl
    | true => exact .inr (ha.ro s (memN_iff.1 h)).symm

/-- What only reads, seen from what it reads. -/
def FQ (X : Ctx) (o : Oper) (S : St) (d : D) : Prop := ∀ h, QOp X o (restr S (lcOf X S o) h) d

theorem FQ_intro {o : Oper} {d : D} (h : ∀ h, QOp X o (restr S (lcOf X S o) h) d) : FQ X o S d := h
def Want (X : Ctx) (S : St) (ops : Array Oper) (o : Oper) (gs : List Nat) : Prop :=
  (o.guard = none ∧ gs = []) ∨ ∃ j b t, o.guard = some (j, b) ∧ (ops[j]?).bind (·.dst) = some t ∧ S.ev X (.tmp t) = .bool b ∧ gs = [t]
theorem want_none {ops : Array Oper} {o : Oper} (h : o.guard = none) : Want X S ops o [] := .inl ⟨h, rfl⟩
theorem want_some {ops : Array Oper} {o : Oper} {j t : Nat} {b : Bool} (h : o.guard = some (j, b)) (hj : (ops[j]?).bind (·.dst) = some t) (hb : S.ev X (.tmp t) = .bool b) : Want X S ops o [t] := .inr ⟨j, b, t, h, hj, hb, rfl⟩

variable {ops : Array Oper} {o : Oper} {rest : List Oper} {S0 : St} {E : List Ent} {V : List Vl}
theorem want_at {gs : List Nat} (h : Want X S ops o gs) (ha : ∀ t ∈ gs, T.ρ t = S.ρ t) {κ : Nat → Nat → Option Value} {sv : Nat → Value} {a : Act} {w : World} (hs : Sim X κ sv T a w) : Region.wanted o (yielded ops a.tmps) = true := by
  rcases h with ⟨h, _⟩ | ⟨j, b, t, h1, h2, h3, rfl⟩
  · simp [Region.wanted, h]
  · have : T.ev X (.tmp t) = .bool b := by rw [ev_congr fun t' e => by cases e; exact ha t (by simp)]; exact h3
    rw [wanted_of hs h1 h2 this]; simp

/-- The operations before l have been looked at; from S0 they lead to S. -/
def WG (X : Ctx) (Q : Exit → St → Prop) (ops : Array Oper) (S0 : St) (E : List Ent) (V : List Vl) (l : List Oper) (S : St) : Prop :=
  (∃ pre, ops = (pre ++ l).toArray ∧ pre.length = E.length) → E.length = V.length → (∀ k, k < E.length → Snd X Q ops k (stt S0 E V top k) (lcF E k) (wrF E k) (vlF V k)) → stt S0 E V top E.length = S → Reg X Q ops S0

theorem W_regionG {id : Nat} {l : List Oper} (h : WG X Q l.toArray S [] [] l S) : W X (.region id l.toArray true) Q S := fun κ sv a w hs =>
  wpIn_region_any X.Z.mixed (h ⟨[], rfl, rfl⟩ rfl (fun k hk => by cases hk) rfl κ sv a _ (hs.later (below_drew w)))
theorem WG_nil (hok : okB ops.toList E = true) (h : Q .normal S) : WG X Q ops S0 E V [] S := fun _ _ hs he => reg_ok hok hs (by rw [he]; exact h)

theorem stt_snoc (e : Ent) (v : Vl) (hl : E.length = V.length) : ∀ k, k ≤ E.length → stt S0 (E ++ [e]) (V ++ [v]) top k = stt S0 E V top k := by
  intro k
  induction k with
  | zero => intro _; rfl
  | succ k ih =>
    intro hk
    rw [stt_succ, stt_succ, ih (by omega)]
    have h1 : wrF (E ++ [e]) k = wrF E k := by unfold wrF; rw [List.getElem?_append_left (by omega)]
    have h2 : vlF (V ++ [v]) k = vlF V k := by unfold vlF; rw [List.getElem?_append_left (by omega)]
    rw [h1, h2]

theorem WG_step {lc : Lc} {wr : Wr} {v : Vl} (hS : S.app wr v = S') (hs : ops[E.length]? = some o → Snd X Q ops E.length S lc wr v) (hk : WG X Q ops S0 (E ++ [(lc, wr)]) (V ++ [v]) rest S') : WG X Q ops S0 E V (o :: rest) S := by
  rintro ⟨pre, hp1, hp2⟩ hl hsnd hst
  have hoi : ops[E.length]? = some o := by rw [hp1, ← hp2]; simp
  refine hk ⟨pre ++ [o], by rw [hp1]; simp, by simp [hp2]⟩ (by simp [hl]) (fun k hk => ?_) ?_
  · simp only [List.length_append, List.length_cons, List.length_nil] at hk
    rw [stt_snoc _ _ hl k (by omega)]
    by_cases e : k < E.length
    · have h1 : wrF (E ++ [(lc, wr)]) k = wrF E k := by unfold wrF; rw [List.getElem?_append_left e]
      have h2 : vlF (V ++ [v]) k = vlF V k := by unfold vlF; rw [List.getElem?_append_left (by omega)]
      have h3 : lcF (E ++ [(lc, wr)]) k = lcF E k := by unfold lcF; rw [List.getElem?_append_left e]
      rw [h1, h2, h3]; exact hsnd k e
    · have : k = E.length := by omega
      subst this
      have h1 : wrF (E ++ [(lc, wr)]) E.length = wr := by simp [wrF]
      have h2 : vlF (V ++ [v]) E.length = v := by rw [hl]; simp [vlF]
      have h3 : lcF (E ++ [(lc, wr)]) E.length = lc := by simp [lcF]
      rw [h1, h2, h3, hst]; exact hs hoi
  · rw [List.length_append, List.length_singleton, stt_succ, stt_snoc _ _ hl _ (Nat.le_refl _), hst]
    have h1 : wrF (E ++ [(lc, wr)]) E.length = wr := by simp [wrF]
    have h2 : vlF (V ++ [v]) E.length = v := by rw [hl]; simp [vlF]
    rw [h1, h2]; exact hS

/-- A guard that must be told. -/
theorem WG_tell {j t : Nat} {b c : Bool} (_hg : o.guard = some (j, b)) (_hj : (ops[j]?).bind (·.dst) = some t) (hb : S.ev X (.tmp t) = .bool c)
    (ht : c = true → WG X Q ops S0 E V (o :: rest) (S.set t (.bool true))) (hf : c = false → WG X Q ops S0 E V (o :: rest) (S.set t (.bool false))) : WG X Q ops S0 E V (o :: rest) S := by
  have hρ : S.ρ t = .bool c := by
    simp only [St.ev] at hb
    cases h : Nat.blt t X.nt with
    | false => rw [h] at hb; cases hb
    | true => rw [h] at hb; exact hb
  have same : S.set t (.bool c) = S := by
    have : upd S.ρ t (.bool c) = S.ρ := by
      funext i
      by_cases e : i = t
      · subst e; rw [upd_same, hρ]
      · rw [upd_ne _ _ _ _ e]
    unfold St.set; rw [this]
  cases c with
  | true => have := ht rfl; rwa [same] at this
  | false => have := hf rfl; rwa [same] at this
theorem G_tD {j t : Nat} {b : Bool} {p : Prop} {_ : Decidable p} (hg : o.guard = some (j, b)) (hj : (ops[j]?).bind (·.dst) = some t) (hc : S.ev X (.tmp t) = .bool (decide p)) (ht : p → WG X Q ops S0 E V (o :: rest) (S.set t (.bool true))) (hf : ¬ p → WG X Q ops S0 E V (o :: rest) (S.set t (.bool false))) : WG X Q ops S0 E V (o :: rest) S :=
  WG_tell hg hj hc (fun h => ht (of_decide_eq_true h)) (fun h => hf (of_decide_eq_false h))
theorem agree_plus {lc : Lc} {gs as2 : List Nat} (h : Agree (lc.plus gs as2) S T) : Agree lc S T ∧ (∀ t ∈ gs, T.ρ t = S.ρ t) ∧ (∀ s ∈ as2, T.γ s = S.γ s) :=
  ⟨⟨fun t ht => h.rr t (List.mem_append_right _ ht), fun t ht => h.rg t (List.mem_append_right _ ht), h.ro⟩, fun t ht => h.rr t (List.mem_append_left _ ht), fun t ht => h.rg t (List.mem_append_left _ ht)⟩

theorem WG_q {d : D} {t : Nat} {gs : List Nat} (hw : Want X S ops o gs) (hd : o.dst = some t) (h : FQ X o S d) (hk : WG X Q ops S0 (E ++ [((lcOf X S o).plus gs [], ⟨some t, none, none⟩)]) (V ++ [⟨d, 0, .none⟩]) rest (S.set t d)) : WG X Q ops S0 E V (o :: rest) S := by
  refine WG_step rfl (fun hoi T hT κ sv a w hs => ?_) hk
  obtain ⟨hT1, hT2, _⟩ := agree_plus hT
  obtain ⟨v, h1, h2⟩ := h T.γ κ sv a w (sim_restr hT1 hs)
  rw [restr_γ hT1] at h1
  unfold wpOpIn
  rw [hoi]
  simp only
  rw [if_pos (want_at hw hT2 hs)]
  refine op_val (h2 w (Below.refl _ _)) ?_
  rw [hd]
  exact ⟨κ, sv, hs.put (some t) h1⟩

theorem WG_no {j t t' : Nat} {b c : Bool} (hg : o.guard = some (j, b)) (hj : (ops[j]?).bind (·.dst) = some t) (hb : S.ev X (.tmp t) = .bool c) (hn : (c == b) = false) (hd : o.dst = some t')
    (hk : WG X Q ops S0 (E ++ [(⟨[t], [], []⟩, ⟨some t', none, none⟩)]) (V ++ [⟨.undef, 0, .none⟩]) rest (S.set t' .undef)) : WG X Q ops S0 E V (o :: rest) S := by
  refine WG_step rfl (fun hoi T hT κ sv a w hs => ?_) hk
  have hev : T.ev X (.tmp t) = .bool c := by rw [ev_congr fun t' e => by cases e; exact hT.rr t (by simp)]; exact hb
  have hw := wanted_of hs hg hj hev
  unfold wpOpIn
  rw [hoi]
  simp only
  rw [if_neg (by rw [hw, hn]; simp)]
  rw [hd]
  exact ⟨about_F, κ, sv, hs.putU (some t') _⟩

theorem n_snd {lc : Lc} {gs as2 : List Nat} {wr : Wr} {v : Vl} (hw : Want X S ops o gs) (h : ∀ T, Agree lc S T → (∀ s ∈ as2, T.γ s = S.γ s) → NOp X o T (T.app wr v)) : ops[E.length]? = some o → Snd X Q ops E.length S (lc.plus gs as2) wr v := fun hoi T hT κ sv a w hs => by
  obtain ⟨hT1, hT2, hT3⟩ := agree_plus hT
  obtain ⟨u, w', κ', sv', h1, h2⟩ := h T hT1 hT3 κ sv a w hs
  unfold wpOpIn
  rw [hoi]
  simp only
  rw [if_pos (want_at hw hT2 hs)]
  rcases h1 with h1 | ⟨h1, rfl⟩
  · exact op_val h1 ⟨κ', sv', h2⟩
  · exact op_skip h1 ⟨κ', sv', h2⟩

/-- An operation that lays or writes memory, seen from what it reads. -/
structure FN (X : Ctx) (o : Oper) (S : St) (as2 : List Nat) (wr : Wr) (v : Vl) : Prop where
  run : ∀ T, Agree (lcOf X S o) S T → (∀ s ∈ as2, T.γ s = S.γ s) → NOp X o T (T.app wr v)
theorem WG_n {gs as2 : List Nat} {wr : Wr} {v : Vl} (hw : Want X S ops o gs) (h : FN X o S as2 wr v) (hk : WG X Q ops S0 (E ++ [((lcOf X S o).plus gs as2, wr)]) (V ++ [v]) rest (S.app wr v)) : WG X Q ops S0 E V (o :: rest) S :=
  WG_step rfl (n_snd hw h.run) hk

theorem agree_ev (h : Agree (lcOf X S o) S T) {x : Operand} (hx : x ∈ o.op.operands.toList) : T.ev X x = S.ev X x := ev_congr fun t e => by subst e; exact h.rr t (slots_mem hx)
theorem agree_γ (h : Agree (lcOf X S o) S T) (hl : lvl o ≠ 0) {x : Operand} (hx : x ∈ o.op.operands.toList) {s : Nat} (hs : s ∈ plD (S.ev X x)) : T.γ s = S.γ s := h.rg s (by
  simp only [lcOf]
  cases e : lvl o with
  | zero => exact absurd e hl
  | succ n => exact pl_mem hx hs)
theorem agree_σ (h : Agree (lcOf X S o) S T) (hl : lvl o = 2) {x : Operand} (hx : x ∈ o.op.operands.toList) {s : Nat} (hs : s ∈ plD (S.ev X x)) : T.σ s = S.σ s := h.ro s (by
  simp only [lcOf, hl]; exact pl_mem hx hs)

abbrev wB (s : Nat) : Wr := ⟨some s, some s, some s⟩
theorem boxed_app (s : Nat) (l : List D) (h : T.γ s = S.γ s) : T.boxed s l = T.app (wB s) ⟨.bx s (S.γ s + 1) 0, S.γ s + 1, .box l⟩ := by
  unfold St.boxed St.app; rw [h]; rfl
theorem f_alloc {Ty : TypeId} {r : TRow} {s : Nat} (ho : o.op = .alloc Ty) (hd : o.dst = some s) (hr : nth X.Z.tab Ty = some r) (h9 : Nat.beq r.k 9 = false) : FN X o S [s] (wB s) ⟨.bx s (S.γ s + 1) 0, S.γ s + 1, .box (r.zs.map Zr.toD)⟩ := ⟨fun T _ hs => by
  rw [← boxed_app s _ (hs s (by simp))]
  exact n_alloc ho hd hr h9⟩
theorem f_stb {Ty : TypeId} {r : TRow} {x y : Operand} {s g j : Nat} {l k : List D} {d : D} (ho : o.op = .store Ty x y) (hx : S.ev X x = .bx s g j) (hg : S.γ s = g) (hσ : S.σ s = .box l) (hy : S.ev X y = d) (hc : allCell d.cells = true) (hr : nth X.Z.tab Ty = some r) (h9 : Nat.beq r.k 9 = false) (hn : d.cells.length = r.sz) (hk : overN l j d.cells = some k) (hdst : o.dst = none) :
    FN X o S [] ⟨none, none, some s⟩ ⟨.undef, 0, .box k⟩ := ⟨fun T hT _ => by
  have hl : lvl o = 2 := by simp [lvl, ho]
  have m1 : x ∈ o.op.operands.toList := by rw [ho]; simp [Op.operands]
  have m2 : y ∈ o.op.operands.toList := by rw [ho]; simp [Op.operands]
  have hp : s ∈ plD (S.ev X x) := by rw [hx]; simp [plD]
  exact n_stb ho ((agree_ev hT m1).trans hx) ((agree_γ hT (by rw [hl]; simp) m1 hp).trans hg) ((agree_σ hT hl m1 hp).trans hσ) ((agree_ev hT m2).trans hy) hc hr h9 hn hk hdst⟩
theorem f_sto {Ty : TypeId} {r : TRow} {x y : Operand} {s g z i j E n : Nat} {f : Nat → List D} {k : List D} {d : D} (ho : o.op = .store Ty x y) (hx : S.ev X x = .op s g z i j) (hg : S.γ s = g) (hσ : S.σ s = .arr E z n f) (hi : i < n) (hy : S.ev X y = d) (hc : allCell d.cells = true) (hr : nth X.Z.tab Ty = some r) (h9 : Nat.beq r.k 9 = false) (hn : d.cells.length = r.sz) (hk : overN (f i) j d.cells = some k) (hdst : o.dst = none) :
    FN X o S [] ⟨none, none, some s⟩ ⟨.undef, 0, .arr E z n (updF f i k)⟩ := ⟨fun T hT _ => by
  have hl : lvl o = 2 := by simp [lvl, ho]
  have m1 : x ∈ o.op.operands.toList := by rw [ho]; simp [Op.operands]
  have m2 : y ∈ o.op.operands.toList := by rw [ho]; simp [Op.operands]
  have hp : s ∈ plD (S.ev X x) := by rw [hx]; simp [plD]
  exact n_sto ho ((agree_ev hT m1).trans hx) ((agree_γ hT (by rw [hl]; simp) m1 hp).trans hg) ((agree_σ hT hl m1 hp).trans hσ) hi ((agree_ev hT m2).trans hy) hc hr h9 hn hk hdst⟩
theorem f_bsl {Ty : TypeId} {r q : TRow} {ps : Array (Nat × Operand)} {n z t : Nat} {xs : List Operand} {E : TypeId} {cs : List (List D)} (ho : o.op = .buildSlice Ty n ps) (hd : o.dst = some t) (hsq : seqP 0 ps.toList = some xs) (hn : Nat.beq xs.length n = true) (hr : nth X.Z.tab Ty = some r) (hk : Nat.beq r.k 3 = true) (hE : r.el = E) (hq : nth X.Z.tab E = some q) (hq9 : Nat.beq q.k 9 = false) (hz : q.sz = z) (hz0 : Nat.beq z 0 = false) (hn0 : Nat.beq n 0 = false) (hsm : Nat.ble (n * z) 16777216 = true) (hc : evC X S xs = cs) (hok : okC z cs = true) :
    FN X o S [] ⟨some t, none, none⟩ ⟨.sl z n (nthD cs), 0, .none⟩ := ⟨fun T hT _ => by
  have key : ∀ l : List Operand, (∀ x ∈ l, x ∈ o.op.operands.toList) → evC X T l = evC X S l := by
    intro l
    induction l with
    | nil => intro _; rfl
    | cons x l ih => intro h; simp only [evC]; rw [agree_ev hT (h x (List.mem_cons_self ..)), ih fun y hy => h y (List.mem_cons_of_mem _ hy)]
  have hmem : ∀ x ∈ xs, x ∈ o.op.operands.toList := by
    intro x hx
    rw [ho]
    have h1 := seqP_eq hsq
    simp only [Op.operands]
    rw [h1]
    simp only [List.map_map, List.mem_map, Function.comp_apply]
    obtain ⟨i, hi, rfl⟩ := List.getElem_of_mem hx
    exact ⟨(xs[i], i), by rw [List.mk_mem_zipIdx_iff_getElem?]; simp [hi], rfl⟩
  exact n_bsl ho hd hsq hn hr hk hE hq hq9 hz hz0 hn0 hsm ((key xs hmem).trans hc) hok⟩
theorem f_app {Ty : TypeId} {r q : TRow} {x y : Operand} {s g z n m t n' : Nat} {E : TypeId} {f h f' : Nat → List D} {ts : Array TypeId} (ho : o.op = .call { callee := .builtin .append, args := #[x, y], argTypes := ts }) (hts : ts = #[Ty, Ty]) (hd : o.dst = some t)
    (hx : S.ev X x = .os s g) (hg : S.γ s = g) (hσ : S.σ s = .arr E z n f) (hy : S.ev X y = .sl z m h)
    (hr : nth X.Z.tab Ty = some r) (hk : Nat.beq r.k 3 = true) (hE : r.el = E) (hq : nth X.Z.tab E = some q) (hq9 : Nat.beq q.k 9 = false) (hz : q.sz = z) (hzs : Nat.beq q.zs.length z = true) (hz0 : Nat.beq z 0 = false)
    (hb : (n + m) * q.bytes ≤ 140737488355328) (hm : n + m ≤ 140737488355328) (hn' : n' = n + m) (h1 : ∀ i, i < n → f' i = f i) (h2 : ∀ i, i < m → f' (n + i) = h i) :
    FN X o S [] ⟨some t, some s, some s⟩ ⟨.os s (S.γ s + 1), S.γ s + 1, .arr E z n' f'⟩ := ⟨fun T hT _ => by
  have hl : lvl o = 2 := by simp [lvl, ho]
  have m1 : x ∈ o.op.operands.toList := by rw [ho]; simp [Op.operands, Call.operands]
  have m2 : y ∈ o.op.operands.toList := by rw [ho]; simp [Op.operands, Call.operands]
  have hp : s ∈ plD (S.ev X x) := by rw [hx]; simp [plD]
  have hγ := agree_γ hT (by rw [hl]; simp) m1 hp
  have h := n_app (S := T) ho hts hd ((agree_ev hT m1).trans hx) (hγ.trans hg) ((agree_σ hT hl m1 hp).trans hσ) ((agree_ev hT m2).trans hy) hr hk hE hq hq9 hz hzs hz0 hb hm hn' h1 h2
  have : T.owned t s (.arr E z n' f') = T.app ⟨some t, some s, some s⟩ ⟨.os s (S.γ s + 1), S.γ s + 1, .arr E z n' f'⟩ := by
    unfold St.owned St.app; rw [hγ]; rfl
  rw [← this]; exact h⟩

theorem WG_call {f : FuncId} {xs : Array Operand} {ts : Array TypeId} {A : List D} {R : D} {t : Nat} {gs : List Nat} (hw : Want X S ops o gs) (ho : o.op = .call { callee := .value (.func f), args := xs, argTypes := ts }) (hd : o.dst = some t) (hA : xs.toList.map (S.ev X) = A) (hc : Contract X.Z f A R)
    (hk : WG X Q ops S0 (E ++ [(⟨gs ++ slotsOf xs.toList, [], []⟩, ⟨some t, none, none⟩)]) (V ++ [⟨R, 0, .none⟩]) rest (S.set t R)) : WG X Q ops S0 E V (o :: rest) S := by
  refine WG_step rfl (fun hoi T hT κ sv a w hs => ?_) hk
  have hA' : xs.toList.map (T.ev X) = A := by
    rw [← hA]
    exact List.map_congr_left fun x hx => ev_congr fun t e => by subst e; exact hT.rr t (List.mem_append_right _ (slots_mem hx))
  unfold wpOpIn
  rw [hoi]
  simp only
  rw [if_pos (want_at hw (fun t ht => hT.rr t (List.mem_append_left _ ht)) hs)]
  have hrp := evs_rep hs xs.toList
  rw [hA'] at hrp
  refine op_call (run_call hc.body ho) (hc.calls w κ _ (Sim.fits hs.wld) (Sim.globOk hs.wld) (hrp.pure (fun _ _ _ h => h) hc.pureA)) ?_
  rintro e w' ⟨v, rfl, hv, hb2⟩
  refine ⟨v, rfl, ?_⟩
  rw [hd]
  have hs' : Sim X (growK κ w w') sv T a w' := ⟨hs.size, hs.defers.later hb2, fun i hi => (hs.slot i hi).mono (le_growK hs.wld.imm w'), hs.wld.grow hb2⟩
  exact ⟨_, sv, hs'.put (some t) (hv.pure (fun _ _ _ h => h) hc.pureR)⟩

mutual
theorem fz_agree : ∀ {d d' : D}, Fz S d d' → (∀ s ∈ plD d, T.γ s = S.γ s) → (∀ s ∈ plD d, T.σ s = S.σ s) → Fz T d d'
  | _, _, .same d, _, _ => .same d
  | _, _, .os s g E z n f h1 h2, a, b => .os s g E z n f ((a s (by simp [plD])).trans h1) ((b s (by simp [plD])).trans h2)
  | _, _, .bx s g o l h1 h2, a, b => .bx s g o l ((a s (by simp [plD])).trans h1) ((b s (by simp [plD])).trans h2)
  | _, _, .fn f c c' h, a, b => .fn f c c' (fzL_agree h (fun s hs => a s (by simpa [plD] using hs)) (fun s hs => b s (by simpa [plD] using hs)))
  | _, _, .agg l l' h, a, b => .agg l l' (fzL_agree h (fun s hs => a s (by simpa [plD] using hs)) (fun s hs => b s (by simpa [plD] using hs)))
theorem fzL_agree : ∀ {l l' : List D}, FzL S l l' → (∀ s ∈ plL l, T.γ s = S.γ s) → (∀ s ∈ plL l, T.σ s = S.σ s) → FzL T l l'
  | _, _, .nil, _, _ => .nil
  | _, _, .cons d d' l l' h1 h2, a, b => .cons d d' l l' (fz_agree h1 (fun s hs => a s (by simp [plL, hs])) (fun s hs => b s (by simp [plL, hs]))) (fzL_agree h2 (fun s hs => a s (by simp [plL, hs])) (fun s hs => b s (by simp [plL, hs])))
end
theorem plS_map : ∀ {l : List Operand}, plS X S l = plL (l.map (S.ev X))
  | [] => rfl
  | x :: l => by simp only [plS, List.map_cons, plL, plS_map]
theorem WG_calls {f : FuncId} {xs : Array Operand} {ts : Array TypeId} {A : List D} {R : D} {v0 : Value} {t : Nat} {gs : List Nat} (hw : Want X S ops o gs) (ho : o.op = .call { callee := .value (.func f), args := xs, argTypes := ts }) (hd : o.dst = some t) (hA : FzL S (xs.toList.map (S.ev X)) A) (hc : Contract X.Z f A R) (hR : scal R = some v0)
    (hk : WG X Q ops S0 (E ++ [(⟨gs ++ slotsOf xs.toList, plS X S xs.toList, plS X S xs.toList⟩, ⟨some t, none, none⟩)]) (V ++ [⟨R, 0, .none⟩]) rest (S.set t R)) : WG X Q ops S0 E V (o :: rest) S := by
  refine WG_step rfl (fun hoi T hT κ sv a w hs => ?_) hk
  have hm : xs.toList.map (T.ev X) = xs.toList.map (S.ev X) := List.map_congr_left fun x hx => ev_congr fun t e => by subst e; exact hT.rr t (List.mem_append_right _ (slots_mem hx))
  have hA' : FzL T (xs.toList.map (T.ev X)) A := by
    rw [hm]
    exact fzL_agree hA (fun s hs => hT.rg s (by show s ∈ plS X S xs.toList; rw [plS_map]; exact hs)) (fun s hs => hT.ro s (by show s ∈ plS X S xs.toList; rw [plS_map]; exact hs))
  unfold wpOpIn
  rw [hoi]
  simp only
  rw [if_pos (want_at hw (fun t ht => hT.rr t (List.mem_append_left _ ht)) hs)]
  refine op_call (run_call hc.body ho) (call_scal hs hc hA' hR w (Below.refl _ _)) ?_
  rintro e w' ⟨rfl, hb⟩
  refine ⟨v0, rfl, ?_⟩
  rw [hd]
  exact ⟨κ, sv, (hs.later hb).put (some t) (scal_rep hR)⟩
end
end Go.Ab


/- Loops of which only what varies is written down. -/
namespace Go.Ab
open Go Go.RowKit

def keepR (S : St) : List Nat → List (Nat × D)
  | [] => []
  | i :: l => (i, S.ρ i) :: keepR S l
def keepG (S : St) : List Nat → List (Nat × Nat)
  | [] => []
  | i :: l => (i, S.γ i) :: keepG S l
def keepO (S : St) : List Nat → List (Nat × Own)
  | [] => []
  | i :: l => (i, S.σ i) :: keepO S l
theorem keepR_ok (S : St) : ∀ l, AllE S.ρ (keepR S l)
  | [] => trivial
  | _ :: l => ⟨rfl, keepR_ok S l⟩
theorem keepG_ok (S : St) : ∀ l, AllE S.γ (keepG S l)
  | [] => trivial
  | _ :: l => ⟨rfl, keepG_ok S l⟩
theorem keepO_ok (S : St) : ∀ l, AllE S.σ (keepO S l)
  | [] => trivial
  | _ :: l => ⟨rfl, keepO_ok S l⟩
def KeepR (S S' : St) : List Nat → Prop
  | [] => True
  | i :: l => S'.ρ i = S.ρ i ∧ KeepR S S' l
def KeepP (S S' : St) : List Nat → Prop
  | [] => True
  | i :: l => (S'.γ i = S.γ i ∧ S'.σ i = S.σ i) ∧ KeepP S S' l
theorem allE_append {α : Type} {f : Nat → α} : ∀ {l l' : List (Nat × α)}, AllE f l → AllE f l' → AllE f (l ++ l')
  | [], _, _, h => h
  | _ :: _, _, h1, h => ⟨h1.1, allE_append h1.2 h⟩
theorem keepR_all {S S' : St} : ∀ {l : List Nat}, KeepR S S' l → AllE S'.ρ (keepR S l)
  | [], _ => trivial
  | _ :: _, h => ⟨h.1, keepR_all h.2⟩
theorem keepG_all {S S' : St} : ∀ {l : List Nat}, KeepP S S' l → AllE S'.γ (keepG S l)
  | [], _ => trivial
  | _ :: _, h => ⟨h.1.1, keepG_all h.2⟩
theorem keepO_all {S S' : St} : ∀ {l : List Nat}, KeepP S S' l → AllE S'.σ (keepO S l)
  | [], _ => trivial
  | _ :: _, h => ⟨h.1.2, keepO_all h.2⟩

/-- What a state of a loop has to have. -/
structure MatchK (S S' : St) (kr kp : List Nat) (rs : List (Nat × D)) (gs : List (Nat × Nat)) (os : List (Nat × Own)) : Prop where
  rs : AllE S'.ρ rs
  gs : AllE S'.γ gs
  os : AllE S'.σ os
  kr : KeepR S S' kr
  kp : KeepP S S' kp
/-- The state at a loop's head: what is written down, and what is kept of the state ahead of it. -/
def mkK (S : St) (kr kp : List Nat) (rs : List (Nat × D)) (gs : List (Nat × Nat)) (os : List (Nat × Own)) (h : Nat → Nat) : St :=
  mk (rs ++ keepR S kr) (gs ++ keepG S kp) (os ++ keepO S kp) h

theorem matchK_match {S S' : St} {kr kp : List Nat} {rs : List (Nat × D)} {gs : List (Nat × Nat)} {os : List (Nat × Own)} (h : MatchK S S' kr kp rs gs os) :
    Match S' (rs ++ keepR S kr) (gs ++ keepG S kp) (os ++ keepO S kp) :=
  ⟨allE_append h.rs (keepR_all h.kr), allE_append h.gs (keepG_all h.kp), allE_append h.os (keepO_all h.kp)⟩

theorem consI {k : IntKind} {a b : Int} {l m : List D} (h : a = b) (h2 : l = m) : D.int k a :: l = D.int k b :: m := by rw [h, h2]
theorem consS {d : D} {l m : List D} (h : l = m) : d :: l = d :: m := by rw [h]
section
variable {X : Ctx} {Q : Exit → St → Prop} {S : St}
theorem W_loopK {c : Code} {α : Type} (kr kp : List Nat) (rs : α → List (Nat × D)) (gs : α → List (Nat × Nat)) (os : α → List (Nat × Own)) (inv : α → Prop) (μ : α → Nat) (x0 : α) (h0 : inv x0) (hs : AllE S.ρ (rs x0) ∧ AllE S.γ (gs x0) ∧ AllE S.σ (os x0))
    (round : ∀ x h, inv x → W X c (thenQ (fun S' => ∃ x', inv x' ∧ μ x' < μ x ∧ MatchK S S' kr kp (rs x') (gs x') (os x')) Q) (mkK S kr kp (rs x) (gs x) (os x) h)) : W X (.loop c) Q S := by
  refine W_loopM (fun x => rs x ++ keepR S kr) (fun x => gs x ++ keepG S kp) (fun x => os x ++ keepO S kp) inv μ x0 h0 ⟨allE_append hs.1 (keepR_ok S kr), allE_append hs.2.1 (keepG_ok S kp), allE_append hs.2.2 (keepO_ok S kp)⟩ (fun x h hi => ?_)
  refine W_mono (round x h hi) (fun e S' hq => ?_)
  cases e with
  | normal =>
    obtain ⟨x', h1, h2, h3⟩ := hq
    exact ⟨x', h1, h2, matchK_match h3⟩
  | _ => exact hq
end
end Go.Ab


/- More rules: literals that are written later, slices in elements, equality of structs, nil slices in boxes. -/
namespace Go.Ab
open Go Go.RowKit

/- A loop's end may be reached by way of weakenings. -/
def ReachK (X : Ctx) (S S' : St) (kr kp : List Nat) (rs : List (Nat × D)) (gs : List (Nat × Nat)) (os : List (Nat × Own)) : Prop := ∃ S'', Wk X S' S'' ∧ MatchK S S'' kr kp rs gs os
section
variable {X : Ctx} {Q : Exit → St → Prop} {S S' S'' : St} {kr kp : List Nat} {rs : List (Nat × D)} {gs : List (Nat × Nat)} {os : List (Nat × Own)}
theorem reach_now (h : MatchK S S' kr kp rs gs os) : ReachK X S S' kr kp rs gs os := ⟨S', Wk.refl _ _, h⟩
theorem reach_wk (hw : Wk X S' S'') (h : ReachK X S S'' kr kp rs gs os) : ReachK X S S' kr kp rs gs os :=
  let ⟨T, h1, h2⟩ := h
  ⟨T, hw.trans h1, h2⟩
theorem W_loopR {c : Code} {α : Type} (kr kp : List Nat) (rs : α → List (Nat × D)) (gs : α → List (Nat × Nat)) (os : α → List (Nat × Own)) (inv : α → Prop) (μ : α → Nat) (x0 : α) (h0 : inv x0) (hs : AllE S.ρ (rs x0) ∧ AllE S.γ (gs x0) ∧ AllE S.σ (os x0))
    (round : ∀ x h, inv x → W X c (thenQ (fun S' => ∃ x', inv x' ∧ μ x' < μ x ∧ ReachK X S S' kr kp (rs x') (gs x') (os x')) Q) (mkK S kr kp (rs x) (gs x) (os x) h)) : W X (.loop c) Q S := by
  refine W_loop (α := α × (Nat → Nat)) (fun x => mkK S kr kp (rs x.1) (gs x.1) (os x.1) x.2) (fun x => inv x.1) (fun x => μ x.1) (x0, S.γ) h0
    (wk_mk ⟨allE_append hs.1 (keepR_ok S kr), allE_append hs.2.1 (keepG_ok S kp), allE_append hs.2.2 (keepO_ok S kp)⟩) (fun x hi => ?_)
  refine W_mono (round x.1 x.2 hi) (fun e S' hq => ?_)
  cases e with
  | normal =>
    obtain ⟨x', h1, h2, S'', h3, h4⟩ := hq
    exact ⟨(x', S''.γ), h1, h2, h3.trans (wk_mk (matchK_match h4))⟩
  | _ => exact hq
end

/- Equality of structs whose fields fill one cell each. -/
def fieldOk (P : Program) (f : Field) : D → Bool
  | .int _ _ => f.name != "_" && (match P.underlying f.type with | some (.int _) => true | _ => false)
  | .bool _ => f.name != "_" && (match P.underlying f.type with | some .bool => true | _ => false)
  | _ => false
def fieldsOk (P : Program) : List Field → List D → Nat → Bool
  | [], [], _ => true
  | f :: fs, d :: ds, n => fieldOk P f d && Nat.beq f.offset n && fieldsOk P fs ds (n + 1)
  | _, _, _ => false
def flatB (P : Program) (T : TypeId) (l : List D) : Bool := match P.underlying T with
  | some (.struct fs) => !P.stoodInHeld T && fieldsOk P fs.toList l 0 && !P.eqGuardType P.depth T
  | _ => false
def eqL : List D → List D → Option Bool
  | [], [] => some true
  | .int k a :: l, .int k' b :: m => match k == k', eqL l m with | true, some r => some (decide (a = b) && r) | _, _ => none
  | .bool a :: l, .bool b :: m => match eqL l m with | some r => some (a == b && r) | none => none
  | _, _ => none
section
variable {P : Program} {κ : Nat → Nat → Option Value} {γ : Nat → Nat} {sv : Nat → Value}
theorem run_fields (w : World) (d : Nat) : ∀ (fs : List Field) (l m : List D) (xs ys : List Value) (pre pre' : List Value) (b : Bool), RepL κ γ sv l xs → RepL κ γ sv m ys → pre.length = pre'.length →
    fieldsOk P fs l pre.length = true → eqL l m = some b → (Op.eqFields (d + 1) (pre ++ xs).toArray (pre' ++ ys).toArray fs).run P w = .ok b w := by
  intro fs
  induction fs with
  | nil =>
    intro l m xs ys pre pre' b h1 h2 hp hf he
    cases l with
    | cons x l => simp [fieldsOk] at hf
    | nil =>
      cases m with
      | nil => simp [eqL] at he; subst he; simp [Op.eqFields]
      | cons x m => simp [eqL] at he
  | cons f fs ih =>
    intro l m xs ys pre pre' b h1 h2 hp hf he
    cases l with
    | nil => simp [fieldsOk] at hf
    | cons x l =>
      simp only [fieldsOk, Bool.and_eq_true] at hf
      obtain ⟨⟨hf1, hf2⟩, hf3⟩ := hf
      have hoff := Nat.eq_of_beq_eq_true hf2
      cases m with
      | nil => cases x <;> simp [eqL] at he
      | cons y m =>
        cases h1 with
        | cons _ vx _ vxs r1 rs1 =>
          cases h2 with
          | cons _ vy _ vys r2 rs2 =>
            have key : ∀ (r b' : Bool), f.name ≠ "_" → P.plainKey f.type = true → eqL l m = some b' → (Op.equalIn (d + 1) f.type vx vy).run P w = .ok r w → b = (r && b') → (Op.eqFields (d + 1) (pre ++ vx :: vxs).toArray (pre' ++ vy :: vys).toArray (f :: fs)).run P w = .ok b w := by
              intro r b' hn hk hb' hr hb
              have p1 : (part f.type (pre ++ vx :: vxs).toArray f.offset).run P w = .ok vx w := run_part_plain w hk (by rw [hoff]; simp)
              have p2 : (part f.type (pre' ++ vy :: vys).toArray f.offset).run P w = .ok vy w := run_part_plain w hk (by rw [hoff, hp]; simp)
              have hrest := ih l m vxs vys (pre ++ [vx]) (pre' ++ [vy]) b' rs1 rs2 (by simp [hp]) (by rw [List.length_append]; exact hf3) hb'
              simp only [List.append_assoc, List.singleton_append] at hrest
              simp only [Op.eqFields, hn, ne_eq, not_false_eq_true, if_true, Sem.run_bind, p1, p2, hr, Result.andThen_ok]
              cases r with
              | false => simp [hb]
              | true => simpa [hb] using hrest
            cases x <;> cases y <;> simp only [eqL] at he <;> try (cases he; done)
            · rename_i k1 a k2 c
              cases r1; cases r2
              simp only [fieldOk, Bool.and_eq_true] at hf1
              obtain ⟨hn, hu⟩ := hf1
              cases hkk : k1 == k2 with
              | false => rw [hkk] at he; simp at he
              | true =>
                have : k1 = k2 := by simpa using hkk
                subst this
                rw [hkk] at he
                cases he2 : eqL l m with
                | none => rw [he2] at he; cases he
                | some r =>
                  rw [he2] at he
                  simp only [Option.some.injEq] at he
                  cases hT : P.underlying f.type with
                  | none => simp [hT] at hu
                  | some dd =>
                    cases dd <;> simp [hT] at hu
                    refine key (a == c) r (by simpa using hn) (by simp [Program.plainKey, hT]) he2 (by simp [Op.equalIn, run_underlying hT]) (by rw [← he]; first | rfl | simp)
            · rename_i a c
              cases r1; cases r2
              simp only [fieldOk, Bool.and_eq_true] at hf1
              obtain ⟨hn, hu⟩ := hf1
              cases he2 : eqL l m with
              | none => rw [he2] at he; cases he
              | some r =>
                rw [he2] at he
                simp only [Option.some.injEq] at he
                cases hT : P.underlying f.type with
                | none => simp [hT] at hu
                | some dd =>
                  cases dd <;> simp [hT] at hu
                  refine key (a == c) r (by simpa using hn) (by simp [Program.plainKey, hT]) he2 (by simp [Op.equalIn, run_underlying hT]) (by rw [← he])
theorem run_eq_flat (w : World) (d : Nat) {T : TypeId} {l m : List D} {xs ys : List Value} {b : Bool} (hf : flatB P T l = true) (h1 : RepL κ γ sv l xs) (h2 : RepL κ γ sv m ys) (he : eqL l m = some b) :
    (Op.equalIn (d + 2) T (.agg xs.toArray) (.agg ys.toArray)).run P w = .ok b w := by
  unfold flatB at hf
  cases hu : P.underlying T with
  | none => simp [hu] at hf
  | some dd =>
    cases dd <;> simp only [hu] at hf <;> try (cases hf; done)
    rename_i fs
    simp only [Bool.and_eq_true, Bool.not_eq_true'] at hf
    have hfs : P.fieldsOf T = fs := by simp [Program.fieldsOf, hu]
    rw [run_equalIn_struct w (d + 1) T _ _ (by rw [hfs]; exact hu) hf.1.1, hfs]
    exact run_fields w d fs.toList l m xs ys [] [] b h1 h2 rfl hf.1.2 he
theorem flat_guard {T : TypeId} {l : List D} (hf : flatB P T l = true) : P.eqGuardType P.depth T = false := by
  unfold flatB at hf
  cases hu : P.underlying T with
  | none => simp [hu] at hf
  | some dd =>
    cases dd <;> simp only [hu] at hf <;> try (cases hf; done)
    simp only [Bool.and_eq_true, Bool.not_eq_true'] at hf
    exact hf.2
end
section
variable {X : Ctx} {S : St} {o : Oper} {T T2 : TypeId} {x y : Operand}
theorem ev_agg {κ : Nat → Nat → Option Value} {sv : Nat → Value} {a : Act} {w : World} (hs : Sim X κ sv S a w) {l : List D} (h : S.ev X x = .agg l) : ∃ vs, a.eval x = .agg vs.toArray ∧ RepL κ S.γ sv l vs := by
  have h1 := hs.ev x
  rw [h] at h1
  generalize a.eval x = v at h1
  cases h1 with
  | agg _ vs hv => exact ⟨vs, rfl, hv⟩
theorem q_eqA {l m : List D} {b : Bool} (ho : o.op = .binOp .eql T x y T2) (hx : S.ev X x = .agg l) (hy : S.ev X y = .agg m) (he : eqL l m = some b) (hf : flatB X.Z.P T l = true) : QOp X o S (.bool b) := fun κ sv a w hs => by
  obtain ⟨xs, e1, r1⟩ := ev_agg hs hx
  obtain ⟨ys, e2, r2⟩ := ev_agg hs hy
  refine ⟨.bool b, .bool _, fun w' _ => ?_⟩
  have := run_eq_flat (P := X.Z.P) w' 9998 hf r1 r2 he
  simp [execOp, ho, e1, e2, eqGuard, binOp, Op.equal, Op.maxDepth, this, flat_guard hf]
theorem q_neA {l m : List D} {b : Bool} (ho : o.op = .binOp .neq T x y T2) (hx : S.ev X x = .agg l) (hy : S.ev X y = .agg m) (he : eqL l m = some b) (hf : flatB X.Z.P T l = true) : QOp X o S (.bool (!b)) := fun κ sv a w hs => by
  obtain ⟨xs, e1, r1⟩ := ev_agg hs hx
  obtain ⟨ys, e2, r2⟩ := ev_agg hs hy
  refine ⟨.bool (!b), .bool _, fun w' _ => ?_⟩
  have := run_eq_flat (P := X.Z.P) w' 9998 hf r1 r2 he
  simp [execOp, ho, e1, e2, eqGuard, binOp, Op.equal, Op.maxDepth, this, flat_guard hf]
end

/- Literals that are written later. -/
section
variable {X : Ctx} {Q : Exit → St → Prop} {S S' : St} {ops : Array Oper} {o : Oper} {rest : List Oper} {T : TypeId} {r q : TRow}
theorem n_bsl0 {ps : Array (Nat × Operand)} {t z : Nat} {E : TypeId} (f : Nat → List D) (ho : o.op = .buildSlice T 0 ps) (hd : o.dst = some t) (hps : ps = #[])
    (hr : nth X.Z.tab T = some r) (hk : Nat.beq r.k 3 = true) (hE : r.el = E) (hq : nth X.Z.tab E = some q) (hq9 : Nat.beq q.k 9 = false) (hz : q.sz = z) :
    NOp X o S (S.owned t t (.arr E z 0 f)) := fun κ sv a w hs => by
  have hokr := X.Z.tabOk _ _ hr (by intro e; rw [e] at hk; cases hk)
  have hokq := X.Z.tabOk _ _ hq (by intro e; rw [e] at hq9; cases hq9)
  obtain ⟨iq, dq, hiq, hdq, hsq, hbq, ⟨zv, hzv, hzf⟩, _⟩ := row_info hokq
  have hu := slice_row hokr hk
  rw [hE] at hu
  have hrun : (execOp a.eval o).run X.Z.P w = .ok (.value (.slice (some ⟨w.heap.size, 0, none⟩) 0 0)) (w.alloc (.cells #[] E)) := by
    have hz0 : (Array.range 0).map (fun _ => (default : Value)) = #[] := by
      apply Array.eq_empty_of_size_eq_zero; simp
    simp [execOp, ho, hps, Instr.buildSlice, run_underlying hu, sizeOf, typeInfo, hiq, newRow, Instr.fill, hz0]
  have hb' : Below w.heap.size w (w.alloc (.cells #[] E)) := (Below.refl _ _).alloc (Nat.le_refl _) _
  rw [hd]
  refine ⟨_, _, κ, _, .inl hrun, sim_owned hs t t (pv := .slice (some ⟨w.heap.size, 0, none⟩) 0 0) rfl (below_grown hb' _) (fun b hb => by simp only [blk, Option.some.injEq] at hb; exact .inl (by omega)) ?_⟩
  refine ⟨[], by rw [upd_same]; exact ⟨by simp, .inr ⟨w.heap.size, 0, #[], rfl, hs.wld.base, heap_alloc_new w _, Nat.le_refl _, Nat.zero_le _, by simp, by simp⟩⟩, fun i h => by omega, fun i h => by omega, fun i h => by omega⟩
theorem n_bslo {ps : Array (Nat × Operand)} {n z t : Nat} {xs : List Operand} {E : TypeId} {cs : List (List D)} (ho : o.op = .buildSlice T n ps) (hd : o.dst = some t) (hsq : seqP 0 ps.toList = some xs) (hn : Nat.beq xs.length n = true)
    (hr : nth X.Z.tab T = some r) (hk : Nat.beq r.k 3 = true) (hE : r.el = E) (hq : nth X.Z.tab E = some q) (hq9 : Nat.beq q.k 9 = false) (hz : q.sz = z) (hz0 : Nat.beq z 0 = false) (hn0 : Nat.beq n 0 = false) (hsm : Nat.ble (n * z) 16777216 = true) (hc : evC X S xs = cs) (hok : okC z cs = true) :
    NOp X o S (S.owned t t (.arr E z n (nthD cs))) := fun κ sv a w hs => by
  subst hc
  obtain ⟨hrun, hfl⟩ := run_bsl hs ho hsq hn hr hk hE hq hq9 hz hz0 hn0 hsm hok
  obtain ⟨hrep, hcells⟩ := evC_rep hs hok
  have hlen : xs.length = n := Nat.eq_of_beq_eq_true hn
  have hz1 : 0 < z := by
    cases z with
    | zero => cases hz0
    | succ z => omega
  have hle : n * z ≤ 16777216 := Nat.le_of_ble_eq_true hsm
  have hnz : n ≤ n * z := Nat.le_mul_of_pos_right n hz1
  have hb' : Below w.heap.size w (w.alloc (.cells ((xs.map a.eval).map (·.cells.toList)).flatten.toArray E)) := (Below.refl _ _).alloc (Nat.le_refl _) _
  rw [hd]
  refine ⟨_, _, κ, _, .inl hrun, sim_owned hs t t (pv := .slice (some ⟨w.heap.size, 0, none⟩) n n) rfl (below_grown hb' _) (fun b hb => by simp only [blk, Option.some.injEq] at hb; exact .inl (by omega)) ?_⟩
  have hnth : ∀ i, i < n → ∃ c, nth (evC X S xs) i = some c ∧ nthD (evC X S xs) i = c := by
    intro i hi
    rw [nth_eq]
    have : i < (evC X S xs).length := by rw [evC_length, hlen]; exact hi
    exact ⟨(evC X S xs)[i], by simp [this], by simp [nthD, nth_eq, this]⟩
  refine ⟨((xs.map a.eval).map (·.cells.toList)).flatten, by rw [upd_same]; exact ⟨hfl, .inr ⟨w.heap.size, n, ((xs.map a.eval).map (·.cells.toList)).flatten.toArray, rfl, hs.wld.base, heap_alloc_new w _, Nat.le_refl _, by unfold maxLen; omega, by rw [List.size_toArray]; exact hfl, by rw [List.take_of_length_le (by simp only [List.toList_toArray]; omega)]⟩⟩, fun i hi => ?_, fun i hi => ?_, fun i hi => ?_⟩
  · obtain ⟨c, h1, h2⟩ := hnth i hi; rw [h2]; exact (hrep i c h1).1
  · obtain ⟨c, h1, h2⟩ := hnth i hi; rw [h2]; exact (hrep i c h1).2.1
  · obtain ⟨c, h1, h2⟩ := hnth i hi
    obtain ⟨_, _, v, h3, h4⟩ := hrep i c h1
    rw [h2]
    have hch : ((((xs.map a.eval).map (·.cells.toList)).flatten).drop (i * z)).take z = v.cells.toList := by
      apply List.ext_getElem?
      intro j
      rw [List.getElem?_take]
      split
      · rename_i hj
        rw [List.getElem?_drop, flat_at _ (z := z) (fun c hc => by
          obtain ⟨v, hv, rfl⟩ := List.mem_map.1 hc
          simpa using (hcells v hv).1) i j hj]
        rw [List.getElem?_map, h3]; rfl
      · rename_i hj
        have hv : v ∈ xs.map a.eval := List.mem_of_getElem? h3
        have := (hcells v hv).1
        rw [List.getElem?_eq_none (by simp at this ⊢; omega)]
    rw [hch]
    exact h4.mono (le_renew κ S.γ sv t _)

/-- A slice of the call's own, in an element of another one, is never written again. -/
theorem wk_freeze_elem (t i j : Nat) {s g E z n E2 z2 n2 : Nat} {f f2 f2' : Nat → List D} {l0 l' : List D} (hσt : S.σ t = .arr E2 z2 n2 f2) (hne : Nat.beq t s = false) (hi : i < n2) (h0 : f2 i = l0) (hl : nth l0 j = some (.os s g)) (hg : S.γ s = g) (hσ : S.σ s = .arr E z n f) (hl' : overN l0 j [.sl z n f] = some l') (hf : ∀ k, k < n2 → f2' k = if k = i then l' else f2 k) :
    Wk X S ⟨S.ρ, S.γ, upd (upd S.σ s .none) t (.arr E2 z2 n2 f2')⟩ := fun κ sv a w hs => by
  have hle := freeze_le hs.wld s
  subst h0
  have hne : t ≠ s := fun e => by rw [e, Nat.beq_refl] at hne; cases hne
  have hW := hs.wld.freeze s (arr_new hs.wld hσ) S.ρ
  obtain ⟨hl'e, hlen⟩ := overN_eq hl'
  have hown := hW.own t
  simp only [upd_ne _ _ _ _ hne, hσt] at hown
  obtain ⟨xs, e1, e2, e3, e4⟩ := hown
  have hsim : SimW X (fun b o => if blk (S.σ s) (sv s) = some b then w.cell? ⟨b, o, none⟩ else κ b o) sv ⟨S.ρ, S.γ, upd (upd S.σ s .none) t (.arr E2 z2 n2 f2')⟩ w := by
    refine hW.rewrite t (.arr E2 z2 n2 f2') (below_grown (Below.refl _ _) _) (by
      simp only [upd_ne _ _ _ _ hne, hσt]
      cases sv t with
      | pointer a => cases a <;> rfl
      | slice a => cases a <;> rfl
      | _ => rfl) ⟨xs, e1, fun k hk => ?_, fun k hk => ?_, fun k hk => ?_⟩ _
    · rw [hf k hk]
      split
      · rename_i h; subst h; rw [hl'e]; have := e2 k hk; simp at hlen ⊢; omega
      · exact e2 k hk
    · rw [hf k hk]
      split
      · rename_i h; subst h; rw [hl'e]; exact allCell_append (allCell_append (allCell_take (e3 k hk) _) rfl) (allCell_drop (e3 k hk) _)
      · exact e3 k hk
    · rw [hf k hk]
      split
      · rename_i h
        subst h
        rw [hl'e]
        have e3' := e4 k hk
        rw [nth_eq] at hl
        obtain ⟨vj, hvj, hrj⟩ := e3'.get hl
        generalize (xs.drop (k * z2)).take z2 = cs at e3' hvj
        have hjl : j < cs.length := (List.getElem?_eq_some_iff.1 hvj).1
        have hcs : cs = cs.take j ++ [vj] ++ cs.drop (j + 1) := by
          have h3 : cs[j] = vj := by simpa [List.getElem?_eq_getElem hjl] using hvj
          rw [← h3, List.append_assoc, List.singleton_append, List.getElem_cons_drop, List.take_append_drop]
        rw [hcs]
        refine ((e3'.take j).append (.cons _ _ _ _ ?_ .nil)).append (e3'.drop _)
        have hv : vj = sv s := by
          cases hrj with
          | os _ _ _ _ hh _ => exact hh hg.symm
        rw [hv]
        exact frozen_rep hs.wld hσ hle (fun b o v hb hc => by simp [hb, hc])
      · exact e4 k hk
  exact ⟨_, sv, ⟨hs.size, hs.defers, fun i hi => (hs.slot i hi).mono hle, hsim⟩⟩

/-- A nil slice in a box's cell becomes a slice of the call's own. -/
theorem wk_nilc (t j s : Nat) (E z : Nat) (f : Nat → List D) {l l' : List D} (hσt : S.σ t = .box l) (hne : Nat.beq t s = false) (hs0 : S.σ s = .none) (hl : nth l j = some .nil) (hl' : overN l j [.os s (S.γ s + 1)] = some l') :
    Wk X S ⟨S.ρ, upd S.γ s (S.γ s + 1), upd (upd S.σ s (.arr E z 0 f)) t (.box l')⟩ := fun κ sv a w hs => by
  have hne : t ≠ s := fun e => by rw [e, Nat.beq_refl] at hne; cases hne
  obtain ⟨rfl, hlen⟩ := overN_eq hl'
  have hle := le_renew κ S.γ sv s (.slice none 0 0)
  have hW := hs.wld.renew s (.arr E z 0 f) (.slice none 0 0) (below_grown (Below.refl _ _) _) (fun b hb => by cases hb)
      ⟨[], by rw [upd_same]; exact World.ownsRow_nil _ _ _ _, fun _ h => by omega, fun _ h => by omega, fun _ h => by omega⟩ S.ρ
  refine ⟨κ, upd sv s (.slice none 0 0), ⟨hs.size, hs.defers, fun i hi => (hs.slot i hi).mono hle, ?_⟩⟩
  have hown := hW.own t
  simp only [upd_ne _ _ _ _ hne, hσt] at hown
  obtain ⟨b, Tb, cs, e1, e2, e3, e4⟩ := hown
  refine hW.rewrite t (.box _) (below_grown (Below.refl _ _) _) (by simp only [upd_ne _ _ _ _ hne, hσt] at e1 ⊢; rw [e1]; rfl) ⟨b, Tb, cs, e1, e2, ?_, ?_⟩ _
  · rw [nth_eq] at hl
    obtain ⟨vj, hvj, hrj⟩ := e3.get hl
    have hjl : j < cs.length := (List.getElem?_eq_some_iff.1 hvj).1
    have hcs : cs = cs.take j ++ [vj] ++ cs.drop (j + 1) := by
      have h3 : cs[j] = vj := by simpa [List.getElem?_eq_getElem hjl] using hvj
      rw [← h3, List.append_assoc, List.singleton_append, List.getElem_cons_drop, List.take_append_drop]
    rw [hcs]
    refine ((e3.take j).append (.cons _ _ _ _ ?_ .nil)).append (e3.drop _)
    cases hrj
    exact .os _ _ _ (by rw [upd_same]; exact Nat.le_refl _) (fun _ => by rw [upd_same]) rfl
  · exact allCell_append (allCell_append (allCell_take e4 _) rfl) (allCell_drop e4 _)
theorem f_bsl0 {ps : Array (Nat × Operand)} {t z : Nat} {E : TypeId} (f : Nat → List D) (ho : o.op = .buildSlice T 0 ps) (hd : o.dst = some t) (hps : ps = #[])
    (hr : nth X.Z.tab T = some r) (hk : Nat.beq r.k 3 = true) (hE : r.el = E) (hq : nth X.Z.tab E = some q) (hq9 : Nat.beq q.k 9 = false) (hz : q.sz = z) :
    FN X o S [t] (wB t) ⟨.os t (S.γ t + 1), S.γ t + 1, .arr E z 0 f⟩ := ⟨fun T hT hs => by
  have h := n_bsl0 (S := T) f ho hd hps hr hk hE hq hq9 hz
  have : T.owned t t (.arr E z 0 f) = T.app (wB t) ⟨.os t (S.γ t + 1), S.γ t + 1, .arr E z 0 f⟩ := by
    unfold St.owned St.app; rw [hs t (by simp)]; rfl
  rw [← this]; exact h⟩
theorem updF_same (f : Nat → List D) (i : Nat) (l : List D) : updF f i l i = l := by simp [updF]
theorem updF_ne (f : Nat → List D) {i k : Nat} (l : List D) (h : k ≠ i) : updF f i l k = f k := by simp [updF, h]
end
section
variable {X : Ctx} {S : St} {o : Oper} {x : Operand}
theorem q_mvT {l : List D} (ho : o.op = .move x) (hd : S.ev X x = .tup l) : QOp X o S (.tup l) := q_move ho hd
theorem q_mvF {f : FuncId} {l : List D} (ho : o.op = .move x) (hd : S.ev X x = .fn f l) : QOp X o S (.fn f l) := q_move ho hd
theorem q_asF {f : FuncId} {l : List D} (ho : o.op = .assign x) (hd : S.ev X x = .fn f l) : QOp X o S (.fn f l) := q_assign ho hd
end
section
variable {X : Ctx} {S : St} {rs : List ResultVar}
theorem fin_Sl {t z n n' : Nat} {f f' : Nat → List D} (hr : rs = [.tmp t]) (h : S.ev X (.tmp t) = .sl z n f) (e : n = n') (e2 : f = f') : FinQ X rs (.sl z n' f') .ret S := ⟨[.sl z n f], by rw [hr]; exact ⟨h, trivial⟩, by rw [e, e2]; rfl⟩
end
/- A function's end may be reached by way of weakenings. -/
def FinW (X : Ctx) (rs : List ResultVar) (R : D) : Exit → St → Prop := fun e S => ∃ S', Wk X S S' ∧ FinQ X rs R e S'
section
variable {X : Ctx} {S S' : St} {rs : List ResultVar} {R : D} {e : Exit}
theorem fin_now (h : FinQ X rs R e S) : FinW X rs R e S := ⟨S, Wk.refl _ _, h⟩
theorem fin_wk (hw : Wk X S S') (h : FinW X rs R e S') : FinW X rs R e S :=
  let ⟨T, h1, h2⟩ := h
  ⟨T, hw.trans h1, h2⟩
theorem W_fin {c : Code} (h : W X c (FinW X rs R) S) : W X c (FinQ X rs R) S := fun κ sv a w hs => by
  refine wpIn_mono (h κ sv a w hs) ?_
  rintro e a' w' ⟨κ', sv', S', hs', S'', hw, hq⟩
  obtain ⟨κ2, sv2, hs2⟩ := hw κ' sv' a' w' hs'
  exact ⟨κ2, sv2, S'', hs2, hq⟩
end
theorem contract_introW {Z : Seat} {f : FuncId} {fn : Func} {c : Code} {A : List D} {R : D} (hf : Z.P.funcs[f]? = some fn) (hb : fn.body = some c) (hname : (fn.name == "runtime.NumGoroutine") = false) (hn : Nat.ble A.length fn.ntmps = true) (hA : PureL A) (hR : Pure R)
    (h : ∀ w κ, W (Ctx.plain Z fn.ntmps w κ none) c (FinW (Ctx.plain Z fn.ntmps w κ none) fn.results.toList R) (St.init A)) : Contract Z f A R :=
  contract_intro hf hb hname hn hA hR fun w κ => W_fin (h w κ)
section
variable {X : Ctx} {S : St} {o : Oper} {T : TypeId} {r q : TRow}
theorem restr_ev {h : Nat → Nat} {x : Operand} (hx : x ∈ o.op.operands.toList) : (restr S (lcOf X S o) h).ev X x = S.ev X x := ev_congr fun t e => by
  subst e
  simp only [restr]
  have h1 : memN t (lcOf X S o).rr = true := memN_iff.2 (slots_mem hx)
  rw [h1]; rfl
theorem restr_parts {h : Nat → Nat} : ∀ {l : List (Nat × Operand)}, (∀ p ∈ l, p.2 ∈ o.op.operands.toList) → partsD X (restr S (lcOf X S o) h) l = partsD X S l ∧ partsOk X (restr S (lcOf X S o) h) l = partsOk X S l
  | [], _ => ⟨rfl, rfl⟩
  | (i, x) :: l, hl => by
    obtain ⟨h1, h2⟩ := restr_parts (h := h) (l := l) fun p hp => hl p (List.mem_cons_of_mem _ hp)
    have h3 := restr_ev (S := S) (X := X) (h := h) (hl (i, x) (List.mem_cons_self ..))
    simp only at h3
    simp only [partsD, partsOk, h1, h2, h3, and_self]
theorem fq_bld {ps : Array (Nat × Operand)} {l : List D} (ho : o.op = .build T ps) (hr : nth X.Z.tab T = some r) (hk : Nat.beq r.k 1 = true) (hp : partsOk X S ps.toList = true)
    (hb : bldN (plF r.fl) (r.zs.map Zr.toD) (partsD X S ps.toList) = some l) : FQ X o S (.agg l) := fun h => by
  have hm : ∀ p ∈ ps.toList, p.2 ∈ o.op.operands.toList := fun p hp => by rw [ho]; simp only [Op.operands]; exact List.mem_map.2 ⟨p, hp, rfl⟩
  obtain ⟨h1, h2⟩ := restr_parts (X := X) (S := S) (h := h) hm
  exact q_bld ho hr hk (h2.trans hp) (by rw [h1]; exact hb)
theorem fq_blda {ps : Array (Nat × Operand)} {l : List D} {E : TypeId} (ho : o.op = .build T ps) (hr : nth X.Z.tab T = some r) (hk : Nat.beq r.k 2 = true) (hE : r.el = E) (hq : nth X.Z.tab E = some q) (hq9 : Nat.beq q.k 9 = false) (hp : partsOk X S ps.toList = true)
    (hb : bldN (fun i => some (i * q.sz, q.sz)) (r.zs.map Zr.toD) (partsD X S ps.toList) = some l) : FQ X o S (.agg l) := fun h => by
  have hm : ∀ p ∈ ps.toList, p.2 ∈ o.op.operands.toList := fun p hp => by rw [ho]; simp only [Op.operands]; exact List.mem_map.2 ⟨p, hp, rfl⟩
  obtain ⟨h1, h2⟩ := restr_parts (X := X) (S := S) (h := h) hm
  exact q_blda ho hr hk hE hq hq9 (h2.trans hp) (by rw [h1]; exact hb)
theorem fq_fn {cs : Array Operand} {f : FuncId} (ho : o.op = .makeFunc (.func f) #[] cs) : FQ X o S (.fn f (cs.toList.map (S.ev X))) := fun h => by
  have h1 : cs.toList.map (S.ev X) = cs.toList.map ((restr S (lcOf X S o) h).ev X) := List.map_congr_left fun x hx => (restr_ev (by rw [ho]; simp [Op.operands]; simpa using hx)).symm
  rw [h1]; exact q_fn ho
end
end Go.Ab


/- Ranges over functions: an iterator's contract (it may write what it has laid itself), and the rule for whoever ranges over it. -/
namespace Go.Ab
open Go Go.RowKit Go.Shelf

def growT (T : Nat → Prop) (W W' : World) : Nat → Prop := fun b => T b ∨ (W.heap.size ≤ b ∧ b < W'.heap.size)

/-- What a round keeps for the iterator. -/
structure Kept (T : Nat → Prop) (κ : Nat → Nat → Option Value) (W W' : World) : Prop where
  size : W.heap.size ≤ W'.heap.size
  mine : ∀ b, T b → W'.heap[b]? = W.heap[b]?
  cell : ∀ b o v, κ b o = some v → W'.cell? ⟨b, o, none⟩ = some v

/-- Function gf, with what it has captured, hands out vals 0, vals 1, .. to yield, n of them, or fewer if yield says no. T: the blocks that it has laid. -/
structure ItC (Z : Seat) (gf : FuncId) (cap : List D) (n : Nat) (vals : Nat → List Value) : Prop where
  body : HasBody Z.P gf
  pureC : PureL cap
  it : ∀ (w : World) (κ : Nat → Nat → Option Value) (lb : List Value), Fits κ w → GlobOk Z κ → RepL κ γ0 sv0 cap lb → ∀ (l : Nat) (J Jx : (Nat → Prop) → Nat → World → Prop),
    (∀ T k W W', J T k W → Step T W W' → J (growT T W W') k W') →
    (∀ T k W W', Jx T k W → Step T W W' → Jx (growT T W W') k W') →
    (∀ T k W, J T k W → k < n → (∀ b o v, κ b o = some v → W.cell? ⟨b, o, none⟩ = some v) → YieldAt Fence.wide 0 Z.P l (vals k).toArray W fun e W' =>
      ((e = .returned (.bool true) ∧ J T (k + 1) W') ∨ (e = .returned (.bool false) ∧ Jx T (k + 1) W')) ∧ Kept T κ W W') →
    J (fun _ => False) 0 w →
    CallsIn Fence.wide 0 Z.P gf (Value.func (.yield l) #[] #[] :: lb).toArray w fun e W' => (∃ v, e = .returned v) ∧ ((∃ T, J T n W') ∨ (∃ T k, k ≤ n ∧ Jx T k W'))

/-- The frame predicate of a round: as ever, and the blocks in T lie as they lay. -/
def protF (w0 : World) (ext : Option Nat) (T : Nat → Prop) (wT : World) (M : Nat → Prop) (w : World) : Prop :=
  (∃ M', plainF w0 ext M' w ∧ ∀ b, M b → M' b) ∧ (∀ b, M b → ¬ T b) ∧ (∀ b, T b → b < wT.heap.size ∧ w.heap[b]? = wT.heap[b]?) ∧ wT.heap.size ≤ w.heap.size
theorem prot_cl (w0 : World) (ext : Option Nat) (T : Nat → Prop) (wT : World) : ∀ M w w', protF w0 ext T wT M w → Step M w w' → protF w0 ext T wT (fun k => M k ∨ w.heap.size ≤ k) w' := by
  rintro M w w' ⟨⟨M', h1, h2⟩, h3, h4, h5⟩ hs
  refine ⟨⟨_, plain_cl w0 ext M' w w' h1 ⟨hs.os, hs.tape, hs.output, hs.size, fun k hk hm => hs.block k hk fun h => hm (h2 k h)⟩, fun b hb => hb.imp (h2 b) id⟩, fun b hb hT => ?_, fun b hT => ?_, Nat.le_trans h5 hs.size⟩
  · rcases hb with hb | hb
    · exact h3 b hb hT
    · have := (h4 b hT).1; omega
  · obtain ⟨e1, e2⟩ := h4 b hT
    exact ⟨e1, (hs.block b (by omega) (fun hm => h3 b hm hT)).trans e2⟩

section
variable {Z : Seat} {nt : Nat} {w0 : World} {κ0 κp : Nat → Nat → Option Value} {ext : Option Nat} {γp : Nat → Nat} {svp : Nat → Value} {T : Nat → Prop}

/-- Between two rounds: somebody else has written what is in T, and laid new blocks. -/
theorem SimW.other {κ : Nat → Nat → Option Value} {sv : Nat → Value} {S : St} {W W' : World} {ro : Option Nat} {cl : _} (h : SimW ⟨Z, nt, w0, κ0, ext, κp, γp, svp, T, false, ro, plainF w0 ext, cl⟩ κ sv S W) (hs : Step T W W') (hT : ∀ b, T b → w0.heap.size ≤ b) :
    SimW ⟨Z, nt, w0, κ0, ext, κp, γp, svp, growT T W W', false, ro, plainF w0 ext, cl⟩ κ sv S W' := by
  obtain ⟨h1, h2, h3, h4, h5, ⟨M, h6, h6'⟩, h7, h8, h9, h10, h11, h12, h13, h14⟩ := h
  have hlt : ∀ b o v, κ b o = some v → b < W.heap.size := fun b o v hk => by have := World.block_lt_of_cell? W _ (h1 b o v hk); simpa using this
  refine ⟨fun b o v hk => ?_, fun s => owns_mono (Le.refl _ _ _) rfl (fun b hb => hs.block b (owns_lt (h2 s) hb) (h13 s b hb)) (h2 s), h3, h4, h5, ⟨M, ?_, h6'⟩, h7, h8, h9, Nat.le_trans h10 hs.size, h11, fun b o v hk hT' => ?_, fun s b hb hT' => ?_, fun b hT' => ?_⟩
  · rw [World.cell?_of_block (hs.block b (hlt b o v hk) (h12 b o v hk))]; exact h1 b o v hk
  · refine ⟨⟨hs.os.trans h6.1.os, hs.tape.trans h6.1.tape, hs.output.trans h6.1.output, Nat.le_trans h6.1.size hs.size, fun k hk he => ?_⟩, h6.2⟩
    exact (hs.block k (Nat.lt_of_lt_of_le hk h6.1.size) (fun hm => by have := hT k hm; omega)).trans (h6.1.block k hk he)
  · rcases hT' with hT' | ⟨hT', _⟩
    · exact h12 b o v hk hT'
    · have := hlt b o v hk; omega
  · rcases hT' with hT' | ⟨hT', _⟩
    · exact h13 s b hb hT'
    · have := owns_lt (h2 s) hb; omega
  · rcases hT' with hT' | ⟨_, hT'⟩
    · exact Nat.lt_of_lt_of_le (h14 b hT') hs.size
    · exact hT'

/-- Another frame predicate, and a block that holds no cells turned. -/
theorem SimW.reframe {κ : Nat → Nat → Option Value} {sv : Nat → Value} {S : St} {W W' : World} {nd nd' : Bool} {ro ro' : Option Nat} {Φ Φ' : (Nat → Prop) → World → Prop} {cl : _} {cl' : _} {T' : Nat → Prop} {κp' : Nat → Nat → Option Value} {γp' : Nat → Nat} {svp' : Nat → Value}
    (h : SimW ⟨Z, nt, w0, κ0, ext, κp, γp, svp, T, nd, ro, Φ, cl⟩ κ sv S W) {D : Nat} (hg : W.grownBy W' (some D)) (hn : ∃ o : Obj, W.heap[D]? = some o ∧ o.isCells = false)
    (hΦ : ∀ M, Φ M W → (∀ s b, blk (S.σ s) (sv s) = some b → M b) → ∃ M', Φ' M' W' ∧ ∀ s b, blk (S.σ s) (sv s) = some b → M' b) (hT : ∀ b, T' b → T b) (hle : Le κp' κ γp' S.γ svp' sv) :
    SimW ⟨Z, nt, w0, κ0, ext, κp', γp', svp', T', nd', ro', Φ', cl'⟩ κ sv S W' := by
  obtain ⟨h1, h2, h3, h4, h5, ⟨M, h6, h6'⟩, h7, h8, h9, h10, h11, h12, h13, h14⟩ := h
  obtain ⟨o0, ho1, ho2⟩ := hn
  have hne : ∀ s b, blk (S.σ s) (sv s) = some b → W'.heap[b]? = W.heap[b]? := fun s b hb => hg.block b (owns_lt (h2 s) hb) (fun e => by
    obtain ⟨o, e1, e2⟩ := owns_cells (h2 s) hb
    simp only [Option.some.injEq] at e
    subst e
    rw [ho1] at e1; cases e1; rw [ho2] at e2; cases e2)
  exact ⟨fun b o v hk => cell_kept (h1 b o v hk) hg (fun r e => by cases e; exact ⟨o0, ho1, ho2⟩), fun s => owns_mono (Le.refl _ _ _) rfl (hne s) (h2 s), h3, h4, h5, hΦ M h6 h6', h7, h8, h9, Nat.le_trans h10 hg.size, hle,
    fun b o v hk hb => h12 b o v hk (hT b hb), fun s b hb hb' => h13 s b hb (hT b hb'), fun b hb => Nat.lt_of_lt_of_le (h14 b (hT b hb)) hg.size⟩

def setps (ρ : Nat → D) : List Nat → List D → Nat → D
  | t :: ts, d :: ds => setps (upd ρ t d) ts ds
  | _, _ => ρ
theorem slots_set {κ : Nat → Nat → Option Value} {γ : Nat → Nat} {sv : Nat → Value} : ∀ (ts : List Nat) (ds : List D) (vs : List Value) (ρ : Nat → D) (tm : Array Value), RepL κ γ sv ds vs → (∀ i, i < nt → Rep κ γ sv (ρ i) (tm.getD i Go.undef)) → tm.size = nt →
    (∀ i, i < nt → Rep κ γ sv (setps ρ ts ds i) (((ts.zip vs).foldl (fun (t : Array Value) (x : Nat × Value) => t.setIfInBounds x.1 x.2) tm).getD i Go.undef)) ∧ ((ts.zip vs).foldl (fun (t : Array Value) (x : Nat × Value) => t.setIfInBounds x.1 x.2) tm).size = nt
  | [], _, _, _, _, _, h, hz => ⟨h, hz⟩
  | t :: ts, _, _, ρ, tm, .nil, h, hz => ⟨h, hz⟩
  | t :: ts, _, _, ρ, tm, .cons d v ds vs h1 h2, h, hz => by
    simp only [setps, List.zip_cons_cons, List.foldl_cons]
    refine slots_set ts ds vs (upd ρ t d) (tm.setIfInBounds t v) h2 (fun i hi => ?_) (by simpa using hz)
    rw [getD_set]
    by_cases e : t = i
    · subst e; rw [if_pos ⟨rfl, by omega⟩, upd_same]; exact h1
    · rw [if_neg (fun h => e h.1), upd_ne _ _ _ _ (fun h => e h.symm)]; exact h i hi

/-- The state of the rounds: the slots are those ahead of the loop. -/
def rnd (S : St) (kp : List Nat) (gs : List (Nat × Nat)) (os : List (Nat × Own)) (h : Nat → Nat) : St := ⟨S.ρ, lookF h (gs ++ keepG S kp), look .none (os ++ keepO S kp)⟩
def ReachF (X : Ctx) (S S' : St) (kp : List Nat) (gs : List (Nat × Nat)) (os : List (Nat × Own)) : Prop := ∃ S'', Wk X S' S'' ∧ AllE S''.γ gs ∧ AllE S''.σ os ∧ KeepP S S'' kp
def roundX (Z : Seat) (nt : Nat) (w0 : World) (κ0 : Nat → Nat → Option Value) (ext : Option Nat) (κp : Nat → Nat → Option Value) (γp : Nat → Nat) (svp : Nat → Value) (T : Nat → Prop) (l : Nat) (Φ : (Nat → Prop) → World → Prop) (cl : ∀ M w w', Φ M w → Step M w w' → Φ (fun k => M k ∨ w.heap.size ≤ k) w') : Ctx :=
  ⟨Z, nt, w0, κ0, ext, κp, γp, svp, T, false, some l, Φ, cl⟩
/-- How a round may be left: off its end; by a return or a jump (Qx). -/
def bodyQ (X : Ctx) (S : St) (kp : List Nat) (gs : List (Nat × Nat)) (os : List (Nat × Own)) (Qx : Code → St → Prop) : Exit → St → Prop
  | .normal, S' => ReachF X S S' kp gs os
  | .ret, S' => Qx .ret S'
  | .exit i, S' => Qx (.exit i) S'
  | _, _ => False
def RoundOk (Z : Seat) (nt : Nat) (w0 : World) (κ0 : Nat → Nat → Option Value) (ext : Option Nat) (assign body : Code) (S S1 : St) (kp : List Nat) (gs' : List (Nat × Nat)) (os' : List (Nat × Own)) (Qx : Code → St → Prop) : Prop :=
  ∀ κp γp svp T l Φ cl, W (roundX Z nt w0 κ0 ext κp γp svp T l Φ cl) assign (fun e S2 => e = .normal ∧ ∀ Φ' cl', W (roundX Z nt w0 κ0 ext κp γp svp T l Φ' cl') body (bodyQ (roundX Z nt w0 κ0 ext κp γp svp T l Φ' cl') S kp gs' os' Qx) S2) S1

theorem W_rangeFunc {g : Operand} {ps : Array Nat} {assign body : Code} {S : St} {Q : Exit → St → Prop} {gf : FuncId} {cap : List D} {n : Nat} {vals : Nat → List Value}
    (hg : S.ev (Ctx.plain Z nt w0 κ0 ext) g = .fn gf cap) (hc : ItC Z gf cap n vals) (args : Nat → List D) (hv : ∀ k, k < n → scalL2 (args k) = some (vals k)) (hps : ∀ k, k < n → (vals k).length = ps.size)
    (kp : List Nat) (gs : Nat → List (Nat × Nat)) (os : Nat → List (Nat × Own)) (Qx : Code → St → Prop) (h0 : AllE S.γ (gs 0) ∧ AllE S.σ (os 0))
    (hround : ∀ k h, k < n → (∀ s, S.γ s ≤ lookF h (gs k ++ keepG S kp) s) → RoundOk Z nt w0 κ0 ext assign body S ⟨setps S.ρ ps.toList (args k), lookF h (gs k ++ keepG S kp), look .none (os k ++ keepO S kp)⟩ kp (gs (k + 1)) (os (k + 1)) Qx)
    (hdone : ∀ h, Q .normal (rnd S kp (gs n) (os n) h)) (hret : ∀ S', Qx .ret S' → Q .ret ⟨S.ρ, S'.γ, S'.σ⟩) (hexit : ∀ i S', Qx (.exit i) S' → Q (.exit i) ⟨S.ρ, S'.γ, S'.σ⟩) (hQx : ∀ c S', Qx c S' → c = .ret ∨ ∃ i, c = .exit i) :
    W (Ctx.plain Z nt w0 κ0 ext) (.rangeFunc g ps assign body) Q S := by
  intro κ sv a w hs
  have hev := hs.ev g
  rw [hg] at hev
  obtain ⟨lb, hae, hlb⟩ : ∃ lb : List Value, a.eval g = .func (.func gf) #[] lb.toArray ∧ RepL κ S.γ sv cap lb := by
    generalize a.eval g = v at hev
    cases hev with
    | fn _ _ vs hl => exact ⟨vs, rfl, hl⟩
  obtain ⟨fnb, cb, hf1, hf2, hf3⟩ := hc.body
  obtain ⟨Ds, d1, d2, d3, _⟩ := hs.defers
  refine wpIn_rangeFunc ?_
  intro fn hfn
  obtain ⟨rec, hrec⟩ : ∃ rec : LoopState → Option Code → Loop, rec = fun st pe => { state := st, pending := pe, fn, tmps := a.tmps, params := ps, assign, body, defers := w.heap.size } := ⟨_, rfl⟩
  obtain ⟨W1, hW1⟩ : ∃ W1, (w.alloc (.deferred (some []))).alloc (.loop (rec .ready none)) = W1 := ⟨_, rfl⟩
  have hsz1 : W1.heap.size = w.heap.size + 2 := by rw [← hW1]; simp
  have hL1 : W1.heap[w.heap.size + 1]? = some (.loop (rec .ready none)) := by
    rw [← hW1]; have := World.alloc_heap_new (w.alloc (.deferred (some []))) (.loop (rec .ready none)); rwa [World.size_alloc] at this
  have hK1 : W1.heap[w.heap.size]? = some (.deferred (some [])) := by
    rw [← hW1]; exact (Below.heap_alloc _ _ _ (by simp)).trans (World.alloc_heap_new w _)
  have hb1 : Below w.heap.size w W1 := by
    rw [← hW1]; exact ((Below.refl _ w).alloc (Nat.le_refl _) _).alloc (by simp) _
  have hs1 := hs.later hb1
  refine ⟨w.heap.size + 1, [mark w.heap.size], W1, { target := .fn (.func gf) lb.toArray, args := #[.func (.yield (w.heap.size + 1)) #[] #[]] }, W1, gf,
    (Value.func (.yield (w.heap.size + 1)) #[] #[] :: lb).toArray, W1, ?_, ?_, ?_, ?_, fun h => (by simp [Ctx.F, Fence.wide] at h), ?_⟩
  · rw [← hW1, hrec]; exact run_enterLoop_outer _ _ _ _ _
  · simp only [resolve, hae]
    simp [go_sem]
  · intro f' hf'; trivial
  · have eg : ∀ args w, (callFunc gf args).run (Ctx.plain Z nt w0 κ0 ext).Z.P w = .ok (.enter gf args) w := fun args w => by
      have h1 : fnb.name ≠ "runtime.NumGoroutine" := by simpa using hf3
      have hf1' : (Ctx.plain Z nt w0 κ0 ext).Z.P.funcs[gf]? = some fnb := hf1
      simp [callFunc, hf1', h1, hf2, Go.mark]
    simp [invoke, go_sem, eg]
  -- what holds between two rounds
  let XP : (Nat → Prop) → Ctx := fun T => ⟨Z, nt, w0, κ0, ext, κ, S.γ, sv, T, false, none, plainF w0 ext, plain_cl w0 ext⟩
  let others : World → Prop := fun W => ∀ (b : Nat) (o : Obj), w.heap[b]? = some o → o.isCells = false → W.heap[b]? = some o
  let J : (Nat → Prop) → Nat → World → Prop := fun T k W => (∃ κ' sv' h, SimW (XP T) κ' sv' (rnd S kp (gs k) (os k) h) W) ∧ (∀ b, T b → W1.heap.size ≤ b) ∧ W.heap[w.heap.size + 1]? = some (.loop (rec .ready none)) ∧ W.heap[w.heap.size]? = some (.deferred (some [])) ∧ others W
  let Jx : (Nat → Prop) → Nat → World → Prop := fun T _ W => ∃ c, (∃ κ' sv' S', SimW (XP T) κ' sv' S' W ∧ Qx c S') ∧ (∀ b, T b → W1.heap.size ≤ b) ∧ W.heap[w.heap.size + 1]? = some (.loop (rec .done (some c))) ∧ W.heap[w.heap.size]? = some (.deferred (some [])) ∧ others W
  have hbase := hs.wld.base
  have hbase' : w0.heap.size ≤ w.heap.size := hbase
  have stp : ∀ {T : Nat → Prop} {W W' : World} {b : Nat} {o : Obj}, Step T W W' → (∀ b, T b → W1.heap.size ≤ b) → b < W1.heap.size → W.heap[b]? = some o → W'.heap[b]? = some o := fun hst hT hb ho => by
    rw [hst.block _ (Array.getElem?_eq_some_iff.1 ho).1 (fun h => by have := hT _ h; omega)]; exact ho
  have growT_ge : ∀ {T : Nat → Prop} {W W' : World}, (∀ b, T b → W1.heap.size ≤ b) → W1.heap.size ≤ W.heap.size → ∀ b, growT T W W' b → W1.heap.size ≤ b := fun hT hW b hb => by
    rcases hb with hb | ⟨hb, _⟩
    · exact hT b hb
    · omega
  have szOf : ∀ {W : World} {o : Obj}, W.heap[w.heap.size + 1]? = some o → W1.heap.size ≤ W.heap.size := fun h => by
    have := (Array.getElem?_eq_some_iff.1 h).1; omega
  have oth_stp : ∀ {T : Nat → Prop} {W W' : World}, Step T W W' → (∀ b, T b → W1.heap.size ≤ b) → others W → others W' := fun hst hT ho b o hb hc => by
    refine stp hst hT ?_ (ho b o hb hc)
    have := (Array.getElem?_eq_some_iff.1 hb).1; omega
  have hJc : ∀ T k W W', J T k W → Step T W W' → J (growT T W W') k W' := by
    rintro T k W W' ⟨⟨κ', sv', h, hw⟩, hT, hl, hk, ho⟩ hst
    exact ⟨⟨κ', sv', h, hw.other hst (fun b hb => by have := hT b hb; omega)⟩, growT_ge hT (szOf hl), stp hst hT (by omega) hl, stp hst hT (by omega) hk, oth_stp hst hT ho⟩
  have hJxc : ∀ T k W W', Jx T k W → Step T W W' → Jx (growT T W W') k W' := by
    rintro T k W W' ⟨c, ⟨κ', sv', S', hw, hq⟩, hT, hl, hk, ho⟩ hst
    exact ⟨c, ⟨κ', sv', S', hw.other hst (fun b hb => by have := hT b hb; omega), hq⟩, growT_ge hT (szOf hl), stp hst hT (by omega) hl, stp hst hT (by omega) hk, oth_stp hst hT ho⟩
  have h00 : J (fun _ => False) 0 W1 := by
    refine ⟨⟨κ, sv, S.γ, ?_⟩, fun _ h => h.elim, hL1, hK1, fun b o hb _ => ?_⟩
    · have hm : AllE S.γ (gs 0 ++ keepG S kp) ∧ AllE S.σ (os 0 ++ keepO S kp) := ⟨allE_append h0.1 (keepG_ok S kp), allE_append h0.2 (keepO_ok S kp)⟩
      have hw := (sim_gen (S := S) (S' := rnd S kp (gs 0) (os 0) S.γ) (fun i => .inr rfl) (lookF_le (fun _ => Nat.le_refl _) hm.1) (look_ok hm.2) hs1).wld
      obtain ⟨e1, e2, e3, e4, e5, e6, e7, e8, e9, e10, e11, e12, e13, e14⟩ := hw
      exact ⟨e1, e2, e3, e4, e5, e6, e7, e8, e9, e10, ⟨fun _ _ _ h => h, lookF_le (fun _ => Nat.le_refl _) hm.1, fun _ _ => rfl⟩, fun _ _ _ _ h => h, fun _ _ _ h => h, fun _ h => h.elim⟩
    · rw [hb1.block b (Array.getElem?_eq_some_iff.1 hb).1]; exact hb
  have hfits1 : Fits κ W1 := hs1.wld.imm
  refine (calls_F (X := Ctx.plain Z nt w0 κ0 ext) (n := 0) ((callsIn_wide (n := 0)).1 (hc.it W1 κ lb hfits1 (Sim.globOk hs1.wld) (hlb.pure (fun _ _ _ h => h) hc.pureC) (w.heap.size + 1) J Jx hJc hJxc ?_ h00))).mono ?_
  · -- one round
    rintro T k W ⟨⟨κ', sv', h, hw⟩, hT, hl, hk, ho⟩ hkn hcells
    have hy := run_yield (P := Z.P) (args := (vals k).toArray) hl (by rw [hrec, List.size_toArray]; exact hps k hkn)
    rw [hrec] at hy
    refine ⟨fn, _, assign, body, hy, roundIn_of_wpIn trivial ?_⟩
    have hfold : (ps.zip (vals k).toArray).foldl (fun tmps (t, a) => tmps.setIfInBounds t a) a.tmps = (ps.toList.zip (vals k)).foldl (fun (t : Array Value) (x : Nat × Value) => t.setIfInBounds x.1 x.2) a.tmps := by
      rw [← Array.foldl_toList, Array.toList_zip]
    have hlW : w.heap.size + 1 < W.heap.size := (Array.getElem?_eq_some_iff.1 hl).1
    let Ta : Nat → Prop := fun b => (T b ∨ ∃ o : Obj, W.heap[b]? = some o ∧ o.isCells = false) ∨ ∃ o v, κ b o = some v
    have hTl : Ta (w.heap.size + 1) := .inl (.inr ⟨_, hl, rfl⟩)
    have hTlt : ∀ b, Ta b → b < W.heap.size := by
      rintro b ((hb | ⟨o, hb, _⟩) | ⟨o, v, hb⟩)
      · exact hw.aw3 b hb
      · exact (Array.getElem?_eq_some_iff.1 hb).1
      · have := World.block_lt_of_cell? W _ (hcells b o v hb); simpa using this
    have hκne : ∀ b o v, κ b o = some v → b ≠ w.heap.size + 1 := by
      intro b o v hb e
      subst e
      have := hcells _ o v hb
      simp [World.cell?, hl] at this
    -- the assignment
    have hsa : SimW (roundX Z nt w0 κ0 ext κ S.γ sv T (w.heap.size + 1) (protF w0 ext Ta W) (prot_cl w0 ext Ta W)) κ' sv' ⟨setps S.ρ ps.toList (args k), lookF h (gs k ++ keepG S kp), look .none (os k ++ keepO S kp)⟩ W := by
      have h1 : SimW (XP T) κ' sv' ⟨setps S.ρ ps.toList (args k), lookF h (gs k ++ keepG S kp), look .none (os k ++ keepO S kp)⟩ W := hw.slots rfl rfl
      refine h1.reframe (D := w.heap.size + 1) (below_grown (Below.refl _ _) _) ⟨_, hl, rfl⟩ (fun M hM1 hM2 => ⟨fun b => ∃ s, blk (look .none (os k ++ keepO S kp) s) (sv' s) = some b, ⟨⟨M, hM1, fun b ⟨s, hb⟩ => hM2 s b hb⟩, ?_, fun b hb => ⟨hTlt b hb, rfl⟩, Nat.le_refl _⟩, fun s b hb => ⟨s, hb⟩⟩) (fun _ h => h) hw.le
      rintro b ⟨s, hb⟩ ((hb2 | ⟨o, hb2, hb3⟩) | ⟨o, v, hb2⟩)
      · exact hw.aw2 s b hb hb2
      · obtain ⟨o', e1, e2⟩ := owns_cells (hw.own s) hb
        rw [e1] at hb2; cases hb2; rw [hb3] at e2; cases e2
      · have := hw.sep s b o hb
        rw [hw.le.cells b o v hb2] at this; cases this
    have hslots := slots_set ps.toList (args k) (vals k) S.ρ a.tmps (scalL2_rep (κ := κ') (γ := lookF h (gs k ++ keepG S kp)) (sv := sv') (hv k hkn)) (fun i hi => (hs.slot i hi).mono hw.le) hs.size
    have hra := hround k h hkn hw.le.gens κ S.γ sv T (w.heap.size + 1) (protF w0 ext Ta W) (prot_cl w0 ext Ta W) κ' sv' { tmps := (ps.toList.zip (vals k)).foldl (fun (t : Array Value) (x : Nat × Value) => t.setIfInBounds x.1 x.2) a.tmps, defers := [] } W
      ⟨hslots.2, Dfr.nil rfl, hslots.1, hsa⟩
    rw [hfold]
    refine wpIn_mono hra ?_
    rintro e a1 w1 ⟨κ1, sv1, S1, hs1', rfl, hbody⟩
    obtain ⟨M1, ⟨⟨M1', p1, p2⟩, p3, p4, p5⟩, hM1⟩ := hs1'.wld.frame
    have hl1 : w1.heap[w.heap.size + 1]? = some (.loop (rec .ready none)) := (p4 _ hTl).2.trans hl
    refine ⟨_, run_beginRound hl1 (by rw [hrec]), ?_⟩
    obtain ⟨w2, hw2⟩ : ∃ w2, w1.putObj (w.heap.size + 1) (.loop { rec .ready none with state := .busy }) = w2 := ⟨_, rfl⟩
    rw [hw2]
    have hg2 : w1.grownBy w2 (some (w.heap.size + 1)) := by rw [← hw2]; exact grownBy_putObj' _ _ _
    have hz2 : w2.heap.size = w1.heap.size := by rw [← hw2]; simp
    have hl2 : w2.heap[w.heap.size + 1]? = some (.loop { rec .ready none with state := .busy }) := by rw [← hw2]; exact World.putObj_heap_same (Array.getElem?_eq_some_iff.1 hl1).1
    have ho2 : ∀ b, b ≠ w.heap.size + 1 → w2.heap[b]? = w1.heap[b]? := fun b hb => by rw [← hw2]; exact World.putObj_heap_other hb
    have frm : ∀ {M : Nat → Prop} {A B : World}, plainF w0 ext M A → A.grownBy B (some (w.heap.size + 1)) → plainF w0 ext M B := fun h1 hg =>
      ⟨⟨hg.os.trans h1.1.os, hg.tape.trans h1.1.tape, hg.output.trans h1.1.output, Nat.le_trans h1.1.size hg.size, fun k hk he =>
        (hg.block k (Nat.lt_of_lt_of_le hk h1.1.size) (fun e => by simp only [Option.some.injEq] at e; omega)).trans (h1.1.block k hk he)⟩, h1.2⟩
    have hsb : SimW (roundX Z nt w0 κ0 ext κ S.γ sv T (w.heap.size + 1) (protF w0 ext Ta w2) (prot_cl w0 ext Ta w2)) κ1 sv1 S1 w2 := by
      refine hs1'.wld.reframe hg2 ⟨_, hl1, rfl⟩ (fun M hM2 hM3 => ⟨M, ?_, hM3⟩) (fun _ h => h) hs1'.wld.le
      obtain ⟨⟨M', q1, q2⟩, q3, q4, q5⟩ := hM2
      exact ⟨⟨M', frm q1 hg2, q2⟩, q3, fun b hb => ⟨by have := hTlt b hb; omega, rfl⟩, Nat.le_refl _⟩
    obtain ⟨Ds1, t1, t2, t3, t4⟩ := hs1'.defers
    have hrb := hbody (protF w0 ext Ta w2) (prot_cl w0 ext Ta w2) κ1 sv1 a1 w2 ⟨hs1'.size, ⟨Ds1, t1, t2, fun D hD => ⟨(t3 D hD).1, (ho2 D (fun e => by
      have := (t3 D hD).2
      rw [e, hl1] at this; cases this)).trans (t3 D hD).2⟩, t4⟩, hs1'.slot, hsb⟩
    refine wpIn_mono hrb ?_
    rintro e a3 w3 ⟨κ3, sv3, S3, hs3, hq⟩
    obtain ⟨M3, ⟨⟨M3', r1, r2⟩, r3, r4, r5⟩, hM3⟩ := hs3.wld.frame
    have hl3 : w3.heap[w.heap.size + 1]? = some (.loop { rec .ready none with state := .busy }) := (r4 _ hTl).2.trans hl2
    have same3 : ∀ b, Ta b → b ≠ w.heap.size + 1 → w3.heap[b]? = W.heap[b]? := fun b hb hne => (r4 b hb).2.trans ((ho2 b hne).trans (p4 b hb).2)
    have fin : ∀ (jump : Option Code), ∃ w4, (Instr.endRound (w.heap.size + 1) jump).run Z.P w3 = .ok (.bool jump.isNone) w4 ∧ w3.grownBy w4 (some (w.heap.size + 1)) ∧ w4.heap[w.heap.size + 1]? = some (.loop (rec (if jump.isNone then .ready else .done) jump)) ∧
        w4.heap[w.heap.size]? = some (.deferred (some [])) ∧ others w4 ∧ Kept T κ W w4 := fun jump => by
      have h1 := run_endRound (P := Z.P) jump hl3
      rw [hrec] at h1 ⊢
      refine ⟨_, h1, grownBy_putObj' _ _ _, World.putObj_heap_same (Array.getElem?_eq_some_iff.1 hl3).1, ?_, ?_, ?_⟩
      · rw [World.putObj_heap_other (by omega), same3 _ (.inl (.inr ⟨_, hk, rfl⟩)) (by omega)]; exact hk
      · intro b o hb hc
        have hlt := (Array.getElem?_eq_some_iff.1 hb).1
        rw [World.putObj_heap_other (by omega), same3 _ (.inl (.inr ⟨_, ho b o hb hc, hc⟩)) (by omega)]; exact ho b o hb hc
      · refine ⟨by simp; omega, fun b hb => ?_, fun b o v hb => ?_⟩
        · have := hT b hb
          rw [World.putObj_heap_other (by omega), same3 _ (.inl (.inl hb)) (by omega)]
        · have hne := hκne b o v hb
          rw [World.cell?_of_block (w := W) (by rw [World.putObj_heap_other hne, same3 _ (.inr ⟨o, v, hb⟩) hne])]
          exact hcells b o v hb
    have out : ∀ {κ4 sv4 S4 w4}, SimW (roundX Z nt w0 κ0 ext κ S.γ sv T (w.heap.size + 1) (protF w0 ext Ta w2) (prot_cl w0 ext Ta w2)) κ4 sv4 S4 w3 → w3.grownBy w4 (some (w.heap.size + 1)) → SimW (XP T) κ4 sv4 S4 w4 := fun h4 hg4 =>
      h4.reframe hg4 ⟨_, hl3, rfl⟩ (fun M hM2 hM3 => by
        obtain ⟨⟨M', q1, q2⟩, _⟩ := hM2
        exact ⟨M', frm q1 hg4, fun s b hb => q2 b (hM3 s b hb)⟩) (fun _ h => h) h4.le
    cases e with
    | normal =>
      obtain ⟨S4, hwk, m1, m2, m3⟩ := hq
      obtain ⟨κ4, sv4, hs4⟩ := hwk κ3 sv3 a3 w3 hs3
      obtain ⟨w4, f1, f2, f3, f4, f5, f6⟩ := fin none
      have hm : AllE S4.γ (gs (k + 1) ++ keepG S kp) ∧ AllE S4.σ (os (k + 1) ++ keepO S kp) := ⟨allE_append m1 (keepG_all m3), allE_append m2 (keepO_all m3)⟩
      have h5 := (sim_gen (S := S4) (S' := ⟨S4.ρ, lookF S4.γ (gs (k + 1) ++ keepG S kp), look .none (os (k + 1) ++ keepO S kp)⟩) (fun i => .inr rfl) (lookF_le (fun _ => Nat.le_refl _) hm.1) (look_ok hm.2) hs4).wld
      exact ⟨_, w4, f1, .inl ⟨rfl, ⟨κ4, sv4, S4.γ, (out h5 f2).slots rfl rfl⟩, hT, f3, f4, f5⟩, f6⟩
    | ret =>
      obtain ⟨w4, f1, f2, f3, f4, f5, f6⟩ := fin (some .ret)
      exact ⟨_, w4, f1, .inr ⟨rfl, .ret, ⟨κ3, sv3, S3, out hs3.wld f2, hq⟩, hT, f3, f4, f5⟩, f6⟩
    | exit i =>
      obtain ⟨w4, f1, f2, f3, f4, f5, f6⟩ := fin (some (.exit i))
      exact ⟨_, w4, f1, .inr ⟨rfl, .exit i, ⟨κ3, sv3, S3, out hs3.wld f2, hq⟩, hT, f3, f4, f5⟩, f6⟩
    | goto t => exact hq.elim
    | panic ch => exact hq.elim
    | outgrown => exact hq.elim
  · -- behind the iterator
    have last : ∀ {T : Nat → Prop} {κ' : Nat → Nat → Option Value} {sv' : Nat → Value} {S' : St} {W : World} {st : LoopState} {pe : Option Code}, SimW (XP T) κ' sv' S' W → W.heap[w.heap.size + 1]? = some (.loop (rec st pe)) → W.heap[w.heap.size]? = some (.deferred (some [])) → others W →
        ∀ o', Sim (Ctx.plain Z nt w0 κ0 ext) κ' sv' ⟨S.ρ, S'.γ, S'.σ⟩ { a with defers := mark w.heap.size :: a.defers } (W.putObj (w.heap.size + 1) o') := by
      intro T κ' sv' S' W st pe hw hl hk ho o'
      have hg := grownBy_putObj' W (w.heap.size + 1) o'
      refine ⟨hs.size, ⟨w.heap.size :: Ds, by rw [d1]; rfl, List.nodup_cons.2 ⟨fun hm => ?_, d2⟩, fun D hD => ?_, fun h => ?_⟩, fun i hi => (hs.slot i hi).mono hw.le, ?_⟩
      · have := (d3 _ hm).2
        rw [Array.getElem?_eq_none (by simp)] at this; cases this
      · rcases List.mem_cons.1 hD with rfl | hD
        · exact ⟨hbase', (World.putObj_heap_other (by omega)).trans hk⟩
        · obtain ⟨e1, e2⟩ := d3 D hD
          have hlt := (Array.getElem?_eq_some_iff.1 e2).1
          exact ⟨e1, (World.putObj_heap_other (by omega)).trans (ho D _ e2 rfl)⟩
      · rename_i h; cases h
      · have h1 : SimW (XP T) κ' sv' ⟨S.ρ, S'.γ, S'.σ⟩ W := hw.slots rfl rfl
        refine h1.reframe hg ⟨_, hl, rfl⟩ (fun M hM2 hM3 => ⟨M, ?_, hM3⟩) (fun _ h => h.elim) (hs.wld.le.trans hw.le)
        exact ⟨⟨hg.os.trans hM2.1.os, hg.tape.trans hM2.1.tape, hg.output.trans hM2.1.output, Nat.le_trans hM2.1.size hg.size, fun k hk he =>
          (hg.block k (Nat.lt_of_lt_of_le hk hM2.1.size) (fun e => by simp only [Option.some.injEq] at e; omega)).trans (hM2.1.block k hk he)⟩, hM2.2⟩
    rintro e W2 ⟨⟨v, rfl⟩, (⟨T, ⟨κ', sv', h, hw⟩, hT, hl, hk, ho⟩ | ⟨T, k, _, c, ⟨κ', sv', S', hw, hq⟩, hT, hl, hk, ho⟩)⟩
    · exact ⟨none, _, by have := run_endLoop (P := Z.P) hl (by rw [hrec]; simp); rw [hrec] at this; exact this, κ', sv', _, last hw hl hk ho _, hdone h⟩
    · refine ⟨some c, _, by have := run_endLoop (P := Z.P) hl (by rw [hrec]; simp); rw [hrec] at this; exact this, ?_⟩
      rcases hQx c S' hq with rfl | ⟨i, rfl⟩
      · exact wpIn_ret ⟨κ', sv', _, last hw hl hk ho _, hret S' hq⟩
      · exact wpIn_exit ⟨κ', sv', _, last hw hl hk ho _, hexit i S' hq⟩


end
end Go.Ab


/- The walk of an iterator: walks between the calls of yield, and what a call of yield does. -/
namespace Go.Ab
open Go Go.RowKit

def itF (w : World) (J : (Nat → Prop) → World → Prop) (U : Nat → Prop) (M : Nat → Prop) (W : World) : Prop := ∃ T, J T W ∧ (∀ b, b < W.heap.size → M b → T b) ∧ (∀ b, w.heap.size ≤ b → b < W.heap.size → ¬ U b → T b)
theorem itF_cl {w : World} {J : (Nat → Prop) → World → Prop} {U : Nat → Prop} (hJ : ∀ T W W', J T W → Step T W W' → J (growT T W W') W') : ∀ M W W', itF w J U M W → Step M W W' → itF w J U (fun k => M k ∨ W.heap.size ≤ k) W' := by
  rintro M W W' ⟨T, h1, h2, h3⟩ hs
  refine ⟨growT T W W', hJ T W W' h1 ⟨hs.os, hs.tape, hs.output, hs.size, fun k hk hT => hs.block k hk (fun hm => hT (h2 k hk hm))⟩, fun b hb hM => ?_, fun b h4 h5 h6 => ?_⟩
  · by_cases e : b < W.heap.size
    · rcases hM with hM | hM
      · exact .inl (h2 b e hM)
      · omega
    · exact .inr ⟨by omega, hb⟩
  · by_cases e : b < W.heap.size
    · exact .inl (h3 b h4 e h6)
    · exact .inr ⟨by omega, h5⟩

structure Env where
  Z : Seat
  nt : Nat
  w : World
  κ : Nat → Nat → Option Value
  l : Nat
  n : Nat
  vals : Nat → List Value
  J : (Nat → Prop) → Nat → World → Prop
  Jx : (Nat → Prop) → Nat → World → Prop
  hJ : ∀ T k W W', J T k W → Step T W W' → J (growT T W W') k W'
  hJx : ∀ T k W W', Jx T k W → Step T W W' → Jx (growT T W W') k W'
  hY : ∀ T k W, J T k W → k < n → (∀ b o v, κ b o = some v → W.cell? ⟨b, o, none⟩ = some v) → YieldAt Fence.wide 0 Z.P l (vals k).toArray W fun e W' =>
      ((e = .returned (.bool true) ∧ J T (k + 1) W') ∨ (e = .returned (.bool false) ∧ Jx T (k + 1) W')) ∧ Kept T κ W W'
def Env.K (E : Env) (k : Nat) (s : Bool) (T : Nat → Prop) (W : World) : Prop := match s with | true => E.Jx T k W | false => E.J T k W
theorem Env.hK (E : Env) (k : Nat) (s : Bool) : ∀ T W W', E.K k s T W → Step T W W' → E.K k s (growT T W W') W' := by
  cases s
  · exact fun T W W' => E.hJ T k W W'
  · exact fun T W W' => E.hJx T k W W'
def Env.X (E : Env) (k : Nat) (s : Bool) (U : Nat → Prop) : Ctx := ⟨E.Z, E.nt, E.w, E.κ, none, E.κ, fun _ => 0, fun _ => Go.undef, U, true, none, itF E.w (E.K k s) U, itF_cl (E.hK k s)⟩

def liftI (E : Env) (Q : Nat → Bool → Exit → St → Prop) : Exit → Act → World → Prop := fun e a W => ∃ k s U κ sv S, Sim (E.X k s U) κ sv S a W ∧ Q k s e S
def WI (E : Env) (c : Code) (Q : Nat → Bool → Exit → St → Prop) (k : Nat) (s : Bool) (S : St) : Prop := ∀ U κ sv a W, Sim (E.X k s U) κ sv S a W → c.wpIn Fence.wide 0 E.Z.P (liftI E Q) a W
def WIL (E : Env) (ops : Array Oper) (l : List Oper) (Q : Nat → Bool → Exit → St → Prop) (k : Nat) (s : Bool) (S : St) : Prop := ∀ U κ sv a W, Sim (E.X k s U) κ sv S a W → wpListIn Fence.wide 0 E.Z.P ops (liftI E Q) l a W
section
variable {E : Env} {Q : Nat → Bool → Exit → St → Prop} {k : Nat} {s : Bool} {S S1 : St}
theorem WI_of {c : Code} (h : ∀ U, W (E.X k s U) c (Q k s) S) : WI E c Q k s S := fun U κ sv a W hs => by
  refine wpIn_mono (h U κ sv a W hs) ?_
  rintro e a' W' ⟨κ', sv', S', h1, h2⟩
  exact ⟨k, s, U, κ', sv', S', h1, h2⟩
def thenI (E : Env) (y : Code) (Q : Nat → Bool → Exit → St → Prop) : Nat → Bool → Exit → St → Prop
  | k, s, .normal, S => WI E y Q k s S
  | k, s, e, S => Q k s e S
def blockI (id : Nat) (Q : Nat → Bool → Exit → St → Prop) : Nat → Bool → Exit → St → Prop
  | k, s, .exit i, S => bif Nat.beq i id then Q k s .normal S else Q k s (.exit i) S
  | k, s, e, S => Q k s e S
theorem WI_seq {x y : Code} (h : WI E x (thenI E y Q) k s S) : WI E (.seq x y) Q k s S := fun U κ sv a W hs => by
  refine wpIn_seq (wpIn_mono (h U κ sv a W hs) ?_)
  rintro e a' W' ⟨k', s', U', κ', sv', S', h1, h2⟩
  cases e <;> first | exact h2 U' κ' sv' a' W' h1 | exact ⟨k', s', U', κ', sv', S', h1, h2⟩
theorem WI_block {id : Nat} {c : Code} (h : WI E c (blockI id Q) k s S) : WI E (.block id c) Q k s S := fun U κ sv a W hs => by
  refine wpIn_block (wpIn_mono (h U κ sv a W hs) ?_)
  rintro e a' W' ⟨k', s', U', κ', sv', S', h1, h2⟩
  cases e with
  | exit i =>
    simp only [Exit.inBlock]
    simp only [blockI] at h2
    split
    · rename_i e; subst e; rw [Nat.beq_refl] at h2; exact ⟨k', s', U', κ', sv', S', h1, h2⟩
    · rename_i e
      have : Nat.beq i id = false := by
        cases hb : Nat.beq i id
        · rfl
        · exact absurd (Nat.eq_of_beq_eq_true hb) e
      rw [this] at h2; exact ⟨k', s', U', κ', sv', S', h1, h2⟩
  | _ => exact ⟨k', s', U', κ', sv', S', h1, h2⟩
theorem WI_loop {c : Code} {α : Type} (F : α → Nat × Bool × St) (inv : α → Prop) (μ : α → Nat) (x0 : α) (h0 : inv x0) (hs : (F x0).1 = k ∧ (F x0).2.1 = s ∧ ∀ U, Wk (E.X k s U) S (F x0).2.2)
    (round : ∀ x, inv x → WI E c (fun k' s' e S' => match e with | .normal => ∃ x', inv x' ∧ μ x' < μ x ∧ (F x').1 = k' ∧ (F x').2.1 = s' ∧ ∀ U, Wk (E.X k' s' U) S' (F x').2.2 | e => Q k' s' e S') (F x).1 (F x).2.1 (F x).2.2) : WI E (.loop c) Q k s S := by
  intro U κ sv a W hsim
  have key : ∀ m x U κ sv a W, inv x → μ x < m → Sim (E.X (F x).1 (F x).2.1 U) κ sv (F x).2.2 a W → Code.roundsIn Fence.wide 0 E.Z.P c (liftI E Q) m a W := by
    intro m
    induction m with
    | zero => intro x U κ sv a W _ h; omega
    | succ m ih =>
      intro x U κ sv a W hi hm hx
      rw [roundsIn_succ]
      refine wpIn_mono (round x hi U κ sv a W hx) ?_
      rintro e a' W' ⟨k', s', U', κ', sv', S', h1, h2⟩
      cases e with
      | normal =>
        obtain ⟨x', hi', hm', rfl, rfl, hw⟩ := h2
        obtain ⟨κ2, sv2, hx'⟩ := hw U' κ' sv' a' W' h1
        exact ih x' U' κ2 sv2 a' W' hi' (by omega) hx'
      | _ => exact ⟨k', s', U', κ', sv', S', h1, h2⟩
  obtain ⟨e1, e2, e3⟩ := hs
  obtain ⟨κ1, sv1, hx⟩ := e3 U κ sv a W hsim
  subst e1 e2
  exact wpIn_loop_rounds (μ x0 + 1) (key _ x0 U κ1 sv1 a W h0 (Nat.lt_succ_self _) hx)
theorem WI_wk {c : Code} {S' : St} (hw : ∀ U, Wk (E.X k s U) S S') (h : WI E c Q k s S') : WI E c Q k s S := fun U κ sv a W hs =>
  let ⟨κ', sv', hs'⟩ := hw U κ sv a W hs
  h U κ' sv' a W hs'

/-- A list of operations in two parts. -/
theorem opIn_mono {F : Fence} {n : Nat} {P : Program} {o : Oper} {a : Act} {w : World} {K K' : Act → World → Prop} {Q1 Q2 : Exit → Act → World → Prop} (h : ∀ a w, K a w → K' a w) (hq : ∀ e a w, e ≠ .normal → Q1 e a w → Q2 e a w)
    (hh : o.wpIn F n P a w K Q1) : o.wpIn F n P a w K' Q2 := by
  unfold Oper.wpIn at *
  refine ⟨hh.1, ?_⟩
  have hh := hh.2
  generalize (o.semAt F.round a.eval).run P w = r at *
  have lo : LetsOut Q1 → LetsOut Q2 := fun ⟨a, w, h⟩ => ⟨a, w, hq _ _ _ (by simp) h⟩
  cases r with
  | ok x w' =>
    cases x <;> simp only [Oper.uponIn] at hh ⊢ <;>
      first
        | exact h _ _ hh
        | exact ⟨hh.1, CallsIn.mono hh.2 (fun e w'' he => by cases e <;> first | exact h _ _ he | exact hq _ _ _ (by simp) he | exact lo he)⟩
        | exact ⟨hh.1, RowsIn.mono hh.2 (fun _ _ he => h _ _ he)⟩
        | exact ⟨hh.1, RoundIn.mono hh.2 (fun e w'' he => by cases e <;> first | exact h _ _ he | exact hq _ _ _ (by simp) he | exact lo he)⟩
  | halt x w' => cases x <;> simp only [Oper.uponIn] at hh ⊢ <;> first | exact hq _ _ _ (by simp) hh | exact hh
theorem wpListIn_append {F : Fence} {n : Nat} {P : Program} {ops : Array Oper} {Q1 Q2 : Exit → Act → World → Prop} {l2 : List Oper} (hn : ∀ a w, Q1 .normal a w → wpListIn F n P ops Q2 l2 a w) (hq : ∀ e a w, e ≠ .normal → Q1 e a w → Q2 e a w) :
    ∀ (l1 : List Oper) (a : Act) (w : World), wpListIn F n P ops Q1 l1 a w → wpListIn F n P ops Q2 (l1 ++ l2) a w
  | [], a, w, h => hn a w h
  | o :: l1, a, w, h => by
    simp only [List.cons_append, wpListIn] at h ⊢
    split
    · rename_i hw
      rw [if_pos hw] at h
      exact opIn_mono (fun a w h => wpListIn_append hn hq l1 a w h) hq h
    · rename_i hw
      rw [if_neg hw] at h
      exact ⟨h.1, wpListIn_append hn hq l1 _ _ h.2⟩

theorem WI_region {id : Nat} {l : List Oper} (h : WIL E l.toArray l Q k s S) : WI E (.region id l.toArray false) Q k s S := fun U κ sv a W hs => wpIn_region_lit (h U κ sv a W hs)
theorem WIL_of {ops : Array Oper} {l : List Oper} (h : ∀ U, WL (E.X k s U) ops l (Q k s) S) : WIL E ops l Q k s S := fun U κ sv a W hs => by
  have := wpListIn_append (l2 := []) (Q2 := liftI E Q) (fun a w ⟨κ', sv', S', h1, h2⟩ => ⟨k, s, U, κ', sv', S', h1, h2⟩) (fun e a w _ ⟨κ', sv', S', h1, h2⟩ => ⟨k, s, U, κ', sv', S', h1, h2⟩) l a W (h U κ sv a W hs)
  rwa [List.append_nil] at this
/-- First a part that calls no yield. -/
theorem WIL_part {ops : Array Oper} (l1 l2 : List Oper) (h1 : ∀ U, WL (E.X k s U) ops l1 (fun e S' => e = .normal ∧ WIL E ops l2 Q k s S') S) : WIL E ops (l1 ++ l2) Q k s S := fun U κ sv a W hs =>
  wpListIn_append (fun a w ⟨κ', sv', S', h, _, h2⟩ => h2 U κ' sv' a w h) (fun e a w hne ⟨_, _, _, _, h, _⟩ => absurd h hne) l1 a W (h1 U κ sv a W hs)

/-- A call of yield. -/
theorem WIL_yield {ops : Array Oper} {o : Oper} {rest : List Oper} {x : Operand} {xs : Array Operand} {ts : Array TypeId} {d : Nat} {A : List D} (ho : o.op = .call { callee := .value x, args := xs, argTypes := ts }) (hg : o.guard = none) (hd : o.dst = some d)
    (hx : S.ev (E.X k false fun _ => False) x = .yl E.l) (hA : xs.toList.map (S.ev (E.X k false fun _ => False)) = A) (hv : scalL2 A = some (E.vals k)) (hk : k < E.n)
    (hT : WIL E ops rest Q (k + 1) false (S.set d (.bool true))) (hF : WIL E ops rest Q (k + 1) true (S.set d (.bool false))) : WIL E ops (o :: rest) Q k false S := fun U κ' sv a W hs => by
  obtain ⟨M, ⟨T, t1, t2, t3⟩, hown⟩ := hs.wld.frame
  have hκ : ∀ b o v, E.κ b o = some v → W.cell? ⟨b, o, none⟩ = some v := fun b o v hb => hs.wld.imm b o v (hs.wld.le.cells b o v hb)
  obtain ⟨fn, tmps, assign, body, y1, y2⟩ := E.hY T k W t1 hk hκ
  have hxv : a.eval x = .func (.yield E.l) #[] #[] := by
    have := hs.ev x
    have h2 : S.ev (E.X k false U) x = .yl E.l := hx
    rw [h2] at this
    generalize a.eval x = v at this
    cases this; rfl
  have hav : (xs.map a.eval) = (E.vals k).toArray := by
    have h1 := evs_rep hs xs.toList
    have h2 : xs.toList.map (S.ev (E.X k false U)) = A := hA
    rw [h2] at h1
    have h3 := scalL2_eq hv h1
    rw [← h3]; simp [← Array.toList_map]
  have hrun : (execOp a.eval o).run E.Z.P W = .ok (.round E.l fn tmps assign body) W := by
    have h4 : execOp a.eval o = Instr.yield E.l (xs.map a.eval) := by
      unfold execOp; rw [ho]; simp [resolve, Deferred.ofValue, hxv, invoke]
    rw [h4, hav]; exact y1
  refine wpListIn_plain hg fun K hK => ⟨fun _ _ => trivial, ?_⟩
  rw [show Fence.wide.round = none from rfl, Oper.semAt_none, hrun]
  refine ⟨fun h => (by simp [Fence.wide] at h), y2.mono ?_⟩
  rintro e W' ⟨hor, hkept⟩
  let U' : Nat → Prop := fun b => U b ∨ (W.heap.size ≤ b ∧ b < W'.heap.size)
  have hlt : ∀ b o v, κ' b o = some v → b < W.heap.size := fun b o v hb => by have := World.block_lt_of_cell? W _ (hs.wld.imm b o v hb); simpa using this
  have same : ∀ b o v, κ' b o = some v → W'.cell? ⟨b, o, none⟩ = some v := by
    intro b o v hb
    by_cases e : b < E.w.heap.size
    · exact hkept.cell b o v (hs.wld.old b o v e hb)
    · have hT : T b := t3 b (by omega) (hlt b o v hb) (hs.wld.aw1 b o v hb)
      rw [World.cell?_of_block (hkept.mine b hT)]; exact hs.wld.imm b o v hb
  have goon : ∀ (s' : Bool), E.K (k + 1) s' T W' → SimW (E.X (k + 1) s' U') κ' sv S W' := fun s' hK' => by
    obtain ⟨h1, h2, h3, h4, h5, _, h7, h8, h9, h10, h11, h12, h13, h14⟩ := hs.wld
    refine ⟨same, fun t => owns_mono (Le.refl _ _ _) rfl (fun b hb => hkept.mine b (t2 b (owns_lt (h2 t) hb) (hown t b hb))) (h2 t), h3, h4, h5,
      ⟨fun b => M b ∧ b < W.heap.size, ⟨T, hK', fun b _ hM => t2 b hM.2 hM.1, fun b e1 e2 e3 => ?_⟩, fun t b hb => ⟨hown t b hb, owns_lt (h2 t) hb⟩⟩, h7, h8, h9, Nat.le_trans h10 hkept.size, h11, fun b o v hb hU => ?_, fun t b hb hU => ?_, fun b hU => ?_⟩
    · by_cases e : b < W.heap.size
      · exact t3 b e1 e (fun h => e3 (.inl h))
      · exact absurd (.inr ⟨by omega, e2⟩) e3
    · rcases hU with hU | ⟨hU, _⟩
      · exact h12 b o v hb hU
      · have := hlt b o v hb; omega
    · rcases hU with hU | ⟨hU, _⟩
      · exact h13 t b hb hU
      · have := owns_lt (h2 t) hb; omega
    · rcases hU with hU | ⟨_, hU⟩
      · exact Nat.lt_of_lt_of_le (h14 b hU) hkept.size
      · exact hU
  have dfr : ∀ s', Dfr (E.X (k + 1) s' U').nd (E.X (k + 1) s' U').w0.heap.size a W' := fun s' => by
    obtain ⟨Ds, e1, e2, e3, e4⟩ := hs.defers
    have : Ds = [] := e4 rfl
    subst this
    exact .nil (by simpa using e1)
  rcases hor with ⟨rfl, hJ⟩ | ⟨rfl, hJ⟩
  · show K (a.put o.dst (.bool true)) W'
    rw [hd]
    have h1 : Sim (E.X (k + 1) false U') κ' sv S a W' := ⟨hs.size, dfr false, hs.slot, goon false hJ⟩
    exact hK _ _ (hT U' κ' sv _ W' (h1.put (some d) (.bool true)))
  · show K (a.put o.dst (.bool false)) W'
    rw [hd]
    have h1 : Sim (E.X (k + 1) true U') κ' sv S a W' := ⟨hs.size, dfr true, hs.slot, goon true hJ⟩
    exact hK _ _ (hF U' κ' sv _ W' (h1.put (some d) (.bool false)))
end

/-- An iterator's contract, out of its walk. -/
theorem itC_intro {Z : Seat} {f : FuncId} {fn : Func} {c : Code} {cap : List D} {n : Nat} {vals : Nat → List Value} (hf : Z.P.funcs[f]? = some fn) (hb : fn.body = some c) (hname : (fn.name == "runtime.NumGoroutine") = false) (hn : Nat.ble (cap.length + 1) fn.ntmps = true) (hA : PureL cap) (hres : fn.results = #[])
    (h : ∀ E : Env, E.Z = Z → E.nt = fn.ntmps → E.n = n → E.vals = vals → WI E c (fun k s e _ => (e = .normal ∨ e = .ret) ∧ (s = false → k = n) ∧ k ≤ n) 0 false (St.init (.yl E.l :: cap))) : ItC Z f cap n vals := by
  refine ⟨⟨fn, c, hf, hb, hname⟩, hA, fun w κ lb hκ hglob hrep l J Jx hJ hJx hY h0 => ?_⟩
  refine callsIn_of_wp_marks hf hb trivial ?_ rfl
  have hlen : cap.length + 1 ≤ fn.ntmps := Nat.le_of_ble_eq_true hn
  have hal := hrep.length
  let E : Env := ⟨Z, fn.ntmps, w, κ, l, n, vals, J, Jx, hJ, hJx, hY⟩
  have hrep' : RepL κ γ0 sv0 (.yl l :: cap) (Value.func (.yield l) #[] #[] :: lb) := .cons _ _ _ _ (.yl _) hrep
  have hsim : Sim (E.X 0 false fun _ => False) κ sv0 (St.init (.yl l :: cap)) { tmps := (Value.func (.yield l) #[] #[] :: lb).toArray ++ Array.replicate (fn.ntmps - (Value.func (.yield l) #[] #[] :: lb).toArray.size) Go.undef, defers := [] } w := by
    refine ⟨by simp [Env.X, E]; omega, Dfr.nil rfl, fun i _ => slot_init hrep' _ i, ?_⟩
    exact ⟨hκ, fun _ => trivial, (fun s t b hs => by cases hs), (fun s b o hs => by cases hs), (fun s b hs => by cases hs), ⟨fun _ => False, ⟨fun _ => False, h0, fun _ _ h => h, fun b h1 h2 _ => by have h1 : w.heap.size ≤ b := h1; omega⟩, fun s b hs => by cases hs⟩, hglob, fun b o v _ hk => hk, (fun b hb => by cases hb), Nat.le_refl _,
      ⟨fun _ _ _ h => h, fun _ => Nat.zero_le _, fun _ _ => rfl⟩, fun _ _ _ _ h => h, fun _ _ _ h => h, fun _ h => h.elim⟩
  refine wpIn_mono (h E rfl rfl rfl rfl _ κ sv0 _ w hsim) ?_
  rintro e a' W' ⟨k, s, U, κ', sv', S', hs, he, hk, hk2⟩
  obtain ⟨Ds, e1, _, _, e4⟩ := hs.defers
  have : Ds = [] := e4 rfl
  subst this
  have hd : a'.defers = [] := by simpa using e1
  obtain ⟨M, ⟨T, t1, _⟩, _⟩ := hs.wld.frame
  have fin : LeavesInM Fence.wide 0 Z.P fn a'.tmps (fun e W' => (∃ v, e = .returned v) ∧ ((∃ T, J T n W') ∨ (∃ T k, k ≤ n ∧ Jx T k W'))) a'.defers .returning W' := by
    rw [hd]
    refine ⟨.tuple #[], by simp [results, hres], ⟨_, rfl⟩, ?_⟩
    cases s with
    | false => rw [← hk rfl]; exact .inl ⟨T, t1⟩
    | true => exact .inr ⟨T, k, hk2, t1⟩
  rcases he with rfl | rfl <;> exact fin
section
variable {E : Env} {Q : Nat → Bool → Exit → St → Prop} {k : Nat} {s : Bool} {S : St}
theorem WI_ofR {id : Nat} {ops : Array Oper} {b : Bool} (h : ∀ U, W (E.X k s U) (.region id ops b) (Q k s) S) : WI E (.region id ops b) Q k s S := WI_of h
theorem WI_ofC {c : Operand} {x y : Code} (h : ∀ U, W (E.X k s U) (.cond c x y) (Q k s) S) : WI E (.cond c x y) Q k s S := WI_of h
theorem TI_normal {y : Code} (h : WI E y Q k s S) : thenI E y Q k s .normal S := h
theorem TI_exit {y : Code} {i : Nat} (h : Q k s (.exit i) S) : thenI E y Q k s (.exit i) S := h
theorem BI_normal {id : Nat} (h : Q k s .normal S) : blockI id Q k s .normal S := h
theorem BI_exit_eq {id : Nat} (h : Q k s .normal S) : blockI id Q k s (.exit id) S := by
  show (bif Nat.beq id id then Q k s .normal S else Q k s (.exit id) S)
  rw [Nat.beq_refl]; exact h
theorem WIL_split {ops : Array Oper} {l : List Oper} (n : Nat) (h1 : ∀ U, WL (E.X k s U) ops (l.take n) (fun e S' => e = .normal ∧ WIL E ops (l.drop n) Q k s S') S) : WIL E ops l Q k s S := by
  have := WIL_part (l.take n) (l.drop n) h1
  rwa [List.take_append_drop] at this
theorem WI_skip (h : Q k s .normal S) : WI E .skip Q k s S := fun U κ sv _ _ hs => wpIn_skip ⟨k, s, U, κ, sv, S, hs, h⟩
theorem WI_exit {id : Nat} (h : Q k s (.exit id) S) : WI E (.exit id) Q k s S := fun U κ sv _ _ hs => wpIn_exit ⟨k, s, U, κ, sv, S, hs, h⟩
theorem WI_ret (h : Q k s .ret S) : WI E .ret Q k s S := fun U κ sv _ _ hs => wpIn_ret ⟨k, s, U, κ, sv, S, hs, h⟩
/-- A loop of which only what varies is written. -/
theorem WI_loopK {c : Code} {α : Type} (kr kp : List Nat) (ki : α → Nat × Bool) (rs : α → List (Nat × D)) (gs : α → List (Nat × Nat)) (os : α → List (Nat × Own)) (inv : α → Prop) (μ : α → Nat) (x0 : α) (h0 : inv x0) (hk : ki x0 = (k, s)) (hs : AllE S.ρ (rs x0) ∧ AllE S.γ (gs x0) ∧ AllE S.σ (os x0))
    (round : ∀ x h, inv x → WI E c (fun k' s' e S' => match e with | .normal => ∃ x', inv x' ∧ μ x' < μ x ∧ ki x' = (k', s') ∧ ∀ U, ReachK (E.X k' s' U) S S' kr kp (rs x') (gs x') (os x') | e => Q k' s' e S') (ki x).1 (ki x).2 (mkK S kr kp (rs x) (gs x) (os x) h)) : WI E (.loop c) Q k s S := by
  refine WI_loop (α := α × (Nat → Nat)) (fun x => ((ki x.1).1, (ki x.1).2, mkK S kr kp (rs x.1) (gs x.1) (os x.1) x.2)) (fun x => inv x.1) (fun x => μ x.1) (x0, S.γ) h0
    ⟨by rw [hk], by rw [hk], fun U => wk_mk ⟨allE_append hs.1 (keepR_ok S kr), allE_append hs.2.1 (keepG_ok S kp), allE_append hs.2.2 (keepO_ok S kp)⟩⟩ (fun x hi => ?_)
  intro U κ sv a W hsim
  refine wpIn_mono (round x.1 x.2 hi U κ sv a W hsim) ?_
  rintro e a' W' ⟨k', s', U', κ', sv', S', h1, h2⟩
  cases e with
  | normal =>
    obtain ⟨x', i1, i2, i3, i4⟩ := h2
    obtain ⟨S'', w1, w2⟩ := i4 U'
    obtain ⟨κ2, sv2, h3⟩ := w1 κ' sv' a' W' h1
    exact ⟨k', s', U', κ2, sv2, S'', h3, (x', S''.γ), i1, i2, by rw [i3], by rw [i3], fun U2 => wk_mk (matchK_match w2)⟩
  | _ => exact ⟨k', s', U', κ', sv', S', h1, h2⟩
end
section
variable {X : Ctx} {S : St}
theorem bq_now {S' : St} {kp : List Nat} {gs : List (Nat × Nat)} {os : List (Nat × Own)} {Qx : Code → St → Prop} (h : AllE S'.γ gs ∧ AllE S'.σ os ∧ KeepP S S' kp) : bodyQ X S kp gs os Qx .normal S' := ⟨S', Wk.refl _ _, h.1, h.2.1, h.2.2⟩
theorem q_asU {o : Oper} {x : Operand} (ho : o.op = .assign x) (hd : S.ev X x = .undef) : QOp X o S .undef := q_assign ho hd
theorem fin_Fn {rs : List ResultVar} {t : Nat} {f : FuncId} {c c' : List D} (hr : rs = [.tmp t]) (h : S.ev X (.tmp t) = .fn f c) (e : c = c') : FinQ X rs (.fn f c') .ret S := ⟨[.fn f c], by rw [hr]; exact ⟨h, trivial⟩, by rw [e]; rfl⟩
theorem q_mvYl {o : Oper} {x : Operand} {l : Nat} (ho : o.op = .move x) (hd : S.ev X x = .yl l) : QOp X o S (.yl l) := q_move ho hd
/-- A box that a function value has captured is never written again. -/
theorem wk_freeze_cap (i j : Nat) {s g o : Nat} {f : FuncId} {c c' l : List D} (hX : X.ext = none) (h : S.ρ i = .fn f c) (hj : nth c j = some (.bx s g o)) (hg : S.γ s = g) (hσ : S.σ s = .box l) (hc' : overN c j [.rp l o] = some c') :
    Wk X S ⟨upd S.ρ i (.fn f c'), S.γ, upd S.σ s .none⟩ := fun κ sv a w hs => by
  have hle := freeze_le hs.wld s
  obtain ⟨rfl, hlen⟩ := overN_eq hc'
  have hnew : ∀ b, blk (S.σ s) (sv s) = some b → X.w0.heap.size ≤ b := fun b hb => (hs.wld.frsh s b hb).resolve_right (by rw [hX]; simp)
  refine ⟨_, sv, ⟨hs.size, hs.defers, fun k hk => ?_, hs.wld.freeze s hnew _⟩⟩
  by_cases e : k = i
  · subst e
    simp only [upd_same]
    have h1 := hs.slot k hk
    rw [h] at h1
    generalize a.tmps.getD k Go.undef = v at h1
    cases h1 with
    | fn _ _ vs hl =>
      rw [nth_eq] at hj
      obtain ⟨vj, hvj, hrj⟩ := hl.get hj
      have hjl : j < vs.length := (List.getElem?_eq_some_iff.1 hvj).1
      have hvs : vs = vs.take j ++ [vj] ++ vs.drop (j + 1) := by
        have h3 : vs[j] = vj := by simpa [List.getElem?_eq_getElem hjl] using hvj
        rw [← h3, List.append_assoc, List.singleton_append, List.getElem_cons_drop, List.take_append_drop]
      rw [hvs]
      refine .fn _ _ _ ((((hl.take j).mono hle).append (.cons _ _ _ _ ?_ .nil)).append ((hl.drop _).mono hle))
      have hown := hs.wld.own s
      rw [hσ] at hown
      obtain ⟨b, T, cs, e1, e2, e3, e4⟩ := hown
      cases hrj with
      | bx _ _ _ _ _ hh _ =>
        obtain ⟨b', h5, h6⟩ := hh hg.symm
        rw [e1] at h5
        simp only [Value.pointer.injEq, Option.some.injEq, Addr.mk.injEq, and_true] at h5
        subst h5
        rw [h6]
        have := Rep.rp (κ := fun b o => if blk (S.σ s) (sv s) = some b then w.cell? ⟨b, o, none⟩ else κ b o) (γ := S.γ) (sv := sv) l o b 0 cs e4 (e3.mono hle) (fun j v hj => by
          have hb : blk (S.σ s) (sv s) = some b := by rw [hσ, e1]; rfl
          simp only [hb, if_true]
          rw [cell_of_row w b _ _ _ _ e2, Nat.zero_add]; simpa using hj)
        simpa using this
  · simp only [upd_ne _ _ _ _ e]; exact (hs.slot k hk).mono hle
end
end Go.Ab


/- Calls of function values. -/
namespace Go.Ab
open Go Go.RowKit
section
variable {X : Ctx} {Q : Exit → St → Prop} {S T S0 : St} {ops : Array Oper} {o : Oper} {rest : List Oper} {E : List Ent} {V : List Vl}
theorem run_callv {P : Program} {f : FuncId} (h : HasBody P f) {a : Act} {w : World} {x : Operand} {xs : Array Operand} {ts : Array TypeId} {lb : List Value} (ho : o.op = .call { callee := .value x, args := xs, argTypes := ts }) (hx : a.eval x = .func (.func f) #[] lb.toArray) :
    (execOp a.eval o).run P w = .ok (.enter f (xs.toList.map a.eval ++ lb).toArray) w := by
  obtain ⟨fn, c, h1, h2, h3⟩ := h
  have h4 : execOp a.eval o = callFunc f (#[] ++ xs.map a.eval ++ lb.toArray) := by
    unfold execOp; rw [ho]; simp [resolve, Deferred.ofValue, hx, invoke]
  rw [h4]
  have h5 : (#[] ++ xs.map a.eval ++ lb.toArray) = (xs.toList.map a.eval ++ lb).toArray := by simp [← Array.toList_map]
  rw [h5]
  have h6 : ¬ fn.name = "runtime.NumGoroutine" := by simpa using h3
  simp [callFunc, h1, h2, h6]
theorem ev_fn {κ : Nat → Nat → Option Value} {sv : Nat → Value} {a : Act} {w : World} (hs : Sim X κ sv S a w) {x : Operand} {f : FuncId} {c : List D} (h : S.ev X x = .fn f c) : ∃ lb : List Value, a.eval x = .func (.func f) #[] lb.toArray ∧ RepL κ S.γ sv c lb := by
  have h1 := hs.ev x
  rw [h] at h1
  generalize a.eval x = v at h1
  cases h1 with
  | fn _ _ vs hl => exact ⟨vs, rfl, hl⟩
theorem call_scalL {κ : Nat → Nat → Option Value} {sv : Nat → Value} {a : Act} {w : World} (hs : Sim X κ sv S a w) {f : FuncId} {L A : List D} {vs : List Value} {R : D} {v0 : Value} (hc : Contract X.Z f A R) (hr : RepL κ S.γ sv L vs) (hA : FzL S L A) (hR : scal R = some v0) :
    Calls X.Z.P f vs.toArray w fun e w'' => e = .returned v0 ∧ Below w.heap.size w w'' := by
  let κ' : Nat → Nat → Option Value := fun b o => w.cell? ⟨b, o, none⟩
  have hle : Le κ κ' S.γ S.γ sv sv := ⟨fun b o v hk => hs.wld.imm b o v hk, fun _ => Nat.le_refl _, fun _ _ => rfl⟩
  have hr2 := hA.rep hs.wld hle (fun b o v h => h) hr
  refine (hc.calls w κ' _ (fun b o v h => h) (fun g l hg => ?_) (hr2.pure (fun _ _ _ h => h) hc.pureA)).mono ?_
  · obtain ⟨h1, u, h2, h3⟩ := Sim.globOk hs.wld g l hg
    exact ⟨h1, u, h2.mono ⟨fun b o v hk => hs.wld.imm b o v hk, fun _ => Nat.le_refl _, fun _ _ => rfl⟩, fun j v hj => hs.wld.imm _ _ _ (h3 j v hj)⟩
  · rintro e w'' ⟨v, rfl, hv, hb2⟩
    rw [scal_eq hR hv]
    exact ⟨rfl, hb2⟩
theorem WL_callv {x : Operand} {f : FuncId} {c : List D} {xs : Array Operand} {ts : Array TypeId} {A : List D} {R : D} {v0 : Value} (hg : o.guard = none) (ho : o.op = .call { callee := .value x, args := xs, argTypes := ts }) (hx : S.ev X x = .fn f c) (hc : Contract X.Z f A R) (hA : FzL S (xs.toList.map (S.ev X) ++ c) A) (hR : scal R = some v0)
    {t : Nat} (hd : o.dst = some t) (hk : WL X ops rest Q (S.set t R)) : WL X ops (o :: rest) Q S := fun κ sv a w hs => by
  obtain ⟨lb, h1, h2⟩ := ev_fn hs hx
  refine wpListIn_plain hg fun K hK => op_call (run_callv hc.body ho h1) (call_scalL hs hc ((evs_rep hs xs.toList).append h2) hA hR) ?_
  rintro e w' ⟨rfl, hb⟩
  refine ⟨v0, rfl, ?_⟩
  rw [hd]
  exact hK _ _ (hk κ sv _ w' ((hs.later hb).put (some t) (scal_rep hR)))
theorem toArr {x : Ab.Own} {E z n : Nat} {f f' : Nat → List D} (h : x = .arr E z n f) (e : ∀ i, f i = f' i) : x = .arr E z n f' := by rw [h, show f = f' from funext e]
end
/- Methods bound to a value. -/
section
variable {X : Ctx} {Q : Exit → St → Prop} {S T S0 : St} {ops : Array Oper} {o : Oper} {rest : List Oper} {E : List Ent} {V : List Vl} {x y : Operand}
theorem q_mf {cs : Array Operand} {f : FuncId} (ho : o.op = .makeFunc (.func f) cs #[]) : QOp X o S (.mf f (cs.toList.map (S.ev X))) := fun κ sv a w hs => by
  refine ⟨.func (.func f) (cs.map a.eval) #[], ?_, fun w' _ => by simp [execOp, ho, Instr.makeFunc]⟩
  have := Rep.mf (κ := κ) (γ := S.γ) (sv := sv) f _ _ (evs_rep hs cs.toList)
  have e : (cs.toList.map a.eval).toArray = cs.map a.eval := by simp [← Array.toList_map]
  rwa [e] at this
theorem fq_mf {cs : Array Operand} {f : FuncId} (ho : o.op = .makeFunc (.func f) cs #[]) : FQ X o S (.mf f (cs.toList.map (S.ev X))) := fun h => by
  have h1 : cs.toList.map (S.ev X) = cs.toList.map ((restr S (lcOf X S o) h).ev X) := List.map_congr_left fun x hx => (restr_ev (by rw [ho]; simp [Op.operands]; simpa using hx)).symm
  rw [h1]; exact q_mf ho
theorem q_mvMf {f : FuncId} {l : List D} (ho : o.op = .move x) (hd : S.ev X x = .mf f l) : QOp X o S (.mf f l) := q_move ho hd
theorem q_asMf {f : FuncId} {l : List D} (ho : o.op = .assign x) (hd : S.ev X x = .mf f l) : QOp X o S (.mf f l) := q_assign ho hd
theorem run_callm {P : Program} {f : FuncId} (h : HasBody P f) {a : Act} {w : World} {xs : Array Operand} {ts : Array TypeId} {lb : List Value} (ho : o.op = .call { callee := .value x, args := xs, argTypes := ts }) (hx : a.eval x = .func (.func f) lb.toArray #[]) :
    (execOp a.eval o).run P w = .ok (.enter f (lb ++ xs.toList.map a.eval).toArray) w := by
  obtain ⟨fn, c, h1, h2, h3⟩ := h
  have h4 : execOp a.eval o = callFunc f (lb.toArray ++ xs.map a.eval ++ #[]) := by
    unfold execOp; rw [ho]; simp [resolve, Deferred.ofValue, hx, invoke]
  rw [h4]
  have h5 : (lb.toArray ++ xs.map a.eval ++ #[]) = (lb ++ xs.toList.map a.eval).toArray := by simp [← Array.toList_map]
  rw [h5]
  have h6 : ¬ fn.name = "runtime.NumGoroutine" := by simpa using h3
  simp [callFunc, h1, h2, h6]
theorem ev_mf {κ : Nat → Nat → Option Value} {sv : Nat → Value} {a : Act} {w : World} (hs : Sim X κ sv S a w) {f : FuncId} {c : List D} (h : S.ev X x = .mf f c) : ∃ lb : List Value, a.eval x = .func (.func f) lb.toArray #[] ∧ RepL κ S.γ sv c lb := by
  have h1 := hs.ev x
  rw [h] at h1
  generalize a.eval x = v at h1
  cases h1 with
  | mf _ _ vs hl => exact ⟨vs, rfl, hl⟩
theorem WG_callm {f : FuncId} {c : List D} {xs : Array Operand} {ts : Array TypeId} {A : List D} {R : D} {v0 : Value} {t : Nat} {gs : List Nat} (hw : Want X S ops o gs) (ho : o.op = .call { callee := .value x, args := xs, argTypes := ts }) (hd : o.dst = some t) (hx : S.ev X x = .mf f c) (hc : Contract X.Z f A R) (hA : FzL S (c ++ xs.toList.map (S.ev X)) A) (hR : scal R = some v0)
    (hk : WG X Q ops S0 (E ++ [(⟨gs ++ slotsOf (x :: xs.toList), plL (c ++ xs.toList.map (S.ev X)), plL (c ++ xs.toList.map (S.ev X))⟩, ⟨some t, none, none⟩)]) (V ++ [⟨R, 0, .none⟩]) rest (S.set t R)) : WG X Q ops S0 E V (o :: rest) S := by
  refine WG_step rfl (fun hoi T hT κ sv a w hs => ?_) hk
  have hm : xs.toList.map (T.ev X) = xs.toList.map (S.ev X) := List.map_congr_left fun y hy => ev_congr fun t e => by subst e; exact hT.rr t (List.mem_append_right _ (slots_mem (List.mem_cons_of_mem _ hy)))
  have hxT : T.ev X x = .mf f c := (ev_congr fun t e => by subst e; exact hT.rr t (List.mem_append_right _ (slots_mem (List.mem_cons_self ..)))).trans hx
  have hA' : FzL T (c ++ xs.toList.map (T.ev X)) A := by
    rw [hm]
    exact fzL_agree hA (fun s hs => hT.rg s hs) (fun s hs => hT.ro s hs)
  unfold wpOpIn
  rw [hoi]
  simp only
  rw [if_pos (want_at hw (fun t ht => hT.rr t (List.mem_append_left _ ht)) hs)]
  obtain ⟨lb, h1, h2⟩ := ev_mf hs hxT
  refine op_call (run_callm hc.body ho h1) (call_scalL hs hc (h2.append (evs_rep hs xs.toList)) hA' hR) ?_
  rintro e w' ⟨rfl, hb⟩
  refine ⟨v0, rfl, ?_⟩
  rw [hd]
  exact ⟨κ, sv, (hs.later hb).put (some t) (scal_rep hR)⟩

/- Arrays. -/
theorem array_row {P : Program} {T : TypeId} {r : TRow} (hok : rowOk P T r = true) (hk : Nat.beq r.k 2 = true) : P.underlying T = some (.array r.ln r.el) := by
  obtain ⟨i, d, _, hd, _, _, _, h4⟩ := row_info hok
  have hk2 := Nat.eq_of_beq_eq_true hk
  cases d <;> try (simp only at h4; omega)
  obtain ⟨_, h5, h6⟩ := h4
  rw [hd, h5, h6]
theorem q_iab {T : TypeId} {r q : TRow} {s g j : Nat} {k : Int} (ho : o.op = .indexAddr T x y) (hx : S.ev X x = .bx s g j) (hg : S.γ s = g) (hy : S.ev X y = .int .i64 k) (h0 : 0 ≤ k)
    (hr : nth X.Z.tab T = some r) (hk : Nat.beq r.k 2 = true) (h1 : k < r.ln) (hq : nth X.Z.tab r.el = some q) (hq9 : Nat.beq q.k 9 = false) : QOp X o S (.bx s g (j + k.toNat * q.sz)) := fun κ sv a w hs => by
  have hok := X.Z.tabOk _ _ hr (by intro e; rw [e] at hk; cases hk)
  have hokq := X.Z.tabOk _ _ hq (by intro e; rw [e] at hq9; cases hq9)
  have hyv := rep_int (hy ▸ hs.ev y)
  obtain ⟨b, e1, e2⟩ := live_bx hs hx hg
  exact ⟨.pointer (some ⟨b, j + k.toNat * q.sz, none⟩), .bx _ _ _ _ (by omega) (fun _ => ⟨b, e1, rfl⟩) rfl, fun w' _ => by
    simp [execOp, ho, e2, hyv, Instr.indexAt, asIntOf, run_underlying (array_row hok hk), Instr.sureAddr, h0, h1, run_size_row hokq, addr_add]⟩
theorem q_idx {T : TypeId} {r q : TRow} {l m : List D} {k : Int} (ho : o.op = .index T x y) (hx : S.ev X x = .agg l) (hy : S.ev X y = .int .i64 k) (h0 : 0 ≤ k)
    (hr : nth X.Z.tab T = some r) (hk : Nat.beq r.k 2 = true) (h1 : k < r.ln) (hq : nth X.Z.tab r.el = some q) (hqk : (Nat.beq q.k 1 || Nat.beq q.k 2) = true) (hm : takeN q.sz (dropN (k.toNat * q.sz) l) = some m) : QOp X o S (.agg m) := fun κ sv a w hs => by
  have hok := X.Z.tabOk _ _ hr (by intro e; rw [e] at hk; cases hk)
  have hokq := X.Z.tabOk _ _ hq (by intro e; rw [e] at hqk; simp at hqk)
  have hyv := rep_int (hy ▸ hs.ev y)
  obtain ⟨vs, e1, hl⟩ := ev_agg hs hx
  obtain ⟨rfl, hlen⟩ := takeN_eq hm
  rw [dropN_eq] at hlen ⊢
  obtain ⟨iq, dq, hiq, hdq, hsq, _⟩ := row_info hokq
  refine ⟨.agg ((vs.drop (k.toNat * q.sz)).take q.sz).toArray, .agg _ _ ((hl.drop _).take _), fun w' _ => ?_⟩
  have hagg : (isAgg r.el).run X.Z.P w' = .ok true w' := by rw [run_isAgg hdq, aggOf_k hokq, hqk]
  have hext : vs.toArray.extract (k.toNat * q.sz) (k.toNat * q.sz + q.sz) = ((vs.drop (k.toNat * q.sz)).take q.sz).toArray := by
    simp [List.extract_eq_drop_take]
  simp [execOp, ho, e1, hyv, Instr.index, asIntOf, run_underlying (array_row hok hk), h0, h1, run_size_row hokq, part, hagg, hext]
end
end Go.Ab


/- Functions that hand back a slice of their own, which the caller may write. -/
namespace Go.Ab
open Go Go.RowKit

/- The slice that is handed back stands as .os 0 1. -/
mutual
def renO (p g : Nat) : D → D
  | .os _ _ => .os p g
  | .agg l => .agg (renL p g l)
  | d => d
def renL (p g : Nat) : List D → List D
  | [] => []
  | d :: l => renO p g d :: renL p g l
end
mutual
inductive PO : D → Prop
  | pure (d : D) : Pure d → PO d
  | os (s g : Nat) : PO (.os s g)
  | agg (l : List D) : POL l → PO (.agg l)
inductive POL : List D → Prop
  | nil : POL []
  | cons (d : D) (l : List D) : PO d → POL l → POL (d :: l)
end
section
variable {κ κ' : Nat → Nat → Option Value} {γ γ' : Nat → Nat} {sv sv' : Nat → Value}
mutual
theorem rep_ren (hκ : ∀ b o v, κ b o = some v → κ' b o = some v) {p g p' g' : Nat} (hg : γ p = g) (hg' : γ' p' = g') (hv : sv' p' = sv p) : ∀ {d : D} {v : Value}, PO d → Rep κ γ sv (renO p g d) v → Rep κ' γ' sv' (renO p' g' d) v
  | .os s0 g0, v, _, hr => by
    simp only [renO] at hr ⊢
    cases hr with
    | os _ _ _ h1 h2 h3 => exact .os _ _ _ (Nat.le_of_eq hg'.symm) (fun _ => by rw [hv]; exact h2 hg.symm) h3
  | .agg l, v, hp, hr => by
    simp only [renO] at hr ⊢
    cases hr with
    | agg _ vs hl => exact .agg _ _ (repL_ren hκ hg hg' hv (by
        cases hp with
        | pure _ hp => exact pol_of (by cases hp; assumption)
        | agg _ hp => exact hp) hl)
  | .int k n, v, hp, hr => by cases hr; exact .int _ _
  | .bool b, v, hp, hr => by cases hr; exact .bool _
  | .str s, v, hp, hr => by cases hr; exact .str _
  | .tup l, v, hp, hr => by cases hp with | pure _ hp => exact Rep.pure hκ hr hp
  | .sl z n f, v, hp, hr => by cases hp with | pure _ hp => exact Rep.pure hκ hr hp
  | .nil, v, hp, hr => by cases hr; exact .nil
  | .rp l o, v, hp, hr => by cases hp with | pure _ hp => exact Rep.pure hκ hr hp
  | .bx s g o, v, hp, hr => by cases hp with | pure _ hp => cases hp
  | .op s g z i o, v, hp, hr => by cases hp with | pure _ hp => cases hp
  | .fn f c, v, hp, hr => by cases hp with | pure _ hp => exact Rep.pure hκ hr hp
  | .yl l, v, hp, hr => by cases hr; exact .yl _
  | .mf f c, v, hp, hr => by cases hp with | pure _ hp => exact Rep.pure hκ hr hp
  | .undef, v, _, _ => .undef v
theorem repL_ren (hκ : ∀ b o v, κ b o = some v → κ' b o = some v) {p g p' g' : Nat} (hg : γ p = g) (hg' : γ' p' = g') (hv : sv' p' = sv p) : ∀ {l : List D} {vs : List Value}, POL l → RepL κ γ sv (renL p g l) vs → RepL κ' γ' sv' (renL p' g' l) vs
  | [], vs, _, hr => by simp only [renL] at hr ⊢; cases hr; exact .nil
  | d :: l, vs, hp, hr => by
    simp only [renL] at hr ⊢
    cases hr with
    | cons _ v _ vs h1 h2 =>
      cases hp with
      | cons _ _ p1 p2 => exact .cons _ _ _ _ (rep_ren hκ hg hg' hv p1 h1) (repL_ren hκ hg hg' hv p2 h2)
theorem pol_of : ∀ {l : List D}, (∀ d ∈ l, Pure d) → POL l
  | [], _ => .nil
  | d :: l, h => .cons d l (.pure d (h d (List.mem_cons_self ..))) (pol_of fun x hx => h x (List.mem_cons_of_mem _ hx))
end
end

structure ContractO (Z : Seat) (f : FuncId) (A : List D) (R : D) (E z n : Nat) (el : Nat → List D) : Prop where
  pureA : PureL A
  poR : PO R
  pureE : ∀ i, i < n → PureL (el i)
  body : HasBody Z.P f
  calls : ∀ (w : World) (κ : Nat → Nat → Option Value) (args : List Value), Fits κ w → GlobOk Z κ → RepL κ γ0 sv0 A args →
    Calls Z.P f args.toArray w fun e w' => ∃ v sl κ', e = .returned v ∧ Rep κ' (fun _ => 1) (fun _ => sl) (renO 0 1 R) v ∧ (∀ b o u, κ b o = some u → κ' b o = some u) ∧ (∀ b o u, b < w.heap.size → κ' b o = some u → κ b o = some u) ∧
      (∀ b o u, κ' b o = some u → w'.cell? ⟨b, o, none⟩ = some u) ∧ sl.oneCell' = true ∧ Owns w.heap.size κ' (fun _ => 1) (fun _ => sl) w' 0 (.arr E z n el) ∧ (∀ b, blk (.arr E z n el) sl = some b → ∀ o, κ' b o = none) ∧ Below w.heap.size w w'

def FinO (X : Ctx) (rs : List ResultVar) (R : D) (E z n : Nat) (el : Nat → List D) : Exit → St → Prop
  | .normal, S | .ret, S => ∃ s g, S.γ s = g ∧ S.σ s = .arr E z n el ∧ ∃ ds, ResL X S rs ds ∧ tupOf ds = renO s g R
  | _, _ => False
theorem contractO_intro {Z : Seat} {f : FuncId} {fn : Func} {c : Code} {A : List D} {R : D} {E z n : Nat} {el : Nat → List D} (hf : Z.P.funcs[f]? = some fn) (hb : fn.body = some c) (hname : (fn.name == "runtime.NumGoroutine") = false) (hn : Nat.ble A.length fn.ntmps = true) (hA : PureL A) (hR : PO R) (hE : ∀ i, i < n → PureL (el i))
    (h : ∀ w κ, W (Ctx.plain Z fn.ntmps w κ none) c (FinO (Ctx.plain Z fn.ntmps w κ none) fn.results.toList R E z n el) (St.init A)) : ContractO Z f A R E z n el := by
  refine ⟨hA, hR, hE, ⟨fn, c, hf, hb, hname⟩, fun w κ args hκ hglob hrep => ?_⟩
  refine (callsIn_wide (n := 0)).1 (callsIn_of_wp_marks hf hb trivial ?_ rfl)
  have hlen : A.length ≤ fn.ntmps := Nat.le_of_ble_eq_true hn
  have hal := hrep.length
  have hsim : Sim (Ctx.plain Z fn.ntmps w κ none) κ sv0 (St.init A) { tmps := args.toArray ++ Array.replicate (fn.ntmps - args.toArray.size) Go.undef, defers := [] } w := by
    refine ⟨by simp [Ctx.plain]; omega, Dfr.nil rfl, fun i _ => slot_init hrep _ i, ?_⟩
    exact ⟨hκ, fun _ => trivial, (fun s t b hs => by cases hs), (fun s b o hs => by cases hs), (fun s b hs => by cases hs), ⟨fun _ => False, ⟨Frame.refl _ _, fun _ h => h.elim⟩, fun s b hs => by cases hs⟩, hglob, fun b o v _ hk => hk, (fun b hb => by cases hb), Nat.le_refl _, ⟨fun _ _ _ h => (by cases h), fun _ => Nat.zero_le _, fun _ _ => rfl⟩, fun _ _ _ _ h => h, fun _ _ _ h => h, fun _ h => h.elim⟩
  refine wpIn_mono (h w κ κ sv0 _ w hsim) ?_
  rintro e a' w' ⟨κ', sv', S', hs, hq⟩
  cases e <;> first | exact hq.elim | skip
  all_goals
    obtain ⟨s, g, hg, hσ, ds, hd, hren⟩ := hq
    obtain ⟨Ds, d1, d2, d3, _⟩ := hs.defers
    show LeavesInM _ _ _ _ _ _ a'.defers _ _
    rw [d1]
    refine leaves_of rfl rfl hd (fun a w' v hs h2 => ?_) Ds a' w' hs d1 d2 d3
    rw [hren] at h2
    obtain ⟨M, h1, _⟩ := hs.wld.frame
    have hown := hs.wld.own s
    rw [hσ] at hown
    have hk : ∀ b o u, κ' b o = some u → (fun b o => if b < w.heap.size then κ b o else κ' b o) b o = some u := fun b o u hu => by
      simp only
      split
      · exact hs.wld.old b o u (by assumption) hu
      · exact hu
    have hsl : (sv' s).oneCell' = true := by
      obtain ⟨xs, e1, _⟩ := hown
      rcases e1.2 with ⟨hv, _⟩ | ⟨b, cap, cur, hv, _⟩ <;> rw [hv] <;> rfl
    refine ⟨v, sv' s, fun b o => if b < w.heap.size then κ b o else κ' b o, rfl, rep_ren (p := s) (g := g) (p' := 0) (g' := 1) (γ' := fun _ => 1) (sv' := fun _ => sv' s) hk hg rfl rfl hR h2, fun b o u hu => ?_, fun b o u hb hu => ?_, fun b o u hu => ?_, hsl, ?_, fun b hb o => ?_, h1.1.below⟩
    · have : b < w.heap.size := by have := World.block_lt_of_cell? w _ (hκ b o u hu); simpa using this
      simp only; rw [if_pos this]; exact hu
    · simp only at hu; rw [if_pos hb] at hu; exact hu
    · simp only at hu
      split at hu
      · rename_i hb
        have h3 := hκ b o u hu
        rw [h1.1.below.cell (by simpa using hb)]; exact h3
      · exact hs.wld.imm b o u hu
    · obtain ⟨xs, e1, e2, e3, e4⟩ := hown
      exact ⟨xs, e1, e2, e3, fun i hi => (e4 i hi).pure hk (hE i hi)⟩
    · have hbk : blk (S'.σ s) (sv' s) = some b := by rw [hσ]; exact hb
      have h3 := hs.wld.frsh s b hbk
      have h4 : w.heap.size ≤ b := h3.resolve_right (fun h => by cases h)
      simp only; rw [if_neg (by omega)]
      exact hs.wld.sep s b o hbk

section
variable {X : Ctx} {κ κ' : Nat → Nat → Option Value} {sv : Nat → Value} {S : St} {w w' : World}
/-- What a callee has handed back becomes the caller's own. -/
theorem SimW.adopt (h : SimW X κ sv S w) (hb : Below w.heap.size w w') (k1 : ∀ b o u, κ b o = some u → κ' b o = some u) (k2 : ∀ b o u, b < w.heap.size → κ' b o = some u → κ b o = some u) (k3 : ∀ b o u, κ' b o = some u → w'.cell? ⟨b, o, none⟩ = some u)
    (p : Nat) (ow : Own) (sl : Value) (hnew : ∀ b, blk ow sl = some b → w.heap.size ≤ b ∧ b < w'.heap.size ∧ ∀ o, κ' b o = none) (ho : Owns X.w0.heap.size κ' (upd S.γ p (S.γ p + 1)) (upd sv p sl) w' p ow) (ρ' : Nat → D) :
    SimW X κ' (upd sv p sl) ⟨ρ', upd S.γ p (S.γ p + 1), upd S.σ p ow⟩ w' := by
  have hle : Le κ κ' S.γ (upd S.γ p (S.γ p + 1)) sv (upd sv p sl) := by
    obtain ⟨a, b, c⟩ := le_renew κ S.γ sv p sl
    exact ⟨k1, b, c⟩
  have hbk : ∀ t b, blk (upd S.σ p ow t) (upd sv p sl t) = some b → (t = p ∧ blk ow sl = some b) ∨ (t ≠ p ∧ blk (S.σ t) (sv t) = some b) := by
    intro t b hb
    by_cases e : t = p
    · subst e; rw [upd_same, upd_same] at hb; exact .inl ⟨rfl, hb⟩
    · rw [upd_ne _ _ _ _ e, upd_ne _ _ _ _ e] at hb; exact .inr ⟨e, hb⟩
  obtain ⟨h1, h2, h3, h4, h5, ⟨M, h6, h6'⟩, h7, h8, h9, h10, h11, h12, h13, h14⟩ := h
  refine ⟨k3, fun t => ?_, fun t u b ht hu => ?_, fun t b o ht => ?_, fun t b ht => ?_, ⟨_, X.cl M w w' h6 ⟨hb.os, hb.tape, hb.output, hb.size, fun k hk _ => hb.block k hk⟩, fun t b ht => ?_⟩, fun g l hgl => ?_, fun b o v hlt hk => ?_, fun b hb' => ?_, Nat.le_trans h10 hb.size, h11.trans hle, fun b o v hk hT => ?_, fun t b ht hT => ?_, fun b hT => Nat.lt_of_lt_of_le (h14 b hT) hb.size⟩
  · by_cases e : t = p
    · subst e; simp only [upd_same]; exact ho
    · simp only [upd_ne _ _ _ _ e]
      exact owns_mono hle (upd_ne _ _ _ _ e) (fun b hb' => hb.block b (owns_lt (h2 t) hb')) (h2 t)
  · simp only at ht hu
    rcases hbk t b ht with ⟨rfl, a1⟩ | ⟨e1, a1⟩ <;> rcases hbk u b hu with ⟨rfl, a2⟩ | ⟨e2, a2⟩
    · rfl
    · have := owns_lt (h2 u) a2; have := (hnew b a1).1; omega
    · have := owns_lt (h2 t) a1; have := (hnew b a2).1; omega
    · exact h3 t u b a1 a2
  · simp only at ht
    rcases hbk t b ht with ⟨rfl, a1⟩ | ⟨e1, a1⟩
    · exact (hnew b a1).2.2 o
    · cases hk : κ' b o with
      | none => rfl
      | some v => have h20 := k2 b o v (owns_lt (h2 t) a1) hk; rw [h4 t b o a1] at h20; cases h20
  · simp only at ht
    rcases hbk t b ht with ⟨rfl, a1⟩ | ⟨e1, a1⟩
    · exact .inl (Nat.le_trans h10 (hnew b a1).1)
    · exact h5 t b a1
  · simp only at ht
    rcases hbk t b ht with ⟨rfl, a1⟩ | ⟨e1, a1⟩
    · exact .inr (hnew b a1).1
    · exact .inl (h6' t b a1)
  · obtain ⟨hc, u, hu, hk⟩ := h7 g l hgl
    exact ⟨hc, u, hu.mono hle, fun j v hj => k1 _ _ _ (hk j v hj)⟩
  · exact h8 b o v hlt (k2 b o v (Nat.lt_of_lt_of_le hlt h10) hk)
  · obtain ⟨e1, e2⟩ := h9 b hb'
    by_cases e : 0 = p
    · subst e; simp only [upd_same]; exact ⟨by omega, fun e => by omega⟩
    · simp only [upd_ne _ _ _ _ e]; exact ⟨e1, e2⟩
  · by_cases e : b < w.heap.size
    · exact h12 b o v (k2 b o v e hk) hT
    · have := h14 b hT; omega
  · simp only at ht
    rcases hbk t b ht with ⟨rfl, a1⟩ | ⟨e1, a1⟩
    · have := h14 b hT; have := (hnew b a1).1; omega
    · exact h13 t b a1 hT
end

section
variable {X : Ctx} {Q : Exit → St → Prop} {S : St} {ops : Array Oper} {o : Oper} {rest : List Oper}
/-- A call that hands back a slice of the callee's own: it becomes place p. -/
theorem WL_callo (p : Nat) {f : FuncId} {xs : Array Operand} {ts : Array TypeId} {A : List D} {R : D} {E z n : Nat} {el : Nat → List D} (hg : o.guard = none) (ho : o.op = .call { callee := .value (.func f), args := xs, argTypes := ts }) (hc : ContractO X.Z f A R E z n el) (hA : xs.toList.map (S.ev X) = A)
    {t : Nat} (hd : o.dst = some t) {R' : D} (hR : renO p (S.γ p + 1) R = R') (hk : WL X ops rest Q ⟨upd S.ρ t R', upd S.γ p (S.γ p + 1), upd S.σ p (.arr E z n el)⟩) : WL X ops (o :: rest) Q S := fun κ sv a w hs => by
  subst hR
  have hr := evs_rep hs xs.toList
  rw [hA] at hr
  refine wpListIn_plain hg fun K hK => op_call (run_call hc.body ho) (hc.calls w κ _ (Sim.fits hs.wld) (Sim.globOk hs.wld) (hr.pure (fun _ _ _ h => h) hc.pureA)) ?_
  rintro e w' ⟨v, sl, κ', rfl, hv, k1, k2, k3, hsl, hown, hsep, hb⟩
  refine ⟨v, rfl, ?_⟩
  rw [hd]
  have hle : Le κ κ' S.γ (upd S.γ p (S.γ p + 1)) sv (upd sv p sl) := by
    obtain ⟨a, b, c⟩ := le_renew κ S.γ sv p sl
    exact ⟨k1, b, c⟩
  have hW := hs.wld.adopt hb k1 k2 k3 p (.arr E z n el) sl (fun b hbk => by
    obtain ⟨xs, e1, _⟩ := hown
    rcases e1.2 with ⟨hv, _⟩ | ⟨b', cap, cur, hv, hbase, hh, _⟩
    · simp only at hv; rw [hv] at hbk; cases hbk
    · simp only at hv
      rw [hv] at hbk; simp only [blk, Option.some.injEq] at hbk; subst hbk
      exact ⟨hbase, (Array.getElem?_eq_some_iff.1 hh).1, hsep b' (by rw [hv]; rfl)⟩) (by
    obtain ⟨xs, e1, e2, e3, e4⟩ := hown
    exact ⟨xs, by rw [upd_same]; exact owns_base e1 hs.wld.base, e2, e3, fun i hi => (e4 i hi).pure (fun _ _ _ h => h) (hc.pureE i hi)⟩) S.ρ
  have hs' : Sim X κ' (upd sv p sl) ⟨S.ρ, upd S.γ p (S.γ p + 1), upd S.σ p (.arr E z n el)⟩ a w' := ⟨hs.size, hs.defers.later hb, fun i hi => (hs.slot i hi).mono hle, hW⟩
  exact hK _ _ (hk κ' _ _ w' (hs'.put (some t) (rep_ren (p := 0) (g := 1) (fun _ _ _ h => h) rfl (upd_same _ _ _) (upd_same _ _ _) hc.poR hv)))
end
section
variable {X : Ctx} {S : St}
/-- The elements told anew: none is an empty slice; beyond the length nothing is said. -/
theorem wk_arrN (s : Nat) {E z n : Nat} {f : Nat → List D} (f' : Nat → List D) (hσ : S.σ s = .arr E z n f) (h : ∀ i, i < n → NilL (f i) (f' i)) : Wk X S ⟨S.ρ, S.γ, upd S.σ s (.arr E z n f')⟩ := fun κ sv a w hs => by
  have hown := hs.wld.own s
  rw [hσ] at hown
  obtain ⟨xs, e1, e2, e3, e4⟩ := hown
  have nl : ∀ {l l' : List D}, NilL l l' → l'.length = l.length := by
    intro l
    induction l with
    | nil => intro l' h; cases l' <;> first | rfl | exact h.elim
    | cons d l ih => intro l' h; cases l' with
      | nil => exact h.elim
      | cons d' l' => simp [ih h.2]
  refine ⟨κ, sv, ⟨hs.size, hs.defers, hs.slot, ?_⟩⟩
  refine hs.wld.rewrite s (.arr E z n f') (below_grown (Below.refl _ _) _) (by
    rw [hσ]
    cases sv s with
    | pointer a => cases a <;> rfl
    | slice a => cases a <;> rfl
    | _ => rfl) ⟨xs, e1, fun i hi => by rw [nl (h i hi)]; exact e2 i hi, fun i hi => nilL_cell (h i hi) (e3 i hi), fun i hi => nilL_rep (h i hi) (e4 i hi)⟩ _
theorem n_wk {o : Oper} {S1 S2 : St} (h : NOp X o S S1) (hw : Wk X S1 S2) : NOp X o S S2 := fun κ sv a w hs => by
  obtain ⟨v, w', κ', sv', h1, h2⟩ := h κ sv a w hs
  obtain ⟨κ2, sv2, h3⟩ := hw κ' sv' _ w' h2
  exact ⟨v, w', κ2, sv2, h1, h3⟩
theorem wk_slf (t : Nat) {z n : Nat} {f : Nat → List D} (f' : Nat → List D) (h : S.ρ t = .sl z n f) (hf : ∀ i, i < n → f i = f' i) : Wk X S (S.set t (.sl z n f')) := fun κ sv a w hs => by
  refine ⟨κ, sv, ⟨hs.size, hs.defers, fun i hi => ?_, hs.wld.slots rfl rfl⟩⟩
  by_cases e : i = t
  · subst e
    simp only [St.set, upd_same]
    have h1 := hs.slot i hi
    rw [h] at h1
    generalize a.tmps.getD i Go.undef = v at h1
    cases h1 with
    | sl _ _ _ b off cap u h1 h2 h5 h3 h4 => exact .sl z n f' b off cap u h1 (fun i hi => by rw [← hf i hi]; exact h2 i hi) (fun i hi => by rw [← hf i hi]; exact h5 i hi) (fun i hi => by rw [← hf i hi]; exact h3 i hi) h4
    | sl0 => exact .sl0 _ _
    | slE => exact .slE _ _ _ _
  · simp only [St.set, upd_ne _ _ _ _ e]; exact hs.slot i hi
theorem nilL_refl : ∀ l : List D, NilL l l
  | [] => trivial
  | _ :: l => ⟨.inl rfl, nilL_refl l⟩
end
section
variable {X : Ctx} {Q : Exit → St → Prop} {S S0 : St} {ops : Array Oper} {o : Oper} {rest : List Oper} {E : List Ent} {V : List Vl}
theorem G_tS {j t : Nat} {b : Bool} {m : Int} (hg : o.guard = some (j, b)) (hj : (ops[j]?).bind (·.dst) = some t) (hc : S.ev X (.tmp t) = .bool (m == m)) (ht : WG X Q ops S0 E V (o :: rest) (S.set t (.bool true))) : WG X Q ops S0 E V (o :: rest) S :=
  WG_tell hg hj hc (fun _ => ht) (fun h => by simp at h)
end
end Go.Ab


/- The data of the convoys, as plain Lean; how they stand in memory. -/
namespace Go.Proofs.YtafnhieaeejlcaaDoor
open Go Go.Ab
structure Hold where
  a : Int
  u : Int
  deriving DecidableEq
instance : Inhabited Hold := ⟨⟨0, 0⟩⟩
structure Span where
  lo : Int
  hi : Int
  deriving DecidableEq
instance : Inhabited Span := ⟨⟨0, 0⟩⟩
structure Truck where
  way : Int
  start : Int
  lo : Int
  hi : Int
  holds : List Hold
  deriving DecidableEq
instance : Inhabited Truck := ⟨⟨0, 0, 0, 0, []⟩⟩
structure Convoy where
  len : Int
  gap : Int
  fails : Int
  trucks : List Truck
  deriving DecidableEq
instance : Inhabited Convoy := ⟨⟨0, 0, 0, []⟩⟩
def encHold (h : Hold) : List D := [.int .i64 h.a, .int .i64 h.u]
def encSpan (h : Span) : List D := [.int .i64 h.lo, .int .i64 h.hi]
def encTruck (t : Truck) : List D := [.int .i64 t.way, .int .i64 t.start, .int .i64 t.lo, .int .i64 t.hi, slOf 2 encHold t.holds]
def encConvoy (c : Convoy) : List D := [.int .i64 c.len, .int .i64 c.gap, .int .i64 c.fails, slOf 5 encTruck c.trucks]
theorem pure_hold (h : Hold) : PureL (encHold h) := PureL.cons (.int _ _) (PureL.cons (.int _ _) PureL.nil)
theorem pure_span (h : Span) : PureL (encSpan h) := PureL.cons (.int _ _) (PureL.cons (.int _ _) PureL.nil)
theorem pure_truck (t : Truck) : PureL (encTruck t) := PureL.cons (.int _ _) (PureL.cons (.int _ _) (PureL.cons (.int _ _) (PureL.cons (.int _ _) (PureL.cons (pure_slOf pure_hold) PureL.nil))))
theorem pure_convoy (c : Convoy) : PureL (encConvoy c) := PureL.cons (.int _ _) (PureL.cons (.int _ _) (PureL.cons (.int _ _) (PureL.cons (pure_slOf pure_truck) PureL.nil)))
/-- A ride: a truck and the road's length. -/
def encRide (t : Truck) (len : Int) : List D := encTruck t ++ [.int .i64 len]
theorem pure_ride (t : Truck) (len : Int) : PureL (encRide t len) := fun d hd => by
  rcases List.mem_append.1 hd with h | h
  · exact pure_truck t d h
  · simp at h; subst h; exact .int _ _
end Go.Proofs.YtafnhieaeejlcaaDoor


namespace Go.Proofs.YtafnhieaeejlcaaDoor
open Go Go.Ab
set_option maxRecDepth 100000
set_option maxHeartbeats 4000000
attribute [local irreducible] W WL QOp NOp thenQ blockQ FinQ WG FQ Want FinW WI WIL thenI blockI
theorem c64 (a b c : Int) : Contract seat 64 [.int .i64 a, .int .i64 b, .int .i64 c] (.bool (decide (b ≤ a ∧ a ≤ c))) := by
  refine contract_intro (fn := Tryd.f64) Tryd.func64 rfl (by kernel_rfl) rfl ?_ ?_ ?_
  · repeat' first | exact PureL.nil | refine PureL.cons (.int _ _) ?_
  · exact .bool _
  intro w κ
  repeat' (first
    | (apply WL_q; apply Eq.refl; apply Eq.refl; (first | (apply q_mvI <;> apply Eq.refl) | (apply q_cmp <;> apply Eq.refl) | (apply q_mvB <;> apply Eq.refl) | (apply q_asB <;> apply Eq.refl) | (apply q_pkT <;> apply Eq.refl) | (apply q_pkF <;> apply Eq.refl)))
    | apply W_seq
    | apply W_region
    | apply T_normal
    | apply WL_nil
    | apply W_ret
    | (apply WL_yes; apply Eq.refl; apply Eq.refl; apply Eq.refl)
    | (apply WL_no; apply Eq.refl; apply Eq.refl; apply Eq.refl; apply Eq.refl; apply Eq.refl)
    | (apply L_tD; apply Eq.refl; apply Eq.refl; apply Eq.refl; intro _; rotate_left 1; intro _; rotate_left 1))
  all_goals (refine fin_B rfl rfl ?_; simp; try omega)

/-- How far along its way a metre is. -/
def alongI (way len m : Int) : Int := if way = 2 then len - m else m
theorem c107 (t : Truck) (len m : Int) (h0 : -2305843009213693952 ≤ m) (h1 : m ≤ 2305843009213693952) (h2 : -2305843009213693952 ≤ len) (h3 : len ≤ 2305843009213693952) :
    Contract seat 107 [.agg (encRide t len), .int .i64 m] (.int .i64 (alongI t.way len m)) := by
  refine contract_intro (fn := Tryd.f107) Tryd.func107 rfl (by kernel_rfl) rfl ?_ ?_ ?_
  · exact PureL.cons (.agg _ (pure_ride t len)) (PureL.cons (.int _ _) PureL.nil)
  · exact .int _ _
  intro w κ
  repeat' (first
    | (apply WL_q; apply Eq.refl; apply Eq.refl; (first | (apply q_mvI <;> apply Eq.refl) | (apply q_asI <;> apply Eq.refl) | (apply q_ldb <;> apply Eq.refl) | (apply q_fab <;> apply Eq.refl) | (apply q_cmp <;> apply Eq.refl) | (apply q_arith <;> (first | apply Eq.refl | omega))))
    | apply W_seq
    | apply W_region
    | apply T_normal
    | apply WL_nil
    | apply T_ret
    | apply W_skip
    | apply W_ret
    | (apply WL_n; apply Eq.refl; (first | (apply n_boxa <;> apply Eq.refl)))
    | (apply W_cD; apply Eq.refl; intro _; rotate_left 1; intro _; rotate_left 1))
  all_goals (refine fin_I rfl rfl ?_; simp_all [alongI])

def chkHolds (way len : Int) : Option Int → List Hold → Int
  | _, [] => 0
  | p, h :: hs => if ¬ (1 ≤ h.a ∧ h.a ≤ len - 1) ∨ ¬ (0 ≤ h.u ∧ h.u ≤ 10000) then 2 else
    match p with
    | some q => if alongI way len h.a ≤ q then 11 else chkHolds way len (some (alongI way len h.a)) hs
    | none => chkHolds way len (some (alongI way len h.a)) hs
def chkTruck (c : Convoy) (t : Truck) : Int :=
  if ¬ (1 ≤ t.way ∧ t.way ≤ 2) then 4
  else if ¬ (0 ≤ t.start ∧ t.start ≤ 10000) ∨ ¬ (1 ≤ t.lo ∧ t.lo ≤ 1000) ∨ ¬ (1 ≤ t.hi ∧ t.hi ≤ 1000) then 2
  else if t.lo > t.hi then 11
  else if c.len > 1000 * t.lo then 13
  else if c.gap < 2 * t.hi then 12
  else if t.holds.length > 8 then 8
  else chkHolds t.way c.len none t.holds

theorem chkHolds_cons (way len : Int) (p : Option Int) (h : Hold) (hs : List Hold) : chkHolds way len p (h :: hs) = if ¬ (1 ≤ h.a ∧ h.a ≤ len - 1) ∨ ¬ (0 ≤ h.u ∧ h.u ≤ 10000) then 2 else
    match p with
    | some q => if alongI way len h.a ≤ q then 11 else chkHolds way len (some (alongI way len h.a)) hs
    | none => chkHolds way len (some (alongI way len h.a)) hs := by cases p <;> rfl
theorem drop_getD {α : Type} [Inhabited α] (l : List α) (k : Nat) (h : k < l.length) : l.drop k = l.getD k default :: l.drop (k + 1) := by
  rw [List.drop_eq_getElem_cons h]; simp [List.getD, h]
def chkPrev (way len : Int) (hs : List Hold) (k : Nat) : Option Int := if k = 0 then none else some (alongI way len (hs.getD (k - 1) default).a)
def chkInv (way len : Int) (hs : List Hold) (k : Nat) : Prop := k ≤ hs.length ∧ chkHolds way len (chkPrev way len hs k) (hs.drop k) = chkHolds way len none hs ∧
  (0 < k → 1 ≤ (hs.getD (k - 1) default).a ∧ (hs.getD (k - 1) default).a ≤ len - 1)
theorem chkInv_zero (way len : Int) (hs : List Hold) : chkInv way len hs 0 := ⟨Nat.zero_le _, by simp [chkPrev], fun h => by omega⟩
section
variable {way len : Int} {hs : List Hold} {k : Nat}
theorem chk_end (hi : chkInv way len hs k) (h : ¬ k < hs.length) : 0 = chkHolds way len none hs := by
  obtain ⟨h1, h2, _⟩ := hi
  rw [List.drop_eq_nil_of_le (by omega)] at h2
  simpa [chkHolds] using h2
theorem chk_2 (hi : chkInv way len hs k) (h : k < hs.length) (hb : ¬ (1 ≤ (hs.getD k default).a ∧ (hs.getD k default).a ≤ len - 1) ∨ ¬ (0 ≤ (hs.getD k default).u ∧ (hs.getD k default).u ≤ 10000)) : 2 = chkHolds way len none hs := by
  obtain ⟨h1, h2, _⟩ := hi
  rw [drop_getD _ _ h] at h2
  rw [chkHolds_cons] at h2
  rw [if_pos hb] at h2
  exact h2
theorem chk_11 (hi : chkInv way len hs k) (h : k < hs.length) (ha : 1 ≤ (hs.getD k default).a ∧ (hs.getD k default).a ≤ len - 1) (hu : 0 ≤ (hs.getD k default).u ∧ (hs.getD k default).u ≤ 10000) (h0 : 0 < k)
    (hle : alongI way len (hs.getD k default).a ≤ alongI way len (hs.getD (k - 1) default).a) : 11 = chkHolds way len none hs := by
  obtain ⟨h1, h2, _⟩ := hi
  rw [drop_getD _ _ h] at h2
  rw [chkHolds_cons] at h2
  rw [if_neg (by simp only [not_or, Classical.not_not]; exact ⟨ha, hu⟩)] at h2
  simp only [chkPrev, if_neg (show ¬ k = 0 by omega)] at h2
  rw [if_pos hle] at h2
  exact h2
theorem chk_next (hi : chkInv way len hs k) (h : k < hs.length) (ha : 1 ≤ (hs.getD k default).a ∧ (hs.getD k default).a ≤ len - 1) (hu : 0 ≤ (hs.getD k default).u ∧ (hs.getD k default).u ≤ 10000)
    (hle : 0 < k → ¬ alongI way len (hs.getD k default).a ≤ alongI way len (hs.getD (k - 1) default).a) : chkInv way len hs (k + 1) := by
  obtain ⟨h1, h2, _⟩ := hi
  rw [drop_getD _ _ h] at h2
  rw [chkHolds_cons] at h2
  rw [if_neg (by simp only [not_or, Classical.not_not]; exact ⟨ha, hu⟩)] at h2
  refine ⟨h, ?_, fun _ => by simpa using ha⟩
  rw [← h2]
  by_cases e : k = 0
  · subst e; simp [chkPrev]
  · simp only [chkPrev, if_neg e, if_neg (hle (by omega))]; simp
end
theorem c65 (c : Convoy) (t : Truck) (hl : 1 ≤ c.len) (hl2 : c.len ≤ 100000) : Contract seat 65 [.agg (encConvoy c), .agg (encTruck t)] (.int .i64 (chkTruck c t)) := by
  refine contract_intro (fn := Tryd.f65) Tryd.func65 rfl (by kernel_rfl) rfl ?_ ?_ ?_
  · exact PureL.cons (.agg _ (pure_convoy c)) (PureL.cons (.agg _ (pure_truck t)) PureL.nil)
  · exact .int _ _
  intro w κ
  repeat' (first
    | (apply WL_q; apply Eq.refl; apply Eq.refl; (first | (apply q_mvI <;> apply Eq.refl) | (apply q_asI <;> apply Eq.refl) | (apply q_ldb <;> apply Eq.refl) | (apply q_fab <;> apply Eq.refl) | (apply q_cmp <;> apply Eq.refl) | (apply q_mvB <;> apply Eq.refl) | (apply q_asB <;> apply Eq.refl) | (apply q_not <;> apply Eq.refl) | (apply q_ldr <;> apply Eq.refl) | (apply q_far <;> apply Eq.refl) | (apply q_arith <;> (first | apply Eq.refl | omega)) | (apply q_len <;> apply Eq.refl) | (apply q_pkT <;> apply Eq.refl) | (apply q_pkF <;> apply Eq.refl) | (apply q_ia <;> (first | apply Eq.refl | omega)) | (apply q_ldba <;> apply Eq.refl) | (apply q_ldra <;> apply Eq.refl) | (apply q_bld <;> apply Eq.refl)))
    | apply W_seq
    | apply W_region
    | apply T_normal
    | apply WL_nil
    | apply T_exit
    | apply T_ret
    | apply B_normal
    | apply B_ret
    | apply B_exit_eq
    | apply W_skip
    | apply W_exit
    | apply W_ret
    | apply W_block
    | (apply W_condT; apply Eq.refl)
    | (apply W_condF; apply Eq.refl)
    | (apply WL_call; apply Eq.refl; apply Eq.refl; rotate_left 1; apply Eq.refl; rotate_right 1; exact (c64 _ _ _); apply Eq.refl)
    | (apply WL_n; apply Eq.refl; (first | (apply n_boxa <;> apply Eq.refl) | (apply n_alloc <;> apply Eq.refl) | (apply n_stb <;> apply Eq.refl)))
    | (apply WL_yes; apply Eq.refl; apply Eq.refl; apply Eq.refl)
    | (apply WL_no; apply Eq.refl; apply Eq.refl; apply Eq.refl; apply Eq.refl; apply Eq.refl)
    | (apply L_tND; apply Eq.refl; apply Eq.refl; apply Eq.refl; intro _; rotate_left 1; intro _; rotate_left 1)
    | apply W_regionG
    | (apply WG_nil; kernel_rfl)
    | (apply WG_q; (first | (apply want_none; apply Eq.refl) | (apply want_some; apply Eq.refl; apply Eq.refl; apply Eq.refl)); apply Eq.refl; first | (apply fq_bld <;> apply Eq.refl) | (apply fq_blda <;> apply Eq.refl) | (apply fq_fn; apply Eq.refl) | (apply fq_mf; apply Eq.refl) | (apply FQ_intro; intro _; (first | (apply q_mvI <;> apply Eq.refl) | (apply q_asI <;> apply Eq.refl) | (apply q_ldb <;> apply Eq.refl) | (apply q_fab <;> apply Eq.refl) | (apply q_cmp <;> apply Eq.refl) | (apply q_mvB <;> apply Eq.refl) | (apply q_asB <;> apply Eq.refl) | (apply q_not <;> apply Eq.refl) | (apply q_ldr <;> apply Eq.refl) | (apply q_far <;> apply Eq.refl) | (apply q_arith <;> (first | apply Eq.refl | omega)) | (apply q_len <;> apply Eq.refl) | (apply q_pkT <;> apply Eq.refl) | (apply q_pkF <;> apply Eq.refl) | (apply q_ia <;> (first | apply Eq.refl | omega)) | (apply q_ldba <;> apply Eq.refl) | (apply q_ldra <;> apply Eq.refl) | (apply q_bld <;> apply Eq.refl))))
    | (apply WG_call; (first | (apply want_none; apply Eq.refl) | (apply want_some; apply Eq.refl; apply Eq.refl; apply Eq.refl)); apply Eq.refl; apply Eq.refl; apply Eq.refl; exact (c64 _ _ _))
    | (apply WG_no; apply Eq.refl; apply Eq.refl; apply Eq.refl; apply Eq.refl; apply Eq.refl)
    | (apply G_tD; apply Eq.refl; apply Eq.refl; apply Eq.refl; intro _; rotate_left 1; intro _; rotate_left 1)
    | (apply W_cD; apply Eq.refl; intro _; rotate_left 1; intro _; rotate_left 1)
    | (apply W_cND; apply Eq.refl; intro _; rotate_left 1; intro _; rotate_left 1))
  all_goals try (refine fin_I rfl rfl ?_; simp [chkTruck]; omega)
  rename_i h1 h2 h3 h4 h5 h6 h7 h8
  have hspec : chkTruck c t = chkHolds t.way c.len none t.holds := by simp [chkTruck]; omega
  rw [hspec]
  clear hspec
  refine W_loopM (α := Nat) (fun k => [(2, .bx 2 1 0), (3, .bx 3 1 0), (5, .bx 5 1 0), (66, slOf 2 encHold t.holds), (67, .int .i64 t.holds.length), (68, .int .i64 k)]) (fun _ => [(2, 1), (3, 1), (5, 1)])
    (fun _ => [(2, .box (encConvoy c)), (3, .box (encTruck t)), (5, .box (encRide t c.len))]) (chkInv t.way c.len t.holds) (fun k => t.holds.length - k) 0 (chkInv_zero _ _ _) (by refine ⟨?_, ?_, ?_⟩ <;> repeat' (first | exact trivial | apply And.intro | apply Eq.refl)) (fun k h hi => ?_)
  have hk := hi.1
  have hp := hi.2.2
  have e1 : 0 < k → ((k : Int) - 1).toNat = k - 1 := fun h => by omega
  have hp' : 0 < k → 1 ≤ (t.holds.getD ((k : Int) - 1).toNat default).a ∧ (t.holds.getD ((k : Int) - 1).toNat default).a ≤ c.len - 1 := fun h => by rw [e1 h]; exact hp h
  repeat' (first
    | (apply WL_q; apply Eq.refl; apply Eq.refl; (first | (apply q_mvI <;> apply Eq.refl) | (apply q_asI <;> apply Eq.refl) | (apply q_ldb <;> apply Eq.refl) | (apply q_fab <;> apply Eq.refl) | (apply q_cmp <;> apply Eq.refl) | (apply q_mvB <;> apply Eq.refl) | (apply q_asB <;> apply Eq.refl) | (apply q_not <;> apply Eq.refl) | (apply q_ldr <;> apply Eq.refl) | (apply q_far <;> apply Eq.refl) | (apply q_arith <;> (first | apply Eq.refl | omega)) | (apply q_len <;> apply Eq.refl) | (apply q_pkT <;> apply Eq.refl) | (apply q_pkF <;> apply Eq.refl) | (apply q_ia <;> (first | apply Eq.refl | omega)) | (apply q_ldba <;> apply Eq.refl) | (apply q_ldra <;> apply Eq.refl) | (apply q_bld <;> apply Eq.refl)))
    | apply W_seq
    | apply W_region
    | apply T_normal
    | apply WL_nil
    | apply T_exit
    | apply T_ret
    | apply B_normal
    | apply B_ret
    | apply B_exit_eq
    | apply W_skip
    | apply W_exit
    | apply W_ret
    | apply W_block
    | (apply W_condT; apply Eq.refl)
    | (apply W_condF; apply Eq.refl)
    | (apply WL_call; apply Eq.refl; apply Eq.refl; rotate_left 1; apply Eq.refl; rotate_right 1; exact (c64 _ _ _); apply Eq.refl)
    | (apply WL_call; apply Eq.refl; apply Eq.refl; rotate_left 1; apply Eq.refl; rotate_right 1; exact (c107 _ _ _ (by omega) (by omega) (by omega) (by omega)); apply Eq.refl)
    | (apply WL_n; apply Eq.refl; (first | (apply n_boxa <;> apply Eq.refl) | (apply n_alloc <;> apply Eq.refl) | (apply n_stb <;> apply Eq.refl)))
    | (apply WL_yes; apply Eq.refl; apply Eq.refl; apply Eq.refl)
    | (apply WL_no; apply Eq.refl; apply Eq.refl; apply Eq.refl; apply Eq.refl; apply Eq.refl)
    | (apply L_tND; apply Eq.refl; apply Eq.refl; apply Eq.refl; intro _; rotate_left 1; intro _; rotate_left 1)
    | apply W_regionG
    | (apply WG_nil; kernel_rfl)
    | (apply WG_q; (first | (apply want_none; apply Eq.refl) | (apply want_some; apply Eq.refl; apply Eq.refl; apply Eq.refl)); apply Eq.refl; first | (apply fq_bld <;> apply Eq.refl) | (apply fq_blda <;> apply Eq.refl) | (apply fq_fn; apply Eq.refl) | (apply fq_mf; apply Eq.refl) | (apply FQ_intro; intro _; (first | (apply q_mvI <;> apply Eq.refl) | (apply q_asI <;> apply Eq.refl) | (apply q_ldb <;> apply Eq.refl) | (apply q_fab <;> apply Eq.refl) | (apply q_cmp <;> apply Eq.refl) | (apply q_mvB <;> apply Eq.refl) | (apply q_asB <;> apply Eq.refl) | (apply q_not <;> apply Eq.refl) | (apply q_ldr <;> apply Eq.refl) | (apply q_far <;> apply Eq.refl) | (apply q_arith <;> (first | apply Eq.refl | omega)) | (apply q_len <;> apply Eq.refl) | (apply q_pkT <;> apply Eq.refl) | (apply q_pkF <;> apply Eq.refl) | (apply q_ia <;> (first | apply Eq.refl | omega)) | (apply q_ldba <;> apply Eq.refl) | (apply q_ldra <;> apply Eq.refl) | (apply q_bld <;> apply Eq.refl))))
    | (apply WG_call; (first | (apply want_none; apply Eq.refl) | (apply want_some; apply Eq.refl; apply Eq.refl; apply Eq.refl)); apply Eq.refl; apply Eq.refl; apply Eq.refl; exact (c64 _ _ _))
    | (apply WG_call; (first | (apply want_none; apply Eq.refl) | (apply want_some; apply Eq.refl; apply Eq.refl; apply Eq.refl)); apply Eq.refl; apply Eq.refl; apply Eq.refl; exact (c107 _ _ _ (by omega) (by omega) (by omega) (by omega)))
    | (apply WG_no; apply Eq.refl; apply Eq.refl; apply Eq.refl; apply Eq.refl; apply Eq.refl)
    | (apply G_tD; apply Eq.refl; apply Eq.refl; apply Eq.refl; intro _; rotate_left 1; intro _; rotate_left 1)
    | (apply W_cD; apply Eq.refl; intro _; rotate_left 1; intro _; rotate_left 1)
    | (apply W_cND; apply Eq.refl; intro _; rotate_left 1; intro _; rotate_left 1))
  all_goals try simp only [Int.toNat_natCast] at *
  all_goals first
    | (refine fin_I rfl rfl (chk_2 hi (by omega) (by first | (left; assumption) | (right; assumption))); done)
    | (refine fin_I rfl rfl (chk_11 hi (by omega) (by assumption) (by assumption) (by omega) (by rw [← e1 (by omega)]; assumption)); done)
    | (refine fin_I rfl rfl (chk_end hi (by omega)); done)
    | (refine ⟨k + 1, chk_next hi (by omega) (by assumption) (by assumption) (fun h => by first | (rw [← e1 h]; assumption) | omega), by omega, (by refine ⟨?_, ?_, ?_⟩ <;> repeat' (first | exact trivial | apply And.intro | apply Eq.refl))⟩; done)
end Go.Proofs.YtafnhieaeejlcaaDoor



namespace Go.Proofs.YtafnhieaeejlcaaDoor
open Go Go.Ab
set_option maxRecDepth 100000
set_option maxHeartbeats 4000000
attribute [local irreducible] W WL QOp NOp thenQ blockQ FinQ WG FQ Want FinW WI WIL thenI blockI
theorem c66 (a b c : Int) : Contract seat 66 [.int .i64 a, .int .i64 b, .int .i64 c] (.bool (decide (b ≤ a ∧ a ≤ c))) := by
  refine contract_intro (fn := Tryd.f66) Tryd.func66 rfl (by kernel_rfl) rfl ?_ ?_ ?_
  · repeat' first | exact PureL.nil | refine PureL.cons (.int _ _) ?_
  · exact .bool _
  intro w κ
  repeat' (first
    | (apply WL_q; apply Eq.refl; apply Eq.refl; (first | (apply q_mvI <;> apply Eq.refl) | (apply q_cmp <;> apply Eq.refl) | (apply q_mvB <;> apply Eq.refl) | (apply q_asB <;> apply Eq.refl) | (apply q_pkT <;> apply Eq.refl) | (apply q_pkF <;> apply Eq.refl)))
    | apply W_seq
    | apply W_region
    | apply T_normal
    | apply WL_nil
    | apply W_ret
    | (apply WL_yes; apply Eq.refl; apply Eq.refl; apply Eq.refl)
    | (apply WL_no; apply Eq.refl; apply Eq.refl; apply Eq.refl; apply Eq.refl; apply Eq.refl)
    | (apply L_tD; apply Eq.refl; apply Eq.refl; apply Eq.refl; intro _; rotate_left 1; intro _; rotate_left 1))
  all_goals (refine fin_B rfl rfl ?_; simp; try omega)

theorem c108 (c : Convoy) (t : Truck) (h : Hold) (h0 : -2305843009213693952 ≤ h.a) (h1 : h.a ≤ 2305843009213693952) (h2 : -2305843009213693952 ≤ c.len) (h3 : c.len ≤ 2305843009213693952) :
    Contract seat 108 [.agg (encConvoy c), .agg (encTruck t), .agg (encHold h)] (.int .i64 (alongI t.way c.len h.a)) := by
  refine contract_intro (fn := Tryd.f108) Tryd.func108 rfl (by kernel_rfl) rfl ?_ ?_ ?_
  · exact PureL.cons (.agg _ (pure_convoy c)) (PureL.cons (.agg _ (pure_truck t)) (PureL.cons (.agg _ (pure_hold h)) PureL.nil))
  · exact .int _ _
  intro w κ
  repeat' (first
    | (apply WL_q; apply Eq.refl; apply Eq.refl; (first | (apply q_asI <;> apply Eq.refl) | (apply q_ldb <;> apply Eq.refl) | (apply q_fab <;> apply Eq.refl) | (apply q_cmp <;> apply Eq.refl) | (apply q_arith <;> (first | apply Eq.refl | omega))))
    | apply W_seq
    | apply W_region
    | apply T_normal
    | apply WL_nil
    | apply T_ret
    | apply W_skip
    | apply W_ret
    | (apply WL_n; apply Eq.refl; (first | (apply n_boxa <;> apply Eq.refl)))
    | (apply W_cD; apply Eq.refl; intro _; rotate_left 1; intro _; rotate_left 1))
  all_goals (refine fin_I rfl rfl ?_; simp_all [alongI])

theorem c67 (c : Convoy) (t : Truck) (hl : 1 ≤ c.len) (hl2 : c.len ≤ 100000) : Contract seat 67 [.agg (encConvoy c), .agg (encTruck t)] (.int .i64 (chkTruck c t)) := by
  refine contract_intro (fn := Tryd.f67) Tryd.func67 rfl (by kernel_rfl) rfl ?_ ?_ ?_
  · exact PureL.cons (.agg _ (pure_convoy c)) (PureL.cons (.agg _ (pure_truck t)) PureL.nil)
  · exact .int _ _
  intro w κ
  repeat' (first
    | (apply WL_q; apply Eq.refl; apply Eq.refl; (first | (apply q_mvI <;> apply Eq.refl) | (apply q_asI <;> apply Eq.refl) | (apply q_ldb <;> apply Eq.refl) | (apply q_fab <;> apply Eq.refl) | (apply q_cmp <;> apply Eq.refl) | (apply q_mvB <;> apply Eq.refl) | (apply q_asB <;> apply Eq.refl) | (apply q_not <;> apply Eq.refl) | (apply q_arith <;> (first | apply Eq.refl | omega)) | (apply q_len <;> apply Eq.refl) | (apply q_pkT <;> apply Eq.refl) | (apply q_pkF <;> apply Eq.refl) | (apply q_ia <;> (first | apply Eq.refl | omega)) | (apply q_ldba <;> apply Eq.refl) | (apply q_ldra <;> apply Eq.refl)))
    | apply W_seq
    | apply W_region
    | apply T_normal
    | apply WL_nil
    | apply T_exit
    | apply T_ret
    | apply B_normal
    | apply B_ret
    | apply B_exit_eq
    | apply W_skip
    | apply W_exit
    | apply W_ret
    | apply W_block
    | (apply W_condT; apply Eq.refl)
    | (apply W_condF; apply Eq.refl)
    | (apply WL_call; apply Eq.refl; apply Eq.refl; rotate_left 1; apply Eq.refl; rotate_right 1; exact (c66 _ _ _); apply Eq.refl)
    | (apply WL_n; apply Eq.refl; (first | (apply n_boxa <;> apply Eq.refl) | (apply n_alloc <;> apply Eq.refl) | (apply n_stb <;> apply Eq.refl)))
    | (apply WL_yes; apply Eq.refl; apply Eq.refl; apply Eq.refl)
    | (apply WL_no; apply Eq.refl; apply Eq.refl; apply Eq.refl; apply Eq.refl; apply Eq.refl)
    | (apply L_tND; apply Eq.refl; apply Eq.refl; apply Eq.refl; intro _; rotate_left 1; intro _; rotate_left 1)
    | apply W_regionG
    | (apply WG_nil; kernel_rfl)
    | (apply WG_q; (first | (apply want_none; apply Eq.refl) | (apply want_some; apply Eq.refl; apply Eq.refl; apply Eq.refl)); apply Eq.refl; first | (apply fq_bld <;> apply Eq.refl) | (apply fq_blda <;> apply Eq.refl) | (apply fq_fn; apply Eq.refl) | (apply fq_mf; apply Eq.refl) | (apply FQ_intro; intro _; (first | (apply q_mvI <;> apply Eq.refl) | (apply q_asI <;> apply Eq.refl) | (apply q_ldb <;> apply Eq.refl) | (apply q_fab <;> apply Eq.refl) | (apply q_cmp <;> apply Eq.refl) | (apply q_mvB <;> apply Eq.refl) | (apply q_asB <;> apply Eq.refl) | (apply q_not <;> apply Eq.refl) | (apply q_arith <;> (first | apply Eq.refl | omega)) | (apply q_len <;> apply Eq.refl) | (apply q_pkT <;> apply Eq.refl) | (apply q_pkF <;> apply Eq.refl) | (apply q_ia <;> (first | apply Eq.refl | omega)) | (apply q_ldba <;> apply Eq.refl) | (apply q_ldra <;> apply Eq.refl))))
    | (apply WG_call; (first | (apply want_none; apply Eq.refl) | (apply want_some; apply Eq.refl; apply Eq.refl; apply Eq.refl)); apply Eq.refl; apply Eq.refl; apply Eq.refl; exact (c66 _ _ _))
    | (apply WG_no; apply Eq.refl; apply Eq.refl; apply Eq.refl; apply Eq.refl; apply Eq.refl)
    | (apply G_tD; apply Eq.refl; apply Eq.refl; apply Eq.refl; intro _; rotate_left 1; intro _; rotate_left 1)
    | (apply W_cD; apply Eq.refl; intro _; rotate_left 1; intro _; rotate_left 1)
    | (apply W_cND; apply Eq.refl; intro _; rotate_left 1; intro _; rotate_left 1))
  all_goals try (refine fin_I rfl rfl ?_; simp [chkTruck]; omega)
  all_goals
    have hspec : chkTruck c t = chkHolds t.way c.len none t.holds := by simp [chkTruck]; omega
    rw [hspec]
    clear hspec
    refine W_loopM (α := Nat) (fun k => [(2, .bx 2 1 0), (3, .bx 3 1 0), (5, .int .i64 k)]) (fun _ => [(2, 1), (3, 1)])
      (fun _ => [(2, .box (encConvoy c)), (3, .box (encTruck t))]) (chkInv t.way c.len t.holds) (fun k => t.holds.length - k) 0 (chkInv_zero _ _ _) (by refine ⟨?_, ?_, ?_⟩ <;> repeat' (first | exact trivial | apply And.intro | apply Eq.refl)) (fun k h hi => ?_)
    have hk := hi.1
    have hp := hi.2.2
    have e1 : 0 < k → ((k : Int) - 1).toNat = k - 1 := fun h => by omega
    have hp' : 0 < k → 1 ≤ (t.holds.getD ((k : Int) - 1).toNat default).a ∧ (t.holds.getD ((k : Int) - 1).toNat default).a ≤ c.len - 1 := fun h => by rw [e1 h]; exact hp h
    repeat' (first
    | (apply WL_q; apply Eq.refl; apply Eq.refl; (first | (apply q_mvI <;> apply Eq.refl) | (apply q_asI <;> apply Eq.refl) | (apply q_ldb <;> apply Eq.refl) | (apply q_fab <;> apply Eq.refl) | (apply q_cmp <;> apply Eq.refl) | (apply q_mvB <;> apply Eq.refl) | (apply q_asB <;> apply Eq.refl) | (apply q_not <;> apply Eq.refl) | (apply q_arith <;> (first | apply Eq.refl | omega)) | (apply q_len <;> apply Eq.refl) | (apply q_pkT <;> apply Eq.refl) | (apply q_pkF <;> apply Eq.refl) | (apply q_ia <;> (first | apply Eq.refl | omega)) | (apply q_ldba <;> apply Eq.refl) | (apply q_ldra <;> apply Eq.refl)))
    | apply W_seq
    | apply W_region
    | apply T_normal
    | apply WL_nil
    | apply T_exit
    | apply T_ret
    | apply B_normal
    | apply B_ret
    | apply B_exit_eq
    | apply W_skip
    | apply W_exit
    | apply W_ret
    | apply W_block
    | (apply W_condT; apply Eq.refl)
    | (apply W_condF; apply Eq.refl)
    | (apply WL_call; apply Eq.refl; apply Eq.refl; rotate_left 1; apply Eq.refl; rotate_right 1; exact (c66 _ _ _); apply Eq.refl)
    | (apply WL_call; apply Eq.refl; apply Eq.refl; rotate_left 1; apply Eq.refl; rotate_right 1; exact (c108 c t (t.holds.getD (k : Int).toNat default) (by omega) (by omega) (by omega) (by omega)); apply Eq.refl)
    | (apply WL_call; apply Eq.refl; apply Eq.refl; rotate_left 1; apply Eq.refl; rotate_right 1; exact (c108 c t (t.holds.getD ((k : Int) - 1).toNat default) (by omega) (by omega) (by omega) (by omega)); apply Eq.refl)
    | (apply WL_n; apply Eq.refl; (first | (apply n_boxa <;> apply Eq.refl) | (apply n_alloc <;> apply Eq.refl) | (apply n_stb <;> apply Eq.refl)))
    | (apply WL_yes; apply Eq.refl; apply Eq.refl; apply Eq.refl)
    | (apply WL_no; apply Eq.refl; apply Eq.refl; apply Eq.refl; apply Eq.refl; apply Eq.refl)
    | (apply L_tND; apply Eq.refl; apply Eq.refl; apply Eq.refl; intro _; rotate_left 1; intro _; rotate_left 1)
    | apply W_regionG
    | (apply WG_nil; kernel_rfl)
    | (apply WG_q; (first | (apply want_none; apply Eq.refl) | (apply want_some; apply Eq.refl; apply Eq.refl; apply Eq.refl)); apply Eq.refl; first | (apply fq_bld <;> apply Eq.refl) | (apply fq_blda <;> apply Eq.refl) | (apply fq_fn; apply Eq.refl) | (apply fq_mf; apply Eq.refl) | (apply FQ_intro; intro _; (first | (apply q_mvI <;> apply Eq.refl) | (apply q_asI <;> apply Eq.refl) | (apply q_ldb <;> apply Eq.refl) | (apply q_fab <;> apply Eq.refl) | (apply q_cmp <;> apply Eq.refl) | (apply q_mvB <;> apply Eq.refl) | (apply q_asB <;> apply Eq.refl) | (apply q_not <;> apply Eq.refl) | (apply q_arith <;> (first | apply Eq.refl | omega)) | (apply q_len <;> apply Eq.refl) | (apply q_pkT <;> apply Eq.refl) | (apply q_pkF <;> apply Eq.refl) | (apply q_ia <;> (first | apply Eq.refl | omega)) | (apply q_ldba <;> apply Eq.refl) | (apply q_ldra <;> apply Eq.refl))))
    | (apply WG_call; (first | (apply want_none; apply Eq.refl) | (apply want_some; apply Eq.refl; apply Eq.refl; apply Eq.refl)); apply Eq.refl; apply Eq.refl; apply Eq.refl; exact (c66 _ _ _))
    | (apply WG_call; (first | (apply want_none; apply Eq.refl) | (apply want_some; apply Eq.refl; apply Eq.refl; apply Eq.refl)); apply Eq.refl; apply Eq.refl; apply Eq.refl; exact (c108 c t (t.holds.getD (k : Int).toNat default) (by omega) (by omega) (by omega) (by omega)))
    | (apply WG_call; (first | (apply want_none; apply Eq.refl) | (apply want_some; apply Eq.refl; apply Eq.refl; apply Eq.refl)); apply Eq.refl; apply Eq.refl; apply Eq.refl; exact (c108 c t (t.holds.getD ((k : Int) - 1).toNat default) (by omega) (by omega) (by omega) (by omega)))
    | (apply WG_no; apply Eq.refl; apply Eq.refl; apply Eq.refl; apply Eq.refl; apply Eq.refl)
    | (apply G_tD; apply Eq.refl; apply Eq.refl; apply Eq.refl; intro _; rotate_left 1; intro _; rotate_left 1)
    | (apply W_cD; apply Eq.refl; intro _; rotate_left 1; intro _; rotate_left 1)
    | (apply W_cND; apply Eq.refl; intro _; rotate_left 1; intro _; rotate_left 1))
    all_goals try simp only [Int.toNat_natCast] at *
    all_goals first
      | (refine fin_I rfl rfl (chk_2 hi (by omega) (by first | (left; assumption) | (right; assumption))); done)
      | (refine fin_I rfl rfl (chk_11 hi (by omega) (by assumption) (by assumption) (by omega) (by rw [← e1 (by omega)]; assumption)); done)
      | (refine fin_I rfl rfl (chk_end hi (by omega)); done)
      | (refine ⟨k + 1, chk_next hi (by omega) (by assumption) (by assumption) (fun h => by first | (rw [← e1 h]; assumption) | omega), by omega, (by refine ⟨?_, ?_, ?_⟩ <;> repeat' (first | exact trivial | apply And.intro | apply Eq.refl))⟩; done)
      | skip

def chkTrucks (c : Convoy) : List Truck → Int
  | [] => 0
  | t :: ts => if chkTruck c t ≠ 0 then chkTruck c t else chkTrucks c ts
def chkConvoy (c : Convoy) : Int :=
  if ¬ (1 ≤ c.len ∧ c.len ≤ 100000) ∨ ¬ (1 ≤ c.gap ∧ c.gap ≤ 100000) ∨ ¬ (0 ≤ c.fails ∧ c.fails ≤ 20) then 2
  else if c.trucks.length > 20 then 8
  else chkTrucks c c.trucks
def ckInv (c : Convoy) (k : Nat) : Prop := k ≤ c.trucks.length ∧ chkTrucks c (c.trucks.drop k) = chkTrucks c c.trucks
theorem ck_end {c : Convoy} {k : Nat} (hi : ckInv c k) (h : ¬ k < c.trucks.length) : 0 = chkTrucks c c.trucks := by
  rw [← hi.2, List.drop_eq_nil_of_le (by omega)]; rfl
theorem ck_err {c : Convoy} {k : Nat} (hi : ckInv c k) (h : k < c.trucks.length) (he : chkTruck c (c.trucks.getD k default) ≠ 0) : chkTruck c (c.trucks.getD k default) = chkTrucks c c.trucks := by
  rw [← hi.2, drop_getD _ _ h, chkTrucks, if_pos he]
theorem ck_next {c : Convoy} {k : Nat} (hi : ckInv c k) (h : k < c.trucks.length) (he : chkTruck c (c.trucks.getD k default) = 0) : ckInv c (k + 1) :=
  ⟨h, by rw [← hi.2, drop_getD _ _ h, chkTrucks, if_neg (fun h => h he)]⟩

theorem c21 (c : Convoy) : Contract seat 21 [.agg (encConvoy c)] (.int .i64 (chkConvoy c)) := by
  refine contract_intro (fn := Tryd.f21) Tryd.func21 rfl (by kernel_rfl) rfl ?_ ?_ ?_
  · exact PureL.cons (.agg _ (pure_convoy c)) PureL.nil
  · exact .int _ _
  intro w κ
  repeat' (first
    | (apply WL_q; apply Eq.refl; apply Eq.refl; (first | (apply q_mvI <;> apply Eq.refl) | (apply q_asI <;> apply Eq.refl) | (apply q_ldb <;> apply Eq.refl) | (apply q_fab <;> apply Eq.refl) | (apply q_cmp <;> apply Eq.refl) | (apply q_mvB <;> apply Eq.refl) | (apply q_asB <;> apply Eq.refl) | (apply q_not <;> apply Eq.refl) | (apply q_arith <;> (first | apply Eq.refl | omega)) | (apply q_len <;> apply Eq.refl) | (apply q_pkT <;> apply Eq.refl) | (apply q_pkF <;> apply Eq.refl) | (apply q_ia <;> (first | apply Eq.refl | omega)) | (apply q_ldba <;> apply Eq.refl) | (apply q_ldra <;> apply Eq.refl)))
    | apply W_seq
    | apply W_region
    | apply T_normal
    | apply WL_nil
    | apply T_exit
    | apply T_ret
    | apply B_normal
    | apply B_ret
    | apply B_exit_eq
    | apply W_skip
    | apply W_exit
    | apply W_ret
    | apply W_block
    | (apply W_condT; apply Eq.refl)
    | (apply WL_call; apply Eq.refl; apply Eq.refl; rotate_left 1; apply Eq.refl; rotate_right 1; exact (c64 _ _ _); apply Eq.refl)
    | (apply WL_n; apply Eq.refl; (first | (apply n_boxa <;> apply Eq.refl) | (apply n_alloc <;> apply Eq.refl) | (apply n_stb <;> apply Eq.refl)))
    | (apply WL_yes; apply Eq.refl; apply Eq.refl; apply Eq.refl)
    | (apply WL_no; apply Eq.refl; apply Eq.refl; apply Eq.refl; apply Eq.refl; apply Eq.refl)
    | (apply L_tND; apply Eq.refl; apply Eq.refl; apply Eq.refl; intro _; rotate_left 1; intro _; rotate_left 1)
    | (apply W_cD; apply Eq.refl; intro _; rotate_left 1; intro _; rotate_left 1)
    | (apply W_cND; apply Eq.refl; intro _; rotate_left 1; intro _; rotate_left 1))
  all_goals try (refine fin_I rfl rfl ?_; simp [chkConvoy]; omega)
  all_goals
    have hspec : chkConvoy c = chkTrucks c c.trucks := by simp [chkConvoy]; omega
    rw [hspec]
    clear hspec
    refine W_loopM (α := Nat) (fun k => [(1, .bx 1 1 0), (29, slOf 5 encTruck c.trucks), (30, .int .i64 c.trucks.length), (31, .int .i64 k)]) (fun _ => [(1, 1)])
      (fun _ => [(1, .box (encConvoy c))]) (ckInv c) (fun k => c.trucks.length - k) 0 ⟨Nat.zero_le _, rfl⟩ (by refine ⟨?_, ?_, ?_⟩ <;> repeat' (first | exact trivial | apply And.intro | apply Eq.refl)) (fun k h hi => ?_)
    have hk := hi.1
    repeat' (first
    | (apply WL_q; apply Eq.refl; apply Eq.refl; (first | (apply q_mvI <;> apply Eq.refl) | (apply q_asI <;> apply Eq.refl) | (apply q_ldb <;> apply Eq.refl) | (apply q_fab <;> apply Eq.refl) | (apply q_cmp <;> apply Eq.refl) | (apply q_mvB <;> apply Eq.refl) | (apply q_asB <;> apply Eq.refl) | (apply q_not <;> apply Eq.refl) | (apply q_arith <;> (first | apply Eq.refl | omega)) | (apply q_len <;> apply Eq.refl) | (apply q_pkT <;> apply Eq.refl) | (apply q_pkF <;> apply Eq.refl) | (apply q_ia <;> (first | apply Eq.refl | omega)) | (apply q_ldba <;> apply Eq.refl) | (apply q_ldra <;> apply Eq.refl)))
    | apply W_seq
    | apply W_region
    | apply T_normal
    | apply WL_nil
    | apply T_exit
    | apply T_ret
    | apply B_normal
    | apply B_ret
    | apply B_exit_eq
    | apply W_skip
    | apply W_exit
    | apply W_ret
    | apply W_block
    | (apply W_condT; apply Eq.refl)
    | (apply WL_call; apply Eq.refl; apply Eq.refl; rotate_left 1; apply Eq.refl; rotate_right 1; exact (c65 c (c.trucks.getD k default) (by omega) (by omega)); apply Eq.refl)
    | (apply WL_n; apply Eq.refl; (first | (apply n_boxa <;> apply Eq.refl) | (apply n_alloc <;> apply Eq.refl) | (apply n_stb <;> apply Eq.refl)))
    | (apply WL_yes; apply Eq.refl; apply Eq.refl; apply Eq.refl)
    | (apply WL_no; apply Eq.refl; apply Eq.refl; apply Eq.refl; apply Eq.refl; apply Eq.refl)
    | (apply L_tND; apply Eq.refl; apply Eq.refl; apply Eq.refl; intro _; rotate_left 1; intro _; rotate_left 1)
    | (apply W_cD; apply Eq.refl; intro _; rotate_left 1; intro _; rotate_left 1)
    | (apply W_cND; apply Eq.refl; intro _; rotate_left 1; intro _; rotate_left 1))
    all_goals first
      | (refine fin_I rfl rfl (ck_err hi (by omega) (by assumption)); done)
      | (refine fin_I rfl rfl (ck_end hi (by omega)); done)
      | (refine ⟨k + 1, ck_next hi (by omega) (by assumption), by omega, (by refine ⟨?_, ?_, ?_⟩ <;> repeat' (first | exact trivial | apply And.intro | apply Eq.refl))⟩; done)
      | skip

theorem c22 (c : Convoy) : Contract seat 22 [.agg (encConvoy c)] (.int .i64 (chkConvoy c)) := by
  refine contract_intro (fn := Tryd.f22) Tryd.func22 rfl (by kernel_rfl) rfl ?_ ?_ ?_
  · exact PureL.cons (.agg _ (pure_convoy c)) PureL.nil
  · exact .int _ _
  intro w κ
  repeat' (first
    | (apply WL_q; apply Eq.refl; apply Eq.refl; (first | (apply q_mvI <;> apply Eq.refl) | (apply q_asI <;> apply Eq.refl) | (apply q_ldb <;> apply Eq.refl) | (apply q_fab <;> apply Eq.refl) | (apply q_cmp <;> apply Eq.refl) | (apply q_mvB <;> apply Eq.refl) | (apply q_not <;> apply Eq.refl) | (apply q_arith <;> (first | apply Eq.refl | omega)) | (apply q_len <;> apply Eq.refl) | (apply q_pkT <;> apply Eq.refl) | (apply q_pkF <;> apply Eq.refl) | (apply q_ia <;> (first | apply Eq.refl | omega)) | (apply q_ldba <;> apply Eq.refl) | (apply q_ldra <;> apply Eq.refl)))
    | apply W_seq
    | apply W_region
    | apply T_normal
    | apply WL_nil
    | apply T_exit
    | apply T_ret
    | apply B_normal
    | apply B_ret
    | apply B_exit_eq
    | apply W_skip
    | apply W_exit
    | apply W_ret
    | apply W_block
    | (apply W_condT; apply Eq.refl)
    | (apply WL_call; apply Eq.refl; apply Eq.refl; rotate_left 1; apply Eq.refl; rotate_right 1; exact (c66 _ _ _); apply Eq.refl)
    | (apply WL_n; apply Eq.refl; (first | (apply n_boxa <;> apply Eq.refl)))
    | (apply WL_yes; apply Eq.refl; apply Eq.refl; apply Eq.refl)
    | (apply WL_no; apply Eq.refl; apply Eq.refl; apply Eq.refl; apply Eq.refl; apply Eq.refl)
    | (apply L_tND; apply Eq.refl; apply Eq.refl; apply Eq.refl; intro _; rotate_left 1; intro _; rotate_left 1)
    | apply W_regionG
    | (apply WG_nil; kernel_rfl)
    | (apply WG_q; (first | (apply want_none; apply Eq.refl) | (apply want_some; apply Eq.refl; apply Eq.refl; apply Eq.refl)); apply Eq.refl; first | (apply fq_bld <;> apply Eq.refl) | (apply fq_blda <;> apply Eq.refl) | (apply fq_fn; apply Eq.refl) | (apply fq_mf; apply Eq.refl) | (apply FQ_intro; intro _; (first | (apply q_mvI <;> apply Eq.refl) | (apply q_asI <;> apply Eq.refl) | (apply q_ldb <;> apply Eq.refl) | (apply q_fab <;> apply Eq.refl) | (apply q_cmp <;> apply Eq.refl) | (apply q_mvB <;> apply Eq.refl) | (apply q_not <;> apply Eq.refl) | (apply q_arith <;> (first | apply Eq.refl | omega)) | (apply q_len <;> apply Eq.refl) | (apply q_pkT <;> apply Eq.refl) | (apply q_pkF <;> apply Eq.refl) | (apply q_ia <;> (first | apply Eq.refl | omega)) | (apply q_ldba <;> apply Eq.refl) | (apply q_ldra <;> apply Eq.refl))))
    | (apply WG_call; (first | (apply want_none; apply Eq.refl) | (apply want_some; apply Eq.refl; apply Eq.refl; apply Eq.refl)); apply Eq.refl; apply Eq.refl; apply Eq.refl; exact (c66 _ _ _))
    | (apply W_cD; apply Eq.refl; intro _; rotate_left 1; intro _; rotate_left 1)
    | (apply W_cND; apply Eq.refl; intro _; rotate_left 1; intro _; rotate_left 1))
  all_goals try (refine fin_I rfl rfl ?_; simp [chkConvoy]; omega)
  all_goals
    have hspec : chkConvoy c = chkTrucks c c.trucks := by simp [chkConvoy]; omega
    rw [hspec]
    clear hspec
    refine W_loopM (α := Nat) (fun k => [(1, .bx 1 1 0), (3, .int .i64 k)]) (fun _ => [(1, 1)])
      (fun _ => [(1, .box (encConvoy c))]) (ckInv c) (fun k => c.trucks.length - k) 0 ⟨Nat.zero_le _, rfl⟩ (by refine ⟨?_, ?_, ?_⟩ <;> repeat' (first | exact trivial | apply And.intro | apply Eq.refl)) (fun k h hi => ?_)
    have hk := hi.1
    repeat' (first
    | (apply WL_q; apply Eq.refl; apply Eq.refl; (first | (apply q_mvI <;> apply Eq.refl) | (apply q_asI <;> apply Eq.refl) | (apply q_ldb <;> apply Eq.refl) | (apply q_fab <;> apply Eq.refl) | (apply q_cmp <;> apply Eq.refl) | (apply q_mvB <;> apply Eq.refl) | (apply q_not <;> apply Eq.refl) | (apply q_arith <;> (first | apply Eq.refl | omega)) | (apply q_len <;> apply Eq.refl) | (apply q_pkT <;> apply Eq.refl) | (apply q_pkF <;> apply Eq.refl) | (apply q_ia <;> (first | apply Eq.refl | omega)) | (apply q_ldba <;> apply Eq.refl) | (apply q_ldra <;> apply Eq.refl)))
    | apply W_seq
    | apply W_region
    | apply T_normal
    | apply WL_nil
    | apply T_exit
    | apply T_ret
    | apply B_normal
    | apply B_ret
    | apply B_exit_eq
    | apply W_skip
    | apply W_exit
    | apply W_ret
    | apply W_block
    | (apply W_condT; apply Eq.refl)
    | (apply WL_call; apply Eq.refl; apply Eq.refl; rotate_left 1; apply Eq.refl; rotate_right 1; exact (c67 c (c.trucks.getD k default) (by omega) (by omega)); apply Eq.refl)
    | (apply WL_n; apply Eq.refl; (first | (apply n_boxa <;> apply Eq.refl)))
    | (apply WL_yes; apply Eq.refl; apply Eq.refl; apply Eq.refl)
    | (apply WL_no; apply Eq.refl; apply Eq.refl; apply Eq.refl; apply Eq.refl; apply Eq.refl)
    | (apply L_tND; apply Eq.refl; apply Eq.refl; apply Eq.refl; intro _; rotate_left 1; intro _; rotate_left 1)
    | apply W_regionG
    | (apply WG_nil; kernel_rfl)
    | (apply WG_q; (first | (apply want_none; apply Eq.refl) | (apply want_some; apply Eq.refl; apply Eq.refl; apply Eq.refl)); apply Eq.refl; first | (apply fq_bld <;> apply Eq.refl) | (apply fq_blda <;> apply Eq.refl) | (apply fq_fn; apply Eq.refl) | (apply fq_mf; apply Eq.refl) | (apply FQ_intro; intro _; (first | (apply q_mvI <;> apply Eq.refl) | (apply q_asI <;> apply Eq.refl) | (apply q_ldb <;> apply Eq.refl) | (apply q_fab <;> apply Eq.refl) | (apply q_cmp <;> apply Eq.refl) | (apply q_mvB <;> apply Eq.refl) | (apply q_not <;> apply Eq.refl) | (apply q_arith <;> (first | apply Eq.refl | omega)) | (apply q_len <;> apply Eq.refl) | (apply q_pkT <;> apply Eq.refl) | (apply q_pkF <;> apply Eq.refl) | (apply q_ia <;> (first | apply Eq.refl | omega)) | (apply q_ldba <;> apply Eq.refl) | (apply q_ldra <;> apply Eq.refl))))
    | (apply WG_call; (first | (apply want_none; apply Eq.refl) | (apply want_some; apply Eq.refl; apply Eq.refl; apply Eq.refl)); apply Eq.refl; apply Eq.refl; apply Eq.refl; exact (c67 c (c.trucks.getD k default) (by omega) (by omega)))
    | (apply W_cD; apply Eq.refl; intro _; rotate_left 1; intro _; rotate_left 1)
    | (apply W_cND; apply Eq.refl; intro _; rotate_left 1; intro _; rotate_left 1))
    all_goals first
      | (refine fin_I rfl rfl (ck_err hi (by omega) (by assumption)); done)
      | (refine fin_I rfl rfl (ck_end hi (by omega)); done)
      | (refine ⟨k + 1, ck_next hi (by omega) (by assumption), by omega, (by refine ⟨?_, ?_, ?_⟩ <;> repeat' (first | exact trivial | apply And.intro | apply Eq.refl))⟩; done)
      | skip
end Go.Proofs.YtafnhieaeejlcaaDoor


