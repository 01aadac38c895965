/- Regions that draw their order, in general: each operation is looked at once, in the order of the text, with what it reads and what it writes; that the orders agree is one check of numbers. -/
import Derived.Test.YtafnhieaeejlcaaDoorAb9
set_option linter.all false
namespace Go.Ab
open Go Go.RowKit

/-- What an operation reads: slots, ages, what places hold. -/
structure Lc where
  rr : List Nat
  rg : List Nat
  ro : List Nat
/-- What it writes: a slot, an age, what a place holds. -/
structure Wr where
  t : Option Nat
  g : Option Nat
  o : Option Nat
structure Vl where
  d : D
  g : Nat
  o : Own
instance : Inhabited Vl := ⟨⟨.undef, 0, .none⟩⟩

def memN (i : Nat) : List Nat → Bool
  | [] => false
  | j :: l => bif Nat.beq i j then true else memN i l
theorem memN_iff {i : Nat} : ∀ {l : List Nat}, memN i l = true ↔ i ∈ l
  | [] => by simp [memN]
  | j :: l => by
    simp only [memN, List.mem_cons]
    cases h : Nat.beq i j with
    | true => simp [Nat.eq_of_beq_eq_true h]
    | false =>
      have : i ≠ j := fun e => by rw [e, Nat.beq_refl] at h; cases h
      simp [this, memN_iff]

def updO {α : Type} (f : Nat → α) (i : Option Nat) (v : α) : Nat → α := match i with | some i => upd f i v | none => f
def St.app (T : St) (w : Wr) (v : Vl) : St := ⟨updO T.ρ w.t v.d, updO T.γ w.g v.g, updO T.σ w.o v.o⟩

structure Agree (lc : Lc) (S T : St) : Prop where
  rr : ∀ t ∈ lc.rr, T.ρ t = S.ρ t
  rg : ∀ s ∈ lc.rg, T.γ s = S.γ s
  ro : ∀ s ∈ lc.ro, T.σ s = S.σ s

/- One kind of location. -/
section val
variable {α : Type}
def val (w : Nat → Option Nat) (v : Nat → α) (L : Nat → Bool) (f0 : Nat → α) : Nat → (Nat → α)
  | 0 => f0
  | n + 1 => if L n then updO (val w v L f0 n) (w n) (v n) else val w v L f0 n
theorem updO_ne {f : Nat → α} {i : Option Nat} {v : α} {j : Nat} (h : i ≠ some j) : updO f i v j = f j := by
  cases i with
  | none => rfl
  | some i => exact upd_ne _ _ _ _ (fun e => h (by rw [e]))
theorem updO_comm {f : Nat → α} {i j : Option Nat} {u v : α} (h : i ≠ j ∨ i = none) : updO (updO f i u) j v = updO (updO f j v) i u := by
  cases i with
  | none => rfl
  | some i =>
    cases j with
    | none => rfl
    | some j =>
      have hne : i ≠ j := by
        rcases h with h | h
        · exact fun e => h (by rw [e])
        · cases h
      funext k
      show upd (upd f i u) j v k = upd (upd f j v) i u k
      by_cases e1 : k = j
      · subst e1; rw [upd_same, upd_ne _ _ _ _ (Ne.symm hne), upd_same]
      · rw [upd_ne _ _ _ _ e1]
        by_cases e2 : k = i
        · subst e2; rw [upd_same, upd_same]
        · rw [upd_ne _ _ _ _ e2, upd_ne _ _ _ _ e2, upd_ne _ _ _ _ e1]
variable {w : Nat → Option Nat} {v : Nat → α} {L : Nat → Bool} {f0 : Nat → α}
theorem val_at {i l : Nat} : ∀ n, (∀ j, j < n → w j = some l → (L j = true ↔ j < i)) → val w v L f0 n l = val w v (fun _ => true) f0 (min n i) l
  | 0, _ => by simp [val]
  | n + 1, h => by
    have ih := val_at n fun j hj => h j (by omega)
    have hn := h n (by omega)
    by_cases hi : n < i
    · rw [show min (n + 1) i = n + 1 by omega]
      rw [show min n i = n by omega] at ih
      simp only [val, if_true]
      by_cases e : w n = some l
      · rw [if_pos ((hn e).2 hi), e]; show upd _ l _ l = upd _ l _ l; rw [upd_same, upd_same]
      · rw [updO_ne e]
        split
        · rw [updO_ne e]; exact ih
        · exact ih
    · rw [show min (n + 1) i = i by omega]
      rw [show min n i = i by omega] at ih
      simp only [val]
      by_cases e : w n = some l
      · rw [if_neg (fun h => hi ((hn e).1 h))]; exact ih
      · split
        · rw [updO_ne e]; exact ih
        · exact ih
theorem val_congr {L' : Nat → Bool} : ∀ n, (∀ j, j < n → L j = L' j) → val w v L f0 n = val w v L' f0 n
  | 0, _ => rfl
  | n + 1, h => by simp only [val, val_congr n fun j hj => h j (by omega), h n (by omega)]
theorem val_add {i : Nat} (hL : L i = false) : ∀ n, i < n → (∀ j, i < j → j < n → L j = true → w i ≠ w j ∨ w i = none) →
    val w v (fun j => bif Nat.beq j i then true else L j) f0 n = updO (val w v L f0 n) (w i) (v i)
  | 0, h, _ => by omega
  | n + 1, h, hw => by
    by_cases e : i = n
    · subst e
      have h2 : val w v (fun j => bif Nat.beq j i then true else L j) f0 i = val w v L f0 i := val_congr i fun j hj => by
        have : Nat.beq j i = false := by
          cases hb : Nat.beq j i
          · rfl
          · have := Nat.eq_of_beq_eq_true hb; omega
        rw [this]; rfl
      simp only [val, h2, Nat.beq_refl, cond_true, if_true, hL, Bool.false_eq_true, if_false]
    · have ih := val_add hL n (by omega) fun j h1 h2 => hw j h1 (by omega)
      have hb : Nat.beq n i = false := by
        cases hb : Nat.beq n i
        · rfl
        · have := Nat.eq_of_beq_eq_true hb; omega
      simp only [val, hb, cond_false, ih]
      by_cases hn : L n = true
      · rw [if_pos hn, if_pos hn]; exact updO_comm (hw n (by omega) (by omega) hn)
      · rw [if_neg hn, if_neg hn]
end val

abbrev Ent := Lc × Wr
def wrF (E : List Ent) (j : Nat) : Wr := match E[j]? with | some e => e.2 | none => ⟨none, none, none⟩
def lcF (E : List Ent) (j : Nat) : Lc := match E[j]? with | some e => e.1 | none => ⟨[], [], []⟩
def vlF (V : List Vl) (j : Nat) : Vl := match V[j]? with | some v => v | none => default
def stt (S0 : St) (E : List Ent) (V : List Vl) (L : Nat → Bool) (n : Nat) : St :=
  ⟨val (fun j => (wrF E j).t) (fun j => (vlF V j).d) L S0.ρ n, val (fun j => (wrF E j).g) (fun j => (vlF V j).g) L S0.γ n, val (fun j => (wrF E j).o) (fun j => (vlF V j).o) L S0.σ n⟩
def top : Nat → Bool := fun _ => true
theorem stt_succ (S0 : St) (E : List Ent) (V : List Vl) (n : Nat) : stt S0 E V top (n + 1) = (stt S0 E V top n).app (wrF E n) (vlF V n) := by
  simp only [stt, val, top, St.app, if_true]

/-- What an operation of the list does, in any order. -/
def StepOk (X : Ctx) (Q : Exit → St → Prop) (ops : Array Oper) (i : Nat) (T T' : St) : Prop := ∀ κ sv a w, Sim X κ sv T a w →
  wpOpIn X.F 0 X.Z.P ops (lift X Q) i (fun a' w' => ∃ κ' sv', Sim X κ' sv' T' a' w') a w
def Snd (X : Ctx) (Q : Exit → St → Prop) (ops : Array Oper) (i : Nat) (S : St) (lc : Lc) (wr : Wr) (v : Vl) : Prop := ∀ T, Agree lc S T → StepOk X Q ops i T (T.app wr v)

/- The check of numbers. -/
def dirB (o : Oper) : List Nat := (o.after.toList.filter (Region.binds .any)).map (·.on)
def maskOf (acc : List Nat) (l : List Nat) : Nat := l.foldl (fun s j => s ||| (2 ^ j ||| (acc[j]?).getD 0)) 0
def masks (acc : List Nat) : List Oper → List Nat
  | [] => acc
  | o :: l => masks (acc ++ [maskOf acc (dirB o)]) l
def hasO (l : List Nat) : Option Nat → Bool
  | none => false
  | some i => memN i l
def sameO : Option Nat → Option Nat → Bool
  | some i, some j => Nat.beq i j
  | _, _ => false
/-- Number j writes what number i reads or writes. -/
def clash (a b : Ent) : Bool := hasO a.1.rr b.2.t || hasO a.1.rg b.2.g || hasO a.1.ro b.2.o
def clashW (a b : Ent) : Bool := sameO a.2.t b.2.t || sameO a.2.g b.2.g || sameO a.2.o b.2.o
def pairsB (M : List Nat) (E : List Ent) : Bool := E.zipIdx.all fun (a, i) => E.zipIdx.all fun (b, j) =>
  (Nat.beq i j) || !(clash a b || clashW a b) || (if j < i then ((M[i]?).getD 0).testBit j else ((M[j]?).getD 0).testBit i)
def backB (ops : List Oper) : Bool := ops.zipIdx.all fun (o, i) => (dirB o).all fun j => Nat.blt j i
def okB (ops : List Oper) (E : List Ent) : Bool := backB ops && pairsB (masks [] ops) E && Nat.beq ops.length E.length

theorem maskOf_bit {acc l : List Nat} {b : Nat} : (maskOf acc l).testBit b = true → ∃ j ∈ l, j = b ∨ ((acc[j]?).getD 0).testBit b = true := by
  have key : ∀ (l : List Nat) (s : Nat), (l.foldl (fun s j => s ||| (2 ^ j ||| (acc[j]?).getD 0)) s).testBit b = true → s.testBit b = true ∨ ∃ j ∈ l, j = b ∨ ((acc[j]?).getD 0).testBit b = true := by
    intro l
    induction l with
    | nil => intro s h; exact .inl h
    | cons x l ih =>
      intro s h
      rcases ih _ h with h | ⟨j, hj, h⟩
      · simp only [Nat.testBit_or, Nat.testBit_two_pow, Bool.or_eq_true, decide_eq_true_eq] at h
        rcases h with h | h | h
        · exact .inl h
        · exact .inr ⟨x, List.mem_cons_self .., .inl h⟩
        · exact .inr ⟨x, List.mem_cons_self .., .inr h⟩
      · exact .inr ⟨j, List.mem_cons_of_mem _ hj, h⟩
  intro h
  rcases key l 0 h with h | h
  · simp at h
  · exact h

def Closed (ops : List Oper) (L : Nat → Bool) : Prop := ∀ i o, ops[i]? = some o → L i = true → ∀ j ∈ dirB o, L j = true
theorem masks_bit {ops : List Oper} {L : Nat → Bool} (hc : Closed ops L) : ∀ (l : List Oper) (acc : List Nat) (pre : List Oper), ops = pre ++ l → acc.length = pre.length →
    (∀ (i : Nat) (o : Oper) (b : Nat), pre[i]? = some o → ((acc[i]?).getD 0).testBit b = true → (∀ j ∈ dirB o, L j = true) → L b = true) →
    ∀ (i : Nat) (o : Oper) (b : Nat), ops[i]? = some o → (((masks acc l)[i]?).getD 0).testBit b = true → (∀ j ∈ dirB o, L j = true) → L b = true := by
  intro l
  induction l with
  | nil => intro acc pre h1 h2 h3 i o b ho hb hd; rw [h1, List.append_nil] at ho; exact h3 i o b ho hb hd
  | cons x l ih =>
    intro acc pre h1 h2 h3
    refine ih (acc ++ [maskOf acc (dirB x)]) (pre ++ [x]) (by simp [h1]) (by simp [h2]) (fun i o b ho hb hd => ?_)
    rw [List.getElem?_append] at ho hb
    by_cases hi : i < pre.length
    · rw [if_pos hi] at ho
      rw [if_pos (by omega)] at hb
      exact h3 i o b ho hb hd
    · rw [if_neg hi] at ho
      rw [if_neg (by omega)] at hb
      have hi0 : i - pre.length = 0 := by
        have := (List.getElem?_eq_some_iff.1 ho).1
        simp at this; omega
      rw [hi0] at ho
      simp at ho
      subst ho
      rw [show i - acc.length = 0 by omega] at hb
      simp at hb
      obtain ⟨j, hj, h | h⟩ := maskOf_bit hb
      · subst h; exact hd j hj
      · by_cases hjp : j < pre.length
        · have hjo : pre[j]? = some pre[j] := List.getElem?_eq_getElem hjp
          refine h3 j _ b hjo h (hc j _ ?_ (hd j hj))
          rw [h1, List.getElem?_append_left hjp]; exact hjo
        · rw [List.getElem?_eq_none (by omega)] at h; simp at h

theorem pairs_spec {M : List Nat} {E : List Ent} (h : pairsB M E = true) {i j : Nat} {a b : Ent} (hi : E[i]? = some a) (hj : E[j]? = some b) (hne : i ≠ j) (hc : (clash a b || clashW a b) = true) :
    (if j < i then ((M[i]?).getD 0).testBit j else ((M[j]?).getD 0).testBit i) = true := by
  have h1 := List.all_eq_true.1 h (a, i) (List.mk_mem_zipIdx_iff_getElem?.2 hi)
  have h2 := List.all_eq_true.1 h1 (b, j) (List.mk_mem_zipIdx_iff_getElem?.2 hj)
  simp only [hc, Bool.not_true, Bool.or_false, Bool.or_eq_true] at h2
  rcases h2 with h2 | h2
  · exact absurd (Nat.eq_of_beq_eq_true h2) hne
  · exact h2

section
variable {X : Ctx} {Q : Exit → St → Prop} {S S' S0 : St} {ops : Array Oper} {o : Oper}

def Reg (X : Ctx) (Q : Exit → St → Prop) (ops : Array Oper) (S0 : St) : Prop := ∀ κ sv a w, Sim X κ sv S0 a w →
  wpAnyIn X.F 0 X.Z.P .any ops (lift X Q) ops.size (Array.replicate ops.size false) a w

theorem clash_of {a b : Ent} {t : Nat} (h : (t ∈ a.1.rr ∧ b.2.t = some t) ∨ (t ∈ a.1.rg ∧ b.2.g = some t) ∨ (t ∈ a.1.ro ∧ b.2.o = some t)) : clash a b = true := by
  unfold clash
  rcases h with ⟨h1, h2⟩ | ⟨h1, h2⟩ | ⟨h1, h2⟩ <;> simp [h2, hasO, memN_iff.2 h1]
theorem clashW_of {a b : Ent} (h : (a.2.t = b.2.t ∧ a.2.t ≠ none) ∨ (a.2.g = b.2.g ∧ a.2.g ≠ none) ∨ (a.2.o = b.2.o ∧ a.2.o ≠ none)) : clashW a b = true := by
  unfold clashW
  have key : ∀ {x y : Option Nat}, x = y → x ≠ none → sameO x y = true := by
    intro x y h1 h2
    subst h1
    cases x with
    | none => exact absurd rfl h2
    | some x => simp [sameO, Nat.beq_refl]
  rcases h with ⟨h1, h2⟩ | ⟨h1, h2⟩ | ⟨h1, h2⟩ <;> simp [key h1 h2]

theorem wrF_of {E : List Ent} {i : Nat} {a : Ent} (h : E[i]? = some a) : wrF E i = a.2 := by simp [wrF, h]
theorem lcF_of {E : List Ent} {i : Nat} {a : Ent} (h : E[i]? = some a) : lcF E i = a.1 := by simp [lcF, h]

theorem reg_ok {E : List Ent} {V : List Vl} (hok : okB ops.toList E = true) (hs : ∀ k, k < E.length → Snd X Q ops k (stt S0 E V top k) (lcF E k) (wrF E k) (vlF V k)) (hQ : Q .normal (stt S0 E V top E.length)) : Reg X Q ops S0 := by
  simp only [okB, Bool.and_eq_true] at hok
  obtain ⟨⟨hback, hpairs⟩, hlen⟩ := hok
  have hlen : ops.size = E.length := by simpa using Nat.eq_of_beq_eq_true hlen
  have back : ∀ {i : Nat} {o : Oper}, ops[i]? = some o → ∀ j ∈ dirB o, j < i := by
    intro i o ho j hj
    have h1 := List.all_eq_true.1 hback (o, i) (List.mk_mem_zipIdx_iff_getElem?.2 (by simpa using ho))
    have h2 := List.all_eq_true.1 h1 j hj
    simpa [Nat.blt_eq] using h2
  have ent : ∀ {i : Nat}, i < E.length → ∃ a, E[i]? = some a := fun h => ⟨_, List.getElem?_eq_getElem h⟩
  have bits : ∀ {L : Nat → Bool}, Closed ops.toList L → ∀ (i : Nat) (o : Oper) (b : Nat), ops[i]? = some o → (((masks [] ops.toList)[i]?).getD 0).testBit b = true → (∀ j ∈ dirB o, L j = true) → L b = true := fun hc i o b ho =>
    masks_bit hc ops.toList [] [] (by simp) rfl (by simp) i o b (by simpa using ho)
  have main : ∀ n (L : Array Bool) (a : Act) (w : World) κ sv, L.size = ops.size → L.toList.count false ≤ n → Closed ops.toList (fun i => L.getD i false) →
      Sim X κ sv (stt S0 E V (fun i => L.getD i false) E.length) a w → wpAnyIn X.F 0 X.Z.P .any ops (lift X Q) n L a w := by
    intro n
    have fin : ∀ (L : Array Bool) (a : Act) (w : World) κ sv, L.size = ops.size → (∀ i, i < ops.size → L.getD i false = true) → Sim X κ sv (stt S0 E V (fun i => L.getD i false) E.length) a w → lift X Q .normal a w := by
      intro L a w κ sv hsz hall hsim
      refine ⟨κ, sv, _, hsim, ?_⟩
      have : stt S0 E V (fun i => L.getD i false) E.length = stt S0 E V top E.length := by
        unfold stt
        rw [val_congr (L' := top) _ fun j hj => hall j (by omega), val_congr (L' := top) _ fun j hj => hall j (by omega), val_congr (L' := top) _ fun j hj => hall j (by omega)]
      rw [this]; exact hQ
    have rdy : ∀ (L : Array Bool), L.size = ops.size → Region.ready .any ops L = [] → ∀ i, i < ops.size → L.getD i false = true := by
      intro L hsz hr i
      induction i using Nat.strongRecOn with
      | ind i ih =>
        intro hi
        cases hL : L.getD i false with
        | true => rfl
        | false =>
          exfalso
          have : i ∈ Region.ready .any ops L := by
            refine mem_ready.2 ⟨?_, ops[i], Array.getElem?_eq_getElem hi, fun e he hb => ?_⟩
            · have h1 : i < L.size := by omega
              simp [Array.getD, h1] at hL ⊢; exact hL
            · have hj : e.on ∈ dirB ops[i] := List.mem_map.2 ⟨e, List.mem_filter.2 ⟨by simpa using he, hb⟩, rfl⟩
              have := back (Array.getElem?_eq_getElem hi) _ hj
              exact ih _ this (by omega)
          rw [hr] at this; cases this
    induction n with
    | zero =>
      intro L a w κ sv hsz hcnt hcl hsim
      have hall : ∀ i, i < ops.size → L.getD i false = true := by
        intro i hi
        have h1 : i < L.size := by omega
        have h0 : L.toList.count false = 0 := by omega
        have h2 := List.count_eq_zero.1 h0
        cases hL : L.getD i false with
        | true => rfl
        | false =>
          exfalso
          apply h2
          simp [Array.getD, h1] at hL
          rw [← hL]; exact List.getElem_mem (by simpa using h1)
      refine ⟨?_, fin L a w κ sv hsz hall hsim⟩
      rw [List.eq_nil_iff_forall_not_mem]
      intro i hi
      obtain ⟨h1, o, h2, _⟩ := mem_ready.1 hi
      have h3 : i < ops.size := (Array.getElem?_eq_some_iff.1 h2).1
      have := hall i h3
      have h4 : i < L.size := by omega
      simp [Array.getD, h4] at h1 this
      rw [this] at h1; cases h1
    | succ n ih =>
      intro L a w κ sv hsz hcnt hcl hsim
      refine ⟨fun h0 => fin L a w κ sv hsz (rdy L hsz h0) hsim, fun i hi => ?_⟩
      obtain ⟨h1, o, h2, h3⟩ := mem_ready.1 hi
      have hio : i < ops.size := (Array.getElem?_eq_some_iff.1 h2).1
      have hiL : i < L.size := by omega
      have hLi : L.getD i false = false := by simp [Array.getD, hiL] at h1 ⊢; exact h1
      obtain ⟨ei, hei⟩ := ent (i := i) (by omega)
      have hdir : ∀ j ∈ dirB o, L.getD j false = true := by
        intro j hj
        obtain ⟨e, he, rfl⟩ := List.mem_map.1 hj
        obtain ⟨he1, he2⟩ := List.mem_filter.1 he
        exact h3 e (by simpa using he1) he2
      -- what number i reads is as in the text's order
      have order : ∀ j, j < E.length → j ≠ i → ∀ ej, E[j]? = some ej → clash ei ej = true → (L.getD j false = true ↔ j < i) := by
        intro j hj hne ej hej hc
        have hp := pairs_spec hpairs hei hej (Ne.symm hne) (by rw [hc]; rfl)
        constructor
        · intro hLj
          refine Nat.lt_of_le_of_ne (Nat.le_of_not_lt fun hlt => ?_) hne
          rw [if_neg (by omega)] at hp
          obtain ⟨oj, hoj⟩ : ∃ oj, ops[j]? = some oj := ⟨_, Array.getElem?_eq_getElem (by omega)⟩
          have := bits hcl j oj i hoj hp (hcl j oj (by simpa using hoj) hLj)
          rw [hLi] at this; cases this
        · intro hlt
          rw [if_pos hlt] at hp
          exact bits hcl i o j h2 hp hdir
      have agree : Agree (lcF E i) (stt S0 E V top i) (stt S0 E V (fun i => L.getD i false) E.length) := by
        rw [lcF_of hei]
        have hmin : min E.length i = i := by omega
        have key : ∀ (j t : Nat), j < E.length → ((t ∈ ei.1.rr ∧ (wrF E j).t = some t) ∨ (t ∈ ei.1.rg ∧ (wrF E j).g = some t) ∨ (t ∈ ei.1.ro ∧ (wrF E j).o = some t)) → (L.getD j false = true ↔ j < i) := by
          intro j t hj hc
          by_cases e : j = i
          · subst e; rw [hLi]; simp
          · obtain ⟨ej, hej⟩ := ent hj
            rw [wrF_of hej] at hc
            exact order j hj e ej hej (clash_of hc)
        refine ⟨fun t ht => ?_, fun t ht => ?_, fun t ht => ?_⟩
        · have := val_at (w := fun j => (wrF E j).t) (v := fun j => (vlF V j).d) (L := fun i => L.getD i false) (f0 := S0.ρ) (i := i) (l := t) E.length (fun j hj hw => key j t hj (.inl ⟨ht, hw⟩))
          rw [hmin] at this; exact this
        · have := val_at (w := fun j => (wrF E j).g) (v := fun j => (vlF V j).g) (L := fun i => L.getD i false) (f0 := S0.γ) (i := i) (l := t) E.length (fun j hj hw => key j t hj (.inr (.inl ⟨ht, hw⟩)))
          rw [hmin] at this; exact this
        · have := val_at (w := fun j => (wrF E j).o) (v := fun j => (vlF V j).o) (L := fun i => L.getD i false) (f0 := S0.σ) (i := i) (l := t) E.length (fun j hj hw => key j t hj (.inr (.inr ⟨ht, hw⟩)))
          rw [hmin] at this; exact this
      refine wpOpIn_mono ?_ (hs i (by omega) _ agree κ sv a w hsim)
      rintro a' w' ⟨κ', sv', hsim'⟩
      have hLset : (fun k => (L.setIfInBounds i true).getD k false) = fun k => bif Nat.beq k i then true else L.getD k false := by
        funext k
        by_cases e : k = i
        · subst e; rw [Nat.beq_refl]; simp [Array.getD, hiL]
        · have : Nat.beq k i = false := by
            cases hb : Nat.beq k i
            · rfl
            · exact absurd (Nat.eq_of_beq_eq_true hb) e
          rw [this]
          simp only [Array.getD_eq_getD_getElem?, cond_false]
          rw [Array.getElem?_setIfInBounds, if_neg (fun h => e h.symm)]
      refine ih (L.setIfInBounds i true) a' w' κ' sv' (by simp [hsz]) ?_ ?_ ?_
      · rw [Array.toList_setIfInBounds]
        have hget : L.toList[i]'(by simpa using hiL) = false := by simp [Array.getD, hiL] at hLi; simpa using hLi
        have hmem : false ∈ L.toList := hget ▸ List.getElem_mem (by simpa using hiL)
        have hpos := List.count_pos_iff.2 hmem
        rw [List.count_set (by simpa using hiL), hget, if_pos (show (false == false) = true from rfl), if_neg (by decide)]
        omega
      · intro j oj hoj hLj d hd
        have hcong : ∀ k, (L.setIfInBounds i true).getD k false = bif Nat.beq k i then true else L.getD k false := fun k => congrFun hLset k
        simp only [hcong] at hLj ⊢
        by_cases e : d = i
        · subst e; rw [Nat.beq_refl]; rfl
        · have hb : Nat.beq d i = false := by
            cases hb : Nat.beq d i
            · rfl
            · exact absurd (Nat.eq_of_beq_eq_true hb) e
          rw [hb]
          show L.getD d false = true
          by_cases e2 : j = i
          · subst e2
            have : ops[j]? = some oj := by simpa using hoj
            rw [h2] at this
            cases this
            exact hdir d hd
          · have hb2 : Nat.beq j i = false := by
              cases hb : Nat.beq j i
              · rfl
              · exact absurd (Nat.eq_of_beq_eq_true hb) e2
            rw [hb2] at hLj
            exact hcl j oj hoj hLj d hd
      · rw [hLset]
        have hww : ∀ j, i < j → j < E.length → L.getD j false = true → ∀ ej, E[j]? = some ej → clashW ei ej = false := by
          intro j hij hj hLj ej hej
          cases hc : clashW ei ej with
          | false => rfl
          | true =>
            exfalso
            have hp := pairs_spec hpairs hei hej (by omega) (by rw [hc]; simp)
            rw [if_neg (by omega)] at hp
            obtain ⟨oj, hoj⟩ : ∃ oj, ops[j]? = some oj := ⟨_, Array.getElem?_eq_getElem (by omega)⟩
            have := bits hcl j oj i hoj hp (hcl j oj (by simpa using hoj) hLj)
            rw [hLi] at this; cases this
        have kw : ∀ (f : Wr → Option Nat) j, i < j → j < E.length → L.getD j false = true → (∀ a b : Ent, f a.2 = f b.2 → f a.2 ≠ none → clashW a b = true) → f (wrF E i) ≠ f (wrF E j) ∨ f (wrF E i) = none := by
          intro f j h1 h2 h3 h4
          obtain ⟨ej, hej⟩ := ent h2
          have := hww j h1 h2 h3 ej hej
          rw [wrF_of hei, wrF_of hej]
          by_cases e : f ei.2 = none
          · exact .inr e
          · refine .inl fun e2 => ?_
            rw [h4 ei ej e2 e] at this; cases this
        have : stt S0 E V (fun k => bif Nat.beq k i then true else L.getD k false) E.length = (stt S0 E V (fun i => L.getD i false) E.length).app (wrF E i) (vlF V i) := by
          unfold stt St.app
          simp only
          rw [val_add (L := fun i => L.getD i false) hLi E.length (by omega) fun j a b c => kw Wr.t j a b c fun a b h1 h2 => clashW_of (.inl ⟨h1, h2⟩),
            val_add (L := fun i => L.getD i false) hLi E.length (by omega) fun j a b c => kw Wr.g j a b c fun a b h1 h2 => clashW_of (.inr (.inl ⟨h1, h2⟩)),
            val_add (L := fun i => L.getD i false) hLi E.length (by omega) fun j a b c => kw Wr.o j a b c fun a b h1 h2 => clashW_of (.inr (.inr ⟨h1, h2⟩))]
        rw [this]; exact hsim'
  intro κ sv a w hsim
  refine main ops.size (Array.replicate ops.size false) a w κ sv (by simp) (by simp) ?_ ?_
  · intro i o ho hL
    exfalso
    by_cases h : i < ops.size <;> simp [Array.getD, h] at hL
  · have : stt S0 E V (fun i => (Array.replicate ops.size false).getD i false) E.length = S0 := by
      have e : (fun i => (Array.replicate ops.size false).getD i false) = fun _ => false := by
        funext i
        by_cases h : i < ops.size <;> simp [Array.getD, h]
      rw [e]
      have k : ∀ {α : Type} (w : Nat → Option Nat) (v : Nat → α) (f0 : Nat → α) n, val w v (fun _ => false) f0 n = f0 := by
        intro α w v f0 n
        induction n with
        | zero => rfl
        | succ n ih => simp only [val, ih]; rfl
      unfold stt
      rw [k, k, k]
    rw [this]; exact hsim
end
end Go.Ab
