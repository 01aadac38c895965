/- The states that an abstract state describes; the code's weakest precondition over abstract states; the rules of control. -/
import Derived.Test.YtafnhieaeejlcaaDoorAb1
import Derived.TacticsIn
import Derived.OrdersIn
import Derived.LoopNIn
import Derived.RangeFuncLeaves
import Derived.RangeFuncCalls
import Derived.RangeFuncFrom
set_option linter.all false
namespace Go.Ab
open Go Go.RowKit

/-- What is known of a type. k: 0 one cell, 1 a struct, 2 an array, 3 a slice; 9 nothing is said. -/
inductive Zr where
  | i (k : IntKind) | b | s | sl
structure TRow where
  k : Nat
  sz : Nat
  bytes : Nat
  fl : List (Nat × Nat × Bool)
  el : Nat
  ln : Nat
  zs : List Zr

def Zr.toD : Zr → D
  | .i k => .int k 0
  | .b => .bool false
  | .s => .str ⟨#[]⟩
  | .sl => .nil
def Zr.fits : Zr → Value → Bool
  | .i k, .int k' n => k == k' && n == 0
  | .b, .bool x => !x
  | .s, .string x => x.data.isEmpty
  | .sl, .slice none 0 0 => true
  | _, _ => false
def Zr.fitsL : List Zr → List Value → Bool
  | [], [] => true
  | z :: zs, v :: vs => z.fits v && Zr.fitsL zs vs
  | _, _ => false

def aggOf (P : Program) (t : TypeId) : Bool := match P.underlying t with | some (.struct _) | some (.array _ _) => true | _ => false

def rowOk (P : Program) (t : TypeId) (r : TRow) : Bool :=
  match P.info? t, P.underlying t with
  | some i, some d => i.size == r.sz && i.bytes == r.bytes && (match i.zero with | some v => Zr.fitsL r.zs v.cells.toList | none => false) &&
    (match d with
     | .struct fs => r.k == 1 && fs.toList.map (fun f => (f.offset, P.cellsOf f.type, aggOf P f.type)) == r.fl && fs.toList.all (fun f => (P.info? f.type).isSome && (P.underlying f.type).isSome)
     | .array n e => r.k == 2 && n == r.ln && e == r.el
     | .slice e => r.k == 3 && e == r.el
     | _ => r.k == 0)
  | _, _ => false

def nth {α : Type} : List α → Nat → Option α
  | [], _ => none
  | a :: _, 0 => some a
  | _ :: l, n + 1 => nth l n
theorem nth_eq {α : Type} : ∀ (l : List α) (n : Nat), nth l n = l[n]?
  | [], n => by simp [nth]
  | a :: _, 0 => by simp [nth]
  | _ :: l, n + 1 => by simp [nth, nth_eq l n]

structure Seat where
  P : Program
  tab : List TRow
  glob : Nat → Option (List D)
  tabOk : ∀ t r, nth tab t = some r → r.k ≠ 9 → rowOk P t r = true
  globPure : ∀ g l, glob g = some l → PureL l
  mixed : P.follows .mixedOrders = true

structure Frame (ext : Option Nat) (w w' : World) : Prop where
  os : w'.os = w.os
  tape : w'.tape = w.tape
  output : w'.output = w.output
  size : w.heap.size ≤ w'.heap.size
  block : ∀ k, k < w.heap.size → some k ≠ ext → w'.heap[k]? = w.heap[k]?

theorem Frame.refl (ext : Option Nat) (w : World) : Frame ext w w := ⟨rfl, rfl, rfl, Nat.le_refl _, fun _ _ _ => rfl⟩
theorem Frame.trans {ext : Option Nat} {a b c : World} (h : Frame ext a b) (h' : Frame ext b c) : Frame ext a c :=
  ⟨h'.os.trans h.os, h'.tape.trans h.tape, h'.output.trans h.output, Nat.le_trans h.size h'.size, fun k hk he => (h'.block k (Nat.lt_of_lt_of_le hk h.size) he).trans (h.block k hk he)⟩
theorem Frame.below {w w' : World} (h : Frame none w w') : Below w.heap.size w w' := ⟨h.os, h.tape, h.output, h.size, fun k hk => h.block k hk (by simp)⟩
theorem Frame.of_below {ext : Option Nat} {w w' : World} (h : Below w.heap.size w w') : Frame ext w w' := ⟨h.os, h.tape, h.output, h.size, fun k hk _ => h.block k hk⟩

/-- A step of the call's own: what is not in M lies as it lay. -/
structure Step (M : Nat → Prop) (w w' : World) : Prop where
  os : w'.os = w.os
  tape : w'.tape = w.tape
  output : w'.output = w.output
  size : w.heap.size ≤ w'.heap.size
  block : ∀ k, k < w.heap.size → ¬ M k → w'.heap[k]? = w.heap[k]?

/-- What a walk is about: the seat, how many slots; where the call began, and what stayed then; a box that was lent; in which round of a range over a function the code runs; what is known of the rest of the world (of which the blocks in M are the call's own). -/
structure Ctx where
  Z : Seat
  nt : Nat
  w0 : World
  κ0 : Nat → Nat → Option Value
  ext : Option Nat
  κp : Nat → Nat → Option Value
  γp : Nat → Nat
  svp : Nat → Value
  T : Nat → Prop
  nd : Bool
  ro : Option Nat
  Φ : (Nat → Prop) → World → Prop
  cl : ∀ M w w', Φ M w → Step M w w' → Φ (fun k => M k ∨ w.heap.size ≤ k) w'
def Ctx.F (X : Ctx) : Fence := { Fence.wide with round := X.ro }
/-- The usual one. -/
def plainF (w0 : World) (ext : Option Nat) (M : Nat → Prop) (w : World) : Prop := Frame ext w0 w ∧ ∀ k, M k → w0.heap.size ≤ k ∨ ext = some k
theorem plain_cl (w0 : World) (ext : Option Nat) : ∀ M w w', plainF w0 ext M w → Step M w w' → plainF w0 ext (fun k => M k ∨ w.heap.size ≤ k) w' := fun M w w' h hs =>
  ⟨⟨hs.os.trans h.1.os, hs.tape.trans h.1.tape, hs.output.trans h.1.output, Nat.le_trans h.1.size hs.size, fun k hk he =>
    (hs.block k (Nat.lt_of_lt_of_le hk h.1.size) (fun hm => by rcases h.2 k hm with h8 | h8 <;> first | omega | exact he h8.symm)).trans (h.1.block k hk he)⟩,
    fun k hk => by
      rcases hk with hk | hk
      · exact h.2 k hk
      · exact .inl (Nat.le_trans h.1.size hk)⟩
def Ctx.plain (Z : Seat) (nt : Nat) (w0 : World) (κ0 : Nat → Nat → Option Value) (ext : Option Nat) : Ctx := ⟨Z, nt, w0, κ0, ext, fun _ _ => none, fun _ => 0, fun _ => Go.undef, fun _ => False, false, none, plainF w0 ext, plain_cl w0 ext⟩

/-- The block that a place owns. -/
def blk : Own → Value → Option Nat
  | .none, _ => none
  | _, .pointer (some a) => some a.block
  | _, .slice (some a) _ _ => some a.block
  | _, _ => none

def Owns (base : Nat) (κ : Nat → Nat → Option Value) (γ : Nat → Nat) (sv : Nat → Value) (w : World) (s : Nat) : Own → Prop
  | .none => True
  | .box l => ∃ b T cs, sv s = .pointer (some ⟨b, 0, none⟩) ∧ w.heap[b]? = some (.cells (List.toArray cs) T (0, 0)) ∧ RepL κ γ sv l cs ∧ allCell l = true
  | .arr T z n f => ∃ xs, w.ownsRow base T z (sv s) n xs ∧ (∀ i, i < n → (f i).length = z) ∧ (∀ i, i < n → allCell (f i) = true) ∧ (∀ i, i < n → RepL κ γ sv (f i) ((xs.drop (i * z)).take z))

structure SimW (X : Ctx) (κ : Nat → Nat → Option Value) (sv : Nat → Value) (S : St) (w : World) : Prop where
  imm : ∀ b o v, κ b o = some v → w.cell? ⟨b, o, none⟩ = some v
  own : ∀ s, Owns X.w0.heap.size κ S.γ sv w s (S.σ s)
  inj : ∀ s t b, blk (S.σ s) (sv s) = some b → blk (S.σ t) (sv t) = some b → s = t
  sep : ∀ s b o, blk (S.σ s) (sv s) = some b → κ b o = none
  frsh : ∀ s b, blk (S.σ s) (sv s) = some b → X.w0.heap.size ≤ b ∨ X.ext = some b
  frame : ∃ M, X.Φ M w ∧ ∀ s b, blk (S.σ s) (sv s) = some b → M b
  glob : ∀ g l, X.Z.glob g = some l → allCell l = true ∧ ∃ u, RepL κ S.γ sv l u ∧ ∀ j v, u[j]? = some v → κ g j = some v
  old : ∀ b o v, b < X.w0.heap.size → κ b o = some v → X.κ0 b o = some v
  pin : ∀ b, X.ext = some b → 1 ≤ S.γ 0 ∧ (S.γ 0 = 1 → sv 0 = .pointer (some ⟨b, 0, none⟩))
  base : X.w0.heap.size ≤ w.heap.size
  le : Le X.κp κ X.γp S.γ X.svp sv
  aw1 : ∀ b o v, κ b o = some v → ¬ X.T b
  aw2 : ∀ s b, blk (S.σ s) (sv s) = some b → ¬ X.T b
  aw3 : ∀ b, X.T b → b < w.heap.size

/-- The marks that ranges over functions have left. -/
def mark (D : Nat) : Deferred := { target := .collected D, args := #[] }
def Dfr (nd : Bool) (base : Nat) (a : Act) (w : World) : Prop := ∃ Ds : List Nat, a.defers = Ds.map mark ∧ Ds.Nodup ∧ (∀ D ∈ Ds, base ≤ D ∧ w.heap[D]? = some (.deferred (some []))) ∧ (nd = true → Ds = [])
theorem Dfr.nil {nd : Bool} {base : Nat} {a : Act} {w : World} (h : a.defers = []) : Dfr nd base a w := ⟨[], by simpa using h, List.nodup_nil, fun _ h => (by cases h), fun _ => rfl⟩
theorem Dfr.put {nd : Bool} {base : Nat} {a : Act} {w : World} (h : Dfr nd base a w) (dst : Option Nat) (v : Value) : Dfr nd base (a.put dst v) w := by cases dst <;> exact h
theorem Dfr.step {nd : Bool} {base : Nat} {a : Act} {w w' : World} (h : Dfr nd base a w) (hs : ∀ (k : Nat) (o : Obj), w.heap[k]? = some o → o.isCells = false → w'.heap[k]? = some o) : Dfr nd base a w' :=
  let ⟨Ds, h1, h2, h3, h4⟩ := h
  ⟨Ds, h1, h2, fun D hD => ⟨(h3 D hD).1, hs D _ (h3 D hD).2 rfl⟩, h4⟩
theorem Dfr.later {nd : Bool} {base : Nat} {a : Act} {w w' : World} (h : Dfr nd base a w) (hb : Below w.heap.size w w') : Dfr nd base a w' := h.step fun k o hk _ => by
  rw [hb.block k (Array.getElem?_eq_some_iff.1 hk).1]; exact hk
theorem Dfr.grown {nd : Bool} {base : Nat} {a : Act} {w w' : World} {row : Option Nat} (h : Dfr nd base a w) (hg : w.grownBy w' row) (hr : ∀ b, row = some b → ∃ o : Obj, w.heap[b]? = some o ∧ o.isCells = true) : Dfr nd base a w' := h.step fun k o hk ho => by
  rw [hg.block k (Array.getElem?_eq_some_iff.1 hk).1 (fun e => by
    obtain ⟨o', h1, h2⟩ := hr k e.symm
    rw [hk] at h1; cases h1; rw [ho] at h2; cases h2)]
  exact hk

structure Sim (X : Ctx) (κ : Nat → Nat → Option Value) (sv : Nat → Value) (S : St) (a : Act) (w : World) : Prop where
  size : a.tmps.size = X.nt
  defers : Dfr X.nd X.w0.heap.size a w
  slot : ∀ i, i < X.nt → Rep κ S.γ sv (S.ρ i) (a.tmps.getD i Go.undef)
  wld : SimW X κ sv S w

def lift (X : Ctx) (Q : Exit → St → Prop) : Exit → Act → World → Prop := fun e a w => ∃ κ sv S, Sim X κ sv S a w ∧ Q e S

def W (X : Ctx) (c : Code) (Q : Exit → St → Prop) (S : St) : Prop := ∀ κ sv a w, Sim X κ sv S a w → c.wpIn X.F 0 X.Z.P (lift X Q) a w
def WL (X : Ctx) (ops : Array Oper) (l : List Oper) (Q : Exit → St → Prop) (S : St) : Prop := ∀ κ sv a w, Sim X κ sv S a w → wpListIn X.F 0 X.Z.P ops (lift X Q) l a w

section control
variable {X : Ctx} {Q : Exit → St → Prop} {S : St}

def thenQ (K : St → Prop) (Q : Exit → St → Prop) : Exit → St → Prop
  | .normal, S => K S
  | e, S => Q e S
def blockQ (id : Nat) (Q : Exit → St → Prop) : Exit → St → Prop
  | .exit i, S => bif Nat.beq i id then Q .normal S else Q (.exit i) S
  | e, S => Q e S

theorem W_mono {c : Code} {Q' : Exit → St → Prop} (h : W X c Q S) (hq : ∀ e S, Q e S → Q' e S) : W X c Q' S :=
  fun κ sv a w hs => wpIn_mono (h κ sv a w hs) (fun _ _ _ ⟨κ', sv', S', h1, h2⟩ => ⟨κ', sv', S', h1, hq _ _ h2⟩)

theorem W_seq {x y : Code} (h : W X x (thenQ (W X y Q) Q) S) : W X (.seq x y) Q S := fun κ sv a w hs => by
  refine wpIn_seq (wpIn_mono (h κ sv a w hs) ?_)
  rintro e a' w' ⟨κ', sv', S', h1, h2⟩
  cases e <;> first | exact h2 κ' sv' a' w' h1 | exact ⟨κ', sv', S', h1, h2⟩

theorem W_skip (h : Q .normal S) : W X .skip Q S := fun κ sv _ _ hs => wpIn_skip ⟨κ, sv, S, hs, h⟩
theorem W_exit {id : Nat} (h : Q (.exit id) S) : W X (.exit id) Q S := fun κ sv _ _ hs => wpIn_exit ⟨κ, sv, S, hs, h⟩
theorem W_ret (h : Q .ret S) : W X .ret Q S := fun κ sv _ _ hs => wpIn_ret ⟨κ, sv, S, hs, h⟩
theorem W_block {id : Nat} {c : Code} (h : W X c (blockQ id Q) S) : W X (.block id c) Q S := fun κ sv a w hs => by
  refine wpIn_block (wpIn_mono (h κ sv a w hs) ?_)
  rintro e a' w' ⟨κ', sv', S', h1, h2⟩
  cases e with
  | exit i =>
    simp only [Exit.inBlock]
    simp only [blockQ] at h2
    split
    · rename_i e; subst e; rw [Nat.beq_refl] at h2; exact ⟨κ', sv', S', h1, h2⟩
    · rename_i e
      have : Nat.beq i id = false := by
        cases hb : Nat.beq i id
        · rfl
        · exact absurd (Nat.eq_of_beq_eq_true hb) e
      rw [this] at h2; exact ⟨κ', sv', S', h1, h2⟩
  | _ => exact ⟨κ', sv', S', h1, h2⟩

theorem T_normal {K : St → Prop} (h : K S) : thenQ K Q .normal S := h
theorem T_exit {K : St → Prop} {i : Nat} (h : Q (.exit i) S) : thenQ K Q (.exit i) S := h
theorem T_ret {K : St → Prop} (h : Q .ret S) : thenQ K Q .ret S := h
theorem B_normal {id : Nat} (h : Q .normal S) : blockQ id Q .normal S := h
theorem B_ret {id : Nat} (h : Q .ret S) : blockQ id Q .ret S := h
theorem B_exit_eq {id : Nat} (h : Q .normal S) : blockQ id Q (.exit id) S := by
  show (bif Nat.beq id id then Q .normal S else Q (.exit id) S)
  rw [Nat.beq_refl]; exact h
theorem B_exit_ne {id i : Nat} (hn : Nat.beq i id = false) (h : Q (.exit i) S) : blockQ id Q (.exit i) S := by
  show (bif Nat.beq i id then Q .normal S else Q (.exit i) S)
  rw [hn]; exact h

/-- One state is described by another one. -/
def Wk (X : Ctx) (S S' : St) : Prop := ∀ κ sv a w, Sim X κ sv S a w → ∃ κ' sv', Sim X κ' sv' S' a w
theorem Wk.refl (X : Ctx) (S : St) : Wk X S S := fun κ sv _ _ h => ⟨κ, sv, h⟩
theorem Wk.trans {S1 S2 S3 : St} (h : Wk X S1 S2) (h' : Wk X S2 S3) : Wk X S1 S3 := fun κ sv a w hs =>
  let ⟨κ', sv', hs'⟩ := h κ sv a w hs
  h' κ' sv' a w hs'
theorem W_wk {c : Code} {S' : St} (hw : Wk X S S') (h : W X c Q S') : W X c Q S := fun κ sv a w hs =>
  let ⟨κ', sv', hs'⟩ := hw κ sv a w hs
  h κ' sv' a w hs'
theorem WL_wk {ops : Array Oper} {l : List Oper} {S' : St} (hw : Wk X S S') (h : WL X ops l Q S') : WL X ops l Q S := fun κ sv a w hs =>
  let ⟨κ', sv', hs'⟩ := hw κ sv a w hs
  h κ' sv' a w hs'

/-- A loop: states in a family, with a measure that each round lowers. -/
theorem W_loop {c : Code} {α : Type} (F : α → St) (inv : α → Prop) (μ : α → Nat) (x0 : α) (h0 : inv x0) (hs : Wk X S (F x0))
    (round : ∀ x, inv x → W X c (thenQ (fun S' => ∃ x', inv x' ∧ μ x' < μ x ∧ Wk X S' (F x')) Q) (F x)) : W X (.loop c) Q S := by
  intro κ sv a w hsim
  have key : ∀ n x κ sv a w, inv x → μ x < n → Sim X κ sv (F x) a w → Code.roundsIn X.F 0 X.Z.P c (lift X Q) n a w := by
    intro n
    induction n with
    | zero => intro x κ sv a w _ h; omega
    | succ n ih =>
      intro x κ sv a w hi hm hx
      rw [roundsIn_succ]
      refine wpIn_mono (round x hi κ sv a w hx) ?_
      rintro e a' w' ⟨κ', sv', S', h1, h2⟩
      cases e with
      | normal =>
        obtain ⟨x', hi', hm', hw⟩ := h2
        obtain ⟨κ2, sv2, hx'⟩ := hw κ' sv' a' w' h1
        exact ih x' κ2 sv2 a' w' hi' (by omega) hx'
      | _ => exact ⟨κ', sv', S', h1, h2⟩
  obtain ⟨κ1, sv1, hx⟩ := hs κ sv a w hsim
  exact wpIn_loop_rounds (μ x0 + 1) (key _ x0 κ1 sv1 a w h0 (Nat.lt_succ_self _) hx)

theorem W_region {id : Nat} {l : List Oper} (h : WL X l.toArray l Q S) : W X (.region id l.toArray false) Q S := fun κ sv a w hs => wpIn_region_lit (h κ sv a w hs)
theorem WL_nil {ops : Array Oper} (h : Q .normal S) : WL X ops [] Q S := fun κ sv _ _ hs => wpListIn_nil ⟨κ, sv, S, hs, h⟩
end control

/-- An operand's abstract value. -/
def ofC : Value → D
  | .int k n => .int k n
  | .bool b => .bool b
  | .string s => .str s
  | .slice none 0 0 => .nil
  | _ => .undef
def ofV : Value → D
  | .agg cs => .agg (cs.toList.map ofC)
  | v => ofC v
def St.ev (S : St) (X : Ctx) : Operand → D
  | .tmp t => bif Nat.blt t X.nt then S.ρ t else .undef
  | .const v => ofV v
  | .global g => match X.Z.glob g with | some l => .rp l 0 | none => .undef
  | .func f => .fn f []

section
variable {X : Ctx} {κ : Nat → Nat → Option Value} {sv : Nat → Value} {S : St} {a : Act} {w : World}

theorem rep_ofC {γ : Nat → Nat} (v : Value) : Rep κ γ sv (ofC v) v := by
  unfold ofC
  split <;> first | exact .int _ _ | exact .bool _ | exact .str _ | exact .nil | exact .undef _
theorem rep_ofV {γ : Nat → Nat} (v : Value) : Rep κ γ sv (ofV v) v := by
  unfold ofV
  split
  · rename_i cs
    have : RepL κ γ sv (cs.toList.map ofC) cs.toList := by
      generalize cs.toList = l
      induction l with
      | nil => exact .nil
      | cons x l ih => exact .cons _ _ _ _ (rep_ofC x) ih
    have h := Rep.agg _ _ this
    simpa using h
  · exact rep_ofC _

theorem Sim.ev (h : Sim X κ sv S a w) (x : Operand) : Rep κ S.γ sv (S.ev X x) (a.eval x) := by
  cases x with
  | tmp t =>
    simp only [St.ev, Act.eval]
    cases hb : Nat.blt t X.nt with
    | false => exact .undef _
    | true => exact h.slot t (by simpa [Nat.blt_eq] using hb)
  | const v => exact rep_ofV v
  | func f => exact .fn f [] [] .nil
  | global g =>
    simp only [St.ev, Act.eval]
    cases hg : X.Z.glob g with
    | none => exact .undef _
    | some l =>
      obtain ⟨hc, u, h1, h2⟩ := h.wld.glob g l hg
      have := Rep.rp (κ := κ) (γ := S.γ) (sv := sv) l 0 g 0 u hc h1 (fun j v hj => by simpa using h2 j v hj)
      simpa using this

/-- The world's part goes by what the places own and how old they are, not by the slots. -/
theorem SimW.slots {S' : St} (h : SimW X κ sv S w) (hγ : S'.γ = S.γ) (hσ : S'.σ = S.σ) : SimW X κ sv S' w := by
  obtain ⟨h1, h2, h3, h4, h5, h6, h7, h8, h9, h10, h11, h12, h13, h14⟩ := h
  exact ⟨h1, by rw [hγ, hσ]; exact h2, by rw [hσ]; exact h3, by rw [hσ]; exact h4, by rw [hσ]; exact h5, by rw [hσ]; exact h6, by rw [hγ]; exact h7, h8, by rw [hγ]; exact h9, h10, by rw [hγ]; exact h11, h12, by rw [hσ]; exact h13, h14⟩

theorem getD_set (t : Array Value) (i j : Nat) (v d : Value) : (t.setIfInBounds i v).getD j d = if i = j ∧ j < t.size then v else t.getD j d := by
  simp only [Array.getD_eq_getD_getElem?, Array.getElem?_setIfInBounds]
  by_cases h : i = j
  · subst h
    by_cases h2 : i < t.size <;> simp [h2]
  · simp [h]

theorem Sim.put (h : Sim X κ sv S a w) (dst : Option Nat) {d : D} {v : Value} (hd : Rep κ S.γ sv d v) : Sim X κ sv (S.put dst d) (a.put dst v) w := by
  cases dst with
  | none => exact h
  | some i =>
    refine ⟨by simp [Act.put, h.size], h.defers.put (some i) v, fun j hj => ?_, h.wld.slots rfl rfl⟩
    simp only [St.put, St.set, Act.put, getD_set]
    by_cases e : i = j
    · subst e; rw [if_pos ⟨rfl, by rw [h.size]; exact hj⟩, upd_same]; exact hd
    · rw [if_neg (by intro h'; exact e h'.1), upd_ne _ _ _ _ (fun h' => e h'.symm)]; exact h.slot j hj

theorem Sim.putU (h : Sim X κ sv S a w) (dst : Option Nat) (v : Value) : Sim X κ sv (S.put dst .undef) (a.put dst v) w := h.put dst (.undef v)

/-- What was laid or drawn since. -/
theorem SimW.later {w' : World} (h : SimW X κ sv S w) (hb : Below w.heap.size w w') : SimW X κ sv S w' := by
  obtain ⟨h1, h2, h3, h4, h5, ⟨M, h6, h6'⟩, h7, h8, h9, h10, h11, h12, h13, h14⟩ := h
  refine ⟨fun b o v hk => ?_, fun s => ?_, h3, h4, h5, ⟨_, X.cl M w w' h6 ⟨hb.os, hb.tape, hb.output, hb.size, fun k hk _ => hb.block k hk⟩, fun s b h => .inl (h6' s b h)⟩, h7, h8, h9, Nat.le_trans h10 hb.size, h11, h12, h13, fun b h => Nat.lt_of_lt_of_le (h14 b h) hb.size⟩
  · have := h1 b o v hk
    exact (hb.cell (World.block_lt_of_cell? w _ this)).trans this
  · have := h2 s
    cases hs : S.σ s with
    | none => trivial
    | box l =>
      rw [hs] at this
      obtain ⟨b, T, cs, e1, e2, e3, e4⟩ := this
      refine ⟨b, T, cs, e1, ?_, e3, e4⟩
      rw [hb.block b (Array.getElem?_eq_some_iff.1 e2).1]; exact e2
    | arr T z n f =>
      rw [hs] at this
      obtain ⟨xs, e1, e2⟩ := this
      exact ⟨xs, e1.kept (row := none) ⟨hb.os, hb.tape, hb.output, hb.size, fun k hk _ => hb.block k hk⟩ (by cases (sv s).ownBlock <;> simp), e2⟩

theorem Sim.later {w' : World} (h : Sim X κ sv S a w) (hb : Below w.heap.size w w') : Sim X κ sv S a w' := ⟨h.size, h.defers.later hb, h.slot, h.wld.later hb⟩
theorem below_drew (w : World) : Below w.heap.size w { w with drawn := w.drawn + 1 } := ⟨rfl, rfl, rfl, Nat.le_refl _, fun _ _ => rfl⟩
end

/-- An operation that only reads: the same value in this world and in all that have more laid. -/
def QOp (X : Ctx) (o : Oper) (S : St) (d : D) : Prop := ∀ κ sv a w, Sim X κ sv S a w →
  ∃ v, Rep κ S.γ sv d v ∧ ∀ w', Below w.heap.size w w' → (execOp a.eval o).run X.Z.P w' = .ok (.value v) w'

section
variable {X : Ctx} {Q : Exit → St → Prop} {S : St} {ops : Array Oper} {o : Oper} {rest : List Oper}

theorem sem_of {ro : Option Nat} {ρ : Operand → Value} {P : Program} {w w' : World} {n : Next} (h : (execOp ρ o).run P w = .ok n w') (hn : ∀ d, n ≠ .defer d) : (o.semAt ro ρ).run P w = .ok n w' := by
  rw [Oper.semAt_eq]
  · exact h
  · intro c hc
    have : execOp ρ o = (do pure (.defer (← resolve ρ c o.type))) := by unfold execOp; rw [hc]
    rw [this] at h
    simp only [Sem.run_bind] at h
    cases hr : (resolve ρ c o.type).run P w with
    | ok d w1 => rw [hr] at h; simp at h; exact hn d h.1.symm
    | halt x w1 => rw [hr] at h; simp at h
theorem about_F {a : Act} {w : World} : ∀ f, o.about X.Z.P w a.eval = some f → X.F.fn f := fun _ _ => trivial
theorem op_val {a : Act} {w w' : World} {v : Value} {K : Act → World → Prop} {Qw : Exit → Act → World → Prop} (h : (execOp a.eval o).run X.Z.P w = .ok (.value v) w') (hk : K (a.put o.dst v) w') : o.wpIn X.F 0 X.Z.P a w K Qw := by
  refine ⟨about_F, ?_⟩
  rw [sem_of h (fun d => by simp)]; exact hk
theorem op_skip {a : Act} {w w' : World} {K : Act → World → Prop} {Qw : Exit → Act → World → Prop} (h : (execOp a.eval o).run X.Z.P w = .ok .skip w') (hk : K (a.put o.dst Go.undef) w') : o.wpIn X.F 0 X.Z.P a w K Qw := by
  refine ⟨about_F, ?_⟩
  rw [sem_of h (fun d => by simp)]; exact hk
theorem calls_F {n : Nat} {P : Program} {f : FuncId} {args : Array Value} {w : World} {R : Ending → World → Prop} (h : Calls P f args w R) : CallsIn X.F n P f args w R := by
  have h1 := callsIn_wide (n := n).2 h
  unfold Ctx.F
  cases X.ro with
  | none => exact h1
  | some l => exact CallsIn.inRound l h1
theorem op_call {a : Act} {w : World} {f : FuncId} {args : Array Value} {R : Ending → World → Prop} {K : Act → World → Prop} {Qw : Exit → Act → World → Prop} (h : (execOp a.eval o).run X.Z.P w = .ok (.enter f args) w) (hc : Calls X.Z.P f args w R)
    (hR : ∀ e w', R e w' → ∃ v, e = .returned v ∧ K (a.put o.dst v) w') : o.wpIn X.F 0 X.Z.P a w K Qw := by
  refine ⟨about_F, ?_⟩
  rw [sem_of h (fun d => by simp)]
  refine ⟨fun h => (by simp [Ctx.F, Fence.wide] at h), (calls_F hc).mono ?_⟩
  intro e w' hr
  obtain ⟨v, rfl, hk⟩ := hR e w' hr
  exact hk

theorem WL_q {d : D} {t : Nat} (hg : o.guard = none) (hd : o.dst = some t) (h : QOp X o S d) (hk : WL X ops rest Q (S.set t d)) : WL X ops (o :: rest) Q S := fun κ sv a w hs => by
  obtain ⟨v, h1, h2⟩ := h κ sv a w hs
  refine wpListIn_plain hg fun K hK => op_val (h2 w (Below.refl _ _)) ?_
  rw [hd]
  exact hK _ _ (hk κ sv _ _ (hs.put (some t) h1))

theorem wanted_of {κ : Nat → Nat → Option Value} {sv : Nat → Value} {a : Act} {w : World} (hs : Sim X κ sv S a w) {j t : Nat} {b c : Bool} (hg : o.guard = some (j, b))
    (hj : (ops[j]?).bind (·.dst) = some t) (hb : S.ev X (.tmp t) = .bool c) : Region.wanted o (yielded ops a.tmps) = (c == b) := by
  have h1 := hs.ev (.tmp t)
  rw [hb] at h1
  have h2 : a.tmps.getD t Go.undef = .bool c := by
    cases h : a.tmps.getD t Go.undef <;> simp only [Act.eval, h] at h1 <;> first | (cases h1; rfl) | cases h1
  have h3 : a.tmps[t]? = some (.bool c) := by
    rw [Array.getD_eq_getD_getElem?] at h2
    cases h : a.tmps[t]? with
    | none => rw [h] at h2; simp [Go.undef] at h2
    | some v => rw [h] at h2; simpa using h2
  unfold Region.wanted
  rw [hg]
  simp only [yielded, hj, Option.bind_some, h3]
  cases b <;> cases c <;> rfl

/-- A guard whose outcome is known. -/
theorem WL_yes {j t : Nat} {b : Bool} (hg : o.guard = some (j, b)) (hj : (ops[j]?).bind (·.dst) = some t) (hb : S.ev X (.tmp t) = .bool b)
    (hk : WL X ops ({ o with guard := none } :: rest) Q S) : WL X ops (o :: rest) Q S := fun κ sv a w hs => by
  have hw := wanted_of hs hg hj hb
  have h := hk κ sv a w hs
  unfold wpListIn at h ⊢
  rw [if_pos (by rw [hw]; simp)]
  rw [if_pos (by simp [Region.wanted])] at h
  exact h
theorem WL_no {j t : Nat} {b c : Bool} (hg : o.guard = some (j, b)) (hj : (ops[j]?).bind (·.dst) = some t) (hb : S.ev X (.tmp t) = .bool c) (hn : (c == b) = false) {t' : Nat} (hd : o.dst = some t')
    (hk : WL X ops rest Q (S.set t' .undef)) : WL X ops (o :: rest) Q S := fun κ sv a w hs => by
  have hw := wanted_of hs hg hj hb
  unfold wpListIn
  rw [if_neg (by rw [hw, hn]; simp)]
  rw [hd]
  exact ⟨about_F, hk κ sv _ w (hs.putU (some t') _)⟩
/-- A guard that must be told: in each way the slot holds what was told. -/
theorem WL_tell {j t : Nat} {b c : Bool} (_hg : o.guard = some (j, b)) (hj : (ops[j]?).bind (·.dst) = some t) (hb : S.ev X (.tmp t) = .bool c)
    (ht : c = true → WL X ops (o :: rest) Q (S.set t (.bool true))) (hf : c = false → WL X ops (o :: rest) Q (S.set t (.bool false))) : WL X ops (o :: rest) Q S := fun κ sv a w hs => by
  have h1 := hs.ev (.tmp t)
  rw [hb] at h1
  have same : ∀ d : D, d = .bool c → Sim X κ sv (S.set t d) a w := by
    intro d hd
    subst hd
    refine ⟨hs.size, hs.defers, fun i hi => ?_, hs.wld.slots rfl rfl⟩
    by_cases e : i = t
    · subst e; simp only [St.set, upd_same]; exact h1
    · simp only [St.set]; rw [upd_ne _ _ _ _ e]; exact hs.slot i hi
  cases c with
  | true => exact ht rfl κ sv a w (same _ rfl)
  | false => exact hf rfl κ sv a w (same _ rfl)

theorem W_condT {c : Operand} {x y : Code} (hc : S.ev X c = .bool true) (h : W X x Q S) : W X (.cond c x y) Q S := fun κ sv a w hs => by
  have h1 := hs.ev c
  rw [hc] at h1
  have : a.eval c = .bool true := by generalize a.eval c = v at h1; cases h1; rfl
  exact wpIn_cond_true this (h κ sv a w hs)
theorem W_condF {c : Operand} {x y : Code} (hc : S.ev X c = .bool false) (h : W X y Q S) : W X (.cond c x y) Q S := fun κ sv a w hs => by
  have h1 := hs.ev c
  rw [hc] at h1
  have : a.eval c = .bool false := by generalize a.eval c = v at h1; cases h1; rfl
  exact wpIn_cond_false this (h κ sv a w hs)
theorem W_cond {c : Operand} {b : Bool} {x y : Code} (hc : S.ev X c = .bool b) (ht : b = true → W X x Q S) (hf : b = false → W X y Q S) : W X (.cond c x y) Q S := by
  cases b with
  | true => exact W_condT hc (ht rfl)
  | false => exact W_condF hc (hf rfl)

end
end Go.Ab
