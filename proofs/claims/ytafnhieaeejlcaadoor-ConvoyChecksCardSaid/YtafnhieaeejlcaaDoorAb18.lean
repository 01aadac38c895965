/- The walk of an iterator: walks between the calls of yield, and what a call of yield does. -/
import Derived.Test.YtafnhieaeejlcaaDoorAb17
set_option linter.all false
namespace Go.Ab
open Go Go.RowKit

def itF (w : World) (J : (Nat → Prop) → World → Prop) (U : Nat → Prop) (M : Nat → Prop) (W : World) : Prop := ∃ T, J T W ∧ (∀ b, b < W.heap.size → M b → T b) ∧ (∀ b, w.heap.size ≤ b → b < W.heap.size → ¬ U b → T b)
theorem itF_cl {w : World} {J : (Nat → Prop) → World → Prop} {U : Nat → Prop} (hJ : ∀ T W W', J T W → Step T W W' → J (growT T W W') W') : ∀ M W W', itF w J U M W → Step M W W' → itF w J U (fun k => M k ∨ W.heap.size ≤ k) W' := by
  rintro M W W' ⟨T, h1, h2, h3⟩ hs
  refine ⟨growT T W W', hJ T W W' h1 ⟨hs.os, hs.tape, hs.output, hs.size, fun k hk hT => hs.block k hk (fun hm => hT (h2 k hk hm))⟩, fun b hb hM => ?_, fun b h4 h5 h6 => ?_⟩
  · by_cases e : b < W.heap.size
    · rcases hM with hM | hM
      · exact .inl (h2 b e hM)
      · omega
    · exact .inr ⟨by omega, hb⟩
  · by_cases e : b < W.heap.size
    · exact .inl (h3 b h4 e h6)
    · exact .inr ⟨by omega, h5⟩

structure Env where
  Z : Seat
  nt : Nat
  w : World
  κ : Nat → Nat → Option Value
  l : Nat
  n : Nat
  vals : Nat → List Value
  J : (Nat → Prop) → Nat → World → Prop
  Jx : (Nat → Prop) → Nat → World → Prop
  hJ : ∀ T k W W', J T k W → Step T W W' → J (growT T W W') k W'
  hJx : ∀ T k W W', Jx T k W → Step T W W' → Jx (growT T W W') k W'
  hY : ∀ T k W, J T k W → k < n → (∀ b o v, κ b o = some v → W.cell? ⟨b, o, none⟩ = some v) → YieldAt Fence.wide 0 Z.P l (vals k).toArray W fun e W' =>
      ((e = .returned (.bool true) ∧ J T (k + 1) W') ∨ (e = .returned (.bool false) ∧ Jx T (k + 1) W')) ∧ Kept T κ W W'
def Env.K (E : Env) (k : Nat) (s : Bool) (T : Nat → Prop) (W : World) : Prop := match s with | true => E.Jx T k W | false => E.J T k W
theorem Env.hK (E : Env) (k : Nat) (s : Bool) : ∀ T W W', E.K k s T W → Step T W W' → E.K k s (growT T W W') W' := by
  cases s
  · exact fun T W W' => E.hJ T k W W'
  · exact fun T W W' => E.hJx T k W W'
def Env.X (E : Env) (k : Nat) (s : Bool) (U : Nat → Prop) : Ctx := ⟨E.Z, E.nt, E.w, E.κ, none, E.κ, fun _ => 0, fun _ => Go.undef, U, true, none, itF E.w (E.K k s) U, itF_cl (E.hK k s)⟩

def liftI (E : Env) (Q : Nat → Bool → Exit → St → Prop) : Exit → Act → World → Prop := fun e a W => ∃ k s U κ sv S, Sim (E.X k s U) κ sv S a W ∧ Q k s e S
def WI (E : Env) (c : Code) (Q : Nat → Bool → Exit → St → Prop) (k : Nat) (s : Bool) (S : St) : Prop := ∀ U κ sv a W, Sim (E.X k s U) κ sv S a W → c.wpIn Fence.wide 0 E.Z.P (liftI E Q) a W
def WIL (E : Env) (ops : Array Oper) (l : List Oper) (Q : Nat → Bool → Exit → St → Prop) (k : Nat) (s : Bool) (S : St) : Prop := ∀ U κ sv a W, Sim (E.X k s U) κ sv S a W → wpListIn Fence.wide 0 E.Z.P ops (liftI E Q) l a W
section
variable {E : Env} {Q : Nat → Bool → Exit → St → Prop} {k : Nat} {s : Bool} {S S1 : St}
theorem WI_of {c : Code} (h : ∀ U, W (E.X k s U) c (Q k s) S) : WI E c Q k s S := fun U κ sv a W hs => by
  refine wpIn_mono (h U κ sv a W hs) ?_
  rintro e a' W' ⟨κ', sv', S', h1, h2⟩
  exact ⟨k, s, U, κ', sv', S', h1, h2⟩
def thenI (E : Env) (y : Code) (Q : Nat → Bool → Exit → St → Prop) : Nat → Bool → Exit → St → Prop
  | k, s, .normal, S => WI E y Q k s S
  | k, s, e, S => Q k s e S
def blockI (id : Nat) (Q : Nat → Bool → Exit → St → Prop) : Nat → Bool → Exit → St → Prop
  | k, s, .exit i, S => bif Nat.beq i id then Q k s .normal S else Q k s (.exit i) S
  | k, s, e, S => Q k s e S
theorem WI_seq {x y : Code} (h : WI E x (thenI E y Q) k s S) : WI E (.seq x y) Q k s S := fun U κ sv a W hs => by
  refine wpIn_seq (wpIn_mono (h U κ sv a W hs) ?_)
  rintro e a' W' ⟨k', s', U', κ', sv', S', h1, h2⟩
  cases e <;> first | exact h2 U' κ' sv' a' W' h1 | exact ⟨k', s', U', κ', sv', S', h1, h2⟩
theorem WI_block {id : Nat} {c : Code} (h : WI E c (blockI id Q) k s S) : WI E (.block id c) Q k s S := fun U κ sv a W hs => by
  refine wpIn_block (wpIn_mono (h U κ sv a W hs) ?_)
  rintro e a' W' ⟨k', s', U', κ', sv', S', h1, h2⟩
  cases e with
  | exit i =>
    simp only [Exit.inBlock]
    simp only [blockI] at h2
    split
    · rename_i e; subst e; rw [Nat.beq_refl] at h2; exact ⟨k', s', U', κ', sv', S', h1, h2⟩
    · rename_i e
      have : Nat.beq i id = false := by
        cases hb : Nat.beq i id
        · rfl
        · exact absurd (Nat.eq_of_beq_eq_true hb) e
      rw [this] at h2; exact ⟨k', s', U', κ', sv', S', h1, h2⟩
  | _ => exact ⟨k', s', U', κ', sv', S', h1, h2⟩
theorem WI_loop {c : Code} {α : Type} (F : α → Nat × Bool × St) (inv : α → Prop) (μ : α → Nat) (x0 : α) (h0 : inv x0) (hs : (F x0).1 = k ∧ (F x0).2.1 = s ∧ ∀ U, Wk (E.X k s U) S (F x0).2.2)
    (round : ∀ x, inv x → WI E c (fun k' s' e S' => match e with | .normal => ∃ x', inv x' ∧ μ x' < μ x ∧ (F x').1 = k' ∧ (F x').2.1 = s' ∧ ∀ U, Wk (E.X k' s' U) S' (F x').2.2 | e => Q k' s' e S') (F x).1 (F x).2.1 (F x).2.2) : WI E (.loop c) Q k s S := by
  intro U κ sv a W hsim
  have key : ∀ m x U κ sv a W, inv x → μ x < m → Sim (E.X (F x).1 (F x).2.1 U) κ sv (F x).2.2 a W → Code.roundsIn Fence.wide 0 E.Z.P c (liftI E Q) m a W := by
    intro m
    induction m with
    | zero => intro x U κ sv a W _ h; omega
    | succ m ih =>
      intro x U κ sv a W hi hm hx
      rw [roundsIn_succ]
      refine wpIn_mono (round x hi U κ sv a W hx) ?_
      rintro e a' W' ⟨k', s', U', κ', sv', S', h1, h2⟩
      cases e with
      | normal =>
        obtain ⟨x', hi', hm', rfl, rfl, hw⟩ := h2
        obtain ⟨κ2, sv2, hx'⟩ := hw U' κ' sv' a' W' h1
        exact ih x' U' κ2 sv2 a' W' hi' (by omega) hx'
      | _ => exact ⟨k', s', U', κ', sv', S', h1, h2⟩
  obtain ⟨e1, e2, e3⟩ := hs
  obtain ⟨κ1, sv1, hx⟩ := e3 U κ sv a W hsim
  subst e1 e2
  exact wpIn_loop_rounds (μ x0 + 1) (key _ x0 U κ1 sv1 a W h0 (Nat.lt_succ_self _) hx)
theorem WI_wk {c : Code} {S' : St} (hw : ∀ U, Wk (E.X k s U) S S') (h : WI E c Q k s S') : WI E c Q k s S := fun U κ sv a W hs =>
  let ⟨κ', sv', hs'⟩ := hw U κ sv a W hs
  h U κ' sv' a W hs'

/-- A list of operations in two parts. -/
theorem opIn_mono {F : Fence} {n : Nat} {P : Program} {o : Oper} {a : Act} {w : World} {K K' : Act → World → Prop} {Q1 Q2 : Exit → Act → World → Prop} (h : ∀ a w, K a w → K' a w) (hq : ∀ e a w, e ≠ .normal → Q1 e a w → Q2 e a w)
    (hh : o.wpIn F n P a w K Q1) : o.wpIn F n P a w K' Q2 := by
  unfold Oper.wpIn at *
  refine ⟨hh.1, ?_⟩
  have hh := hh.2
  generalize (o.semAt F.round a.eval).run P w = r at *
  have lo : LetsOut Q1 → LetsOut Q2 := fun ⟨a, w, h⟩ => ⟨a, w, hq _ _ _ (by simp) h⟩
  cases r with
  | ok x w' =>
    cases x <;> simp only [Oper.uponIn] at hh ⊢ <;>
      first
        | exact h _ _ hh
        | exact ⟨hh.1, CallsIn.mono hh.2 (fun e w'' he => by cases e <;> first | exact h _ _ he | exact hq _ _ _ (by simp) he | exact lo he)⟩
        | exact ⟨hh.1, RowsIn.mono hh.2 (fun _ _ he => h _ _ he)⟩
        | exact ⟨hh.1, RoundIn.mono hh.2 (fun e w'' he => by cases e <;> first | exact h _ _ he | exact hq _ _ _ (by simp) he | exact lo he)⟩
  | halt x w' => cases x <;> simp only [Oper.uponIn] at hh ⊢ <;> first | exact hq _ _ _ (by simp) hh | exact hh
theorem wpListIn_append {F : Fence} {n : Nat} {P : Program} {ops : Array Oper} {Q1 Q2 : Exit → Act → World → Prop} {l2 : List Oper} (hn : ∀ a w, Q1 .normal a w → wpListIn F n P ops Q2 l2 a w) (hq : ∀ e a w, e ≠ .normal → Q1 e a w → Q2 e a w) :
    ∀ (l1 : List Oper) (a : Act) (w : World), wpListIn F n P ops Q1 l1 a w → wpListIn F n P ops Q2 (l1 ++ l2) a w
  | [], a, w, h => hn a w h
  | o :: l1, a, w, h => by
    simp only [List.cons_append, wpListIn] at h ⊢
    split
    · rename_i hw
      rw [if_pos hw] at h
      exact opIn_mono (fun a w h => wpListIn_append hn hq l1 a w h) hq h
    · rename_i hw
      rw [if_neg hw] at h
      exact ⟨h.1, wpListIn_append hn hq l1 _ _ h.2⟩

theorem WI_region {id : Nat} {l : List Oper} (h : WIL E l.toArray l Q k s S) : WI E (.region id l.toArray false) Q k s S := fun U κ sv a W hs => wpIn_region_lit (h U κ sv a W hs)
theorem WIL_of {ops : Array Oper} {l : List Oper} (h : ∀ U, WL (E.X k s U) ops l (Q k s) S) : WIL E ops l Q k s S := fun U κ sv a W hs => by
  have := wpListIn_append (l2 := []) (Q2 := liftI E Q) (fun a w ⟨κ', sv', S', h1, h2⟩ => ⟨k, s, U, κ', sv', S', h1, h2⟩) (fun e a w _ ⟨κ', sv', S', h1, h2⟩ => ⟨k, s, U, κ', sv', S', h1, h2⟩) l a W (h U κ sv a W hs)
  rwa [List.append_nil] at this
/-- First a part that calls no yield. -/
theorem WIL_part {ops : Array Oper} (l1 l2 : List Oper) (h1 : ∀ U, WL (E.X k s U) ops l1 (fun e S' => e = .normal ∧ WIL E ops l2 Q k s S') S) : WIL E ops (l1 ++ l2) Q k s S := fun U κ sv a W hs =>
  wpListIn_append (fun a w ⟨κ', sv', S', h, _, h2⟩ => h2 U κ' sv' a w h) (fun e a w hne ⟨_, _, _, _, h, _⟩ => absurd h hne) l1 a W (h1 U κ sv a W hs)

/-- A call of yield. -/
theorem WIL_yield {ops : Array Oper} {o : Oper} {rest : List Oper} {x : Operand} {xs : Array Operand} {ts : Array TypeId} {d : Nat} {A : List D} (ho : o.op = .call { callee := .value x, args := xs, argTypes := ts }) (hg : o.guard = none) (hd : o.dst = some d)
    (hx : S.ev (E.X k false fun _ => False) x = .yl E.l) (hA : xs.toList.map (S.ev (E.X k false fun _ => False)) = A) (hv : scalL2 A = some (E.vals k)) (hk : k < E.n)
    (hT : WIL E ops rest Q (k + 1) false (S.set d (.bool true))) (hF : WIL E ops rest Q (k + 1) true (S.set d (.bool false))) : WIL E ops (o :: rest) Q k false S := fun U κ' sv a W hs => by
  obtain ⟨M, ⟨T, t1, t2, t3⟩, hown⟩ := hs.wld.frame
  have hκ : ∀ b o v, E.κ b o = some v → W.cell? ⟨b, o, none⟩ = some v := fun b o v hb => hs.wld.imm b o v (hs.wld.le.cells b o v hb)
  obtain ⟨fn, tmps, assign, body, y1, y2⟩ := E.hY T k W t1 hk hκ
  have hxv : a.eval x = .func (.yield E.l) #[] #[] := by
    have := hs.ev x
    have h2 : S.ev (E.X k false U) x = .yl E.l := hx
    rw [h2] at this
    generalize a.eval x = v at this
    cases this; rfl
  have hav : (xs.map a.eval) = (E.vals k).toArray := by
    have h1 := evs_rep hs xs.toList
    have h2 : xs.toList.map (S.ev (E.X k false U)) = A := hA
    rw [h2] at h1
    have h3 := scalL2_eq hv h1
    rw [← h3]; simp [← Array.toList_map]
  have hrun : (execOp a.eval o).run E.Z.P W = .ok (.round E.l fn tmps assign body) W := by
    have h4 : execOp a.eval o = Instr.yield E.l (xs.map a.eval) := by
      unfold execOp; rw [ho]; simp [resolve, Deferred.ofValue, hxv, invoke]
    rw [h4, hav]; exact y1
  refine wpListIn_plain hg fun K hK => ⟨fun _ _ => trivial, ?_⟩
  rw [show Fence.wide.round = none from rfl, Oper.semAt_none, hrun]
  refine ⟨fun h => (by simp [Fence.wide] at h), y2.mono ?_⟩
  rintro e W' ⟨hor, hkept⟩
  let U' : Nat → Prop := fun b => U b ∨ (W.heap.size ≤ b ∧ b < W'.heap.size)
  have hlt : ∀ b o v, κ' b o = some v → b < W.heap.size := fun b o v hb => by have := World.block_lt_of_cell? W _ (hs.wld.imm b o v hb); simpa using this
  have same : ∀ b o v, κ' b o = some v → W'.cell? ⟨b, o, none⟩ = some v := by
    intro b o v hb
    by_cases e : b < E.w.heap.size
    · exact hkept.cell b o v (hs.wld.old b o v e hb)
    · have hT : T b := t3 b (by omega) (hlt b o v hb) (hs.wld.aw1 b o v hb)
      rw [World.cell?_of_block (hkept.mine b hT)]; exact hs.wld.imm b o v hb
  have goon : ∀ (s' : Bool), E.K (k + 1) s' T W' → SimW (E.X (k + 1) s' U') κ' sv S W' := fun s' hK' => by
    obtain ⟨h1, h2, h3, h4, h5, _, h7, h8, h9, h10, h11, h12, h13, h14⟩ := hs.wld
    refine ⟨same, fun t => owns_mono (Le.refl _ _ _) rfl (fun b hb => hkept.mine b (t2 b (owns_lt (h2 t) hb) (hown t b hb))) (h2 t), h3, h4, h5,
      ⟨fun b => M b ∧ b < W.heap.size, ⟨T, hK', fun b _ hM => t2 b hM.2 hM.1, fun b e1 e2 e3 => ?_⟩, fun t b hb => ⟨hown t b hb, owns_lt (h2 t) hb⟩⟩, h7, h8, h9, Nat.le_trans h10 hkept.size, h11, fun b o v hb hU => ?_, fun t b hb hU => ?_, fun b hU => ?_⟩
    · by_cases e : b < W.heap.size
      · exact t3 b e1 e (fun h => e3 (.inl h))
      · exact absurd (.inr ⟨by omega, e2⟩) e3
    · rcases hU with hU | ⟨hU, _⟩
      · exact h12 b o v hb hU
      · have := hlt b o v hb; omega
    · rcases hU with hU | ⟨hU, _⟩
      · exact h13 t b hb hU
      · have := owns_lt (h2 t) hb; omega
    · rcases hU with hU | ⟨_, hU⟩
      · exact Nat.lt_of_lt_of_le (h14 b hU) hkept.size
      · exact hU
  have dfr : ∀ s', Dfr (E.X (k + 1) s' U').nd (E.X (k + 1) s' U').w0.heap.size a W' := fun s' => by
    obtain ⟨Ds, e1, e2, e3, e4⟩ := hs.defers
    have : Ds = [] := e4 rfl
    subst this
    exact .nil (by simpa using e1)
  rcases hor with ⟨rfl, hJ⟩ | ⟨rfl, hJ⟩
  · show K (a.put o.dst (.bool true)) W'
    rw [hd]
    have h1 : Sim (E.X (k + 1) false U') κ' sv S a W' := ⟨hs.size, dfr false, hs.slot, goon false hJ⟩
    exact hK _ _ (hT U' κ' sv _ W' (h1.put (some d) (.bool true)))
  · show K (a.put o.dst (.bool false)) W'
    rw [hd]
    have h1 : Sim (E.X (k + 1) true U') κ' sv S a W' := ⟨hs.size, dfr true, hs.slot, goon true hJ⟩
    exact hK _ _ (hF U' κ' sv _ W' (h1.put (some d) (.bool false)))
end

/-- An iterator's contract, out of its walk. -/
theorem itC_intro {Z : Seat} {f : FuncId} {fn : Func} {c : Code} {cap : List D} {n : Nat} {vals : Nat → List Value} (hf : Z.P.funcs[f]? = some fn) (hb : fn.body = some c) (hname : (fn.name == "runtime.NumGoroutine") = false) (hn : Nat.ble (cap.length + 1) fn.ntmps = true) (hA : PureL cap) (hres : fn.results = #[])
    (h : ∀ E : Env, E.Z = Z → E.nt = fn.ntmps → E.n = n → E.vals = vals → WI E c (fun k s e _ => (e = .normal ∨ e = .ret) ∧ (s = false → k = n) ∧ k ≤ n) 0 false (St.init (.yl E.l :: cap))) : ItC Z f cap n vals := by
  refine ⟨⟨fn, c, hf, hb, hname⟩, hA, fun w κ lb hκ hglob hrep l J Jx hJ hJx hY h0 => ?_⟩
  refine callsIn_of_wp_marks hf hb trivial ?_ rfl
  have hlen : cap.length + 1 ≤ fn.ntmps := Nat.le_of_ble_eq_true hn
  have hal := hrep.length
  let E : Env := ⟨Z, fn.ntmps, w, κ, l, n, vals, J, Jx, hJ, hJx, hY⟩
  have hrep' : RepL κ γ0 sv0 (.yl l :: cap) (Value.func (.yield l) #[] #[] :: lb) := .cons _ _ _ _ (.yl _) hrep
  have hsim : Sim (E.X 0 false fun _ => False) κ sv0 (St.init (.yl l :: cap)) { tmps := (Value.func (.yield l) #[] #[] :: lb).toArray ++ Array.replicate (fn.ntmps - (Value.func (.yield l) #[] #[] :: lb).toArray.size) Go.undef, defers := [] } w := by
    refine ⟨by simp [Env.X, E]; omega, Dfr.nil rfl, fun i _ => slot_init hrep' _ i, ?_⟩
    exact ⟨hκ, fun _ => trivial, (fun s t b hs => by cases hs), (fun s b o hs => by cases hs), (fun s b hs => by cases hs), ⟨fun _ => False, ⟨fun _ => False, h0, fun _ _ h => h, fun b h1 h2 _ => by have h1 : w.heap.size ≤ b := h1; omega⟩, fun s b hs => by cases hs⟩, hglob, fun b o v _ hk => hk, (fun b hb => by cases hb), Nat.le_refl _,
      ⟨fun _ _ _ h => h, fun _ => Nat.zero_le _, fun _ _ => rfl⟩, fun _ _ _ _ h => h, fun _ _ _ h => h, fun _ h => h.elim⟩
  refine wpIn_mono (h E rfl rfl rfl rfl _ κ sv0 _ w hsim) ?_
  rintro e a' W' ⟨k, s, U, κ', sv', S', hs, he, hk, hk2⟩
  obtain ⟨Ds, e1, _, _, e4⟩ := hs.defers
  have : Ds = [] := e4 rfl
  subst this
  have hd : a'.defers = [] := by simpa using e1
  obtain ⟨M, ⟨T, t1, _⟩, _⟩ := hs.wld.frame
  have fin : LeavesInM Fence.wide 0 Z.P fn a'.tmps (fun e W' => (∃ v, e = .returned v) ∧ ((∃ T, J T n W') ∨ (∃ T k, k ≤ n ∧ Jx T k W'))) a'.defers .returning W' := by
    rw [hd]
    refine ⟨.tuple #[], by simp [results, hres], ⟨_, rfl⟩, ?_⟩
    cases s with
    | false => rw [← hk rfl]; exact .inl ⟨T, t1⟩
    | true => exact .inr ⟨T, k, hk2, t1⟩
  rcases he with rfl | rfl <;> exact fin
section
variable {E : Env} {Q : Nat → Bool → Exit → St → Prop} {k : Nat} {s : Bool} {S : St}
theorem WI_ofR {id : Nat} {ops : Array Oper} {b : Bool} (h : ∀ U, W (E.X k s U) (.region id ops b) (Q k s) S) : WI E (.region id ops b) Q k s S := WI_of h
theorem WI_ofC {c : Operand} {x y : Code} (h : ∀ U, W (E.X k s U) (.cond c x y) (Q k s) S) : WI E (.cond c x y) Q k s S := WI_of h
theorem TI_normal {y : Code} (h : WI E y Q k s S) : thenI E y Q k s .normal S := h
theorem TI_exit {y : Code} {i : Nat} (h : Q k s (.exit i) S) : thenI E y Q k s (.exit i) S := h
theorem TI_ret {y : Code} (h : Q k s .ret S) : thenI E y Q k s .ret S := h
theorem BI_normal {id : Nat} (h : Q k s .normal S) : blockI id Q k s .normal S := h
theorem BI_ret {id : Nat} (h : Q k s .ret S) : blockI id Q k s .ret S := h
theorem BI_exit_eq {id : Nat} (h : Q k s .normal S) : blockI id Q k s (.exit id) S := by
  show (bif Nat.beq id id then Q k s .normal S else Q k s (.exit id) S)
  rw [Nat.beq_refl]; exact h
theorem BI_exit_ne {id i : Nat} (hn : Nat.beq i id = false) (h : Q k s (.exit i) S) : blockI id Q k s (.exit i) S := by
  show (bif Nat.beq i id then Q k s .normal S else Q k s (.exit i) S)
  rw [hn]; exact h
theorem WIL_split {ops : Array Oper} {l : List Oper} (n : Nat) (h1 : ∀ U, WL (E.X k s U) ops (l.take n) (fun e S' => e = .normal ∧ WIL E ops (l.drop n) Q k s S') S) : WIL E ops l Q k s S := by
  have := WIL_part (l.take n) (l.drop n) h1
  rwa [List.take_append_drop] at this
theorem WI_skip (h : Q k s .normal S) : WI E .skip Q k s S := fun U κ sv _ _ hs => wpIn_skip ⟨k, s, U, κ, sv, S, hs, h⟩
theorem WI_exit {id : Nat} (h : Q k s (.exit id) S) : WI E (.exit id) Q k s S := fun U κ sv _ _ hs => wpIn_exit ⟨k, s, U, κ, sv, S, hs, h⟩
theorem WI_ret (h : Q k s .ret S) : WI E .ret Q k s S := fun U κ sv _ _ hs => wpIn_ret ⟨k, s, U, κ, sv, S, hs, h⟩
/-- A loop of which only what varies is written. -/
theorem WI_loopK {c : Code} {α : Type} (kr kp : List Nat) (ki : α → Nat × Bool) (rs : α → List (Nat × D)) (gs : α → List (Nat × Nat)) (os : α → List (Nat × Own)) (inv : α → Prop) (μ : α → Nat) (x0 : α) (h0 : inv x0) (hk : ki x0 = (k, s)) (hs : AllE S.ρ (rs x0) ∧ AllE S.γ (gs x0) ∧ AllE S.σ (os x0))
    (round : ∀ x h, inv x → WI E c (fun k' s' e S' => match e with | .normal => ∃ x', inv x' ∧ μ x' < μ x ∧ ki x' = (k', s') ∧ ∀ U, ReachK (E.X k' s' U) S S' kr kp (rs x') (gs x') (os x') | e => Q k' s' e S') (ki x).1 (ki x).2 (mkK S kr kp (rs x) (gs x) (os x) h)) : WI E (.loop c) Q k s S := by
  refine WI_loop (α := α × (Nat → Nat)) (fun x => ((ki x.1).1, (ki x.1).2, mkK S kr kp (rs x.1) (gs x.1) (os x.1) x.2)) (fun x => inv x.1) (fun x => μ x.1) (x0, S.γ) h0
    ⟨by rw [hk], by rw [hk], fun U => wk_mk ⟨allE_append hs.1 (keepR_ok S kr), allE_append hs.2.1 (keepG_ok S kp), allE_append hs.2.2 (keepO_ok S kp)⟩⟩ (fun x hi => ?_)
  intro U κ sv a W hsim
  refine wpIn_mono (round x.1 x.2 hi U κ sv a W hsim) ?_
  rintro e a' W' ⟨k', s', U', κ', sv', S', h1, h2⟩
  cases e with
  | normal =>
    obtain ⟨x', i1, i2, i3, i4⟩ := h2
    obtain ⟨S'', w1, w2⟩ := i4 U'
    obtain ⟨κ2, sv2, h3⟩ := w1 κ' sv' a' W' h1
    exact ⟨k', s', U', κ2, sv2, S'', h3, (x', S''.γ), i1, i2, by rw [i3], by rw [i3], fun U2 => wk_mk (matchK_match w2)⟩
  | _ => exact ⟨k', s', U', κ', sv', S', h1, h2⟩
end
section
variable {X : Ctx} {S : St}
theorem bq_now {S' : St} {kp : List Nat} {gs : List (Nat × Nat)} {os : List (Nat × Own)} {Qx : Code → St → Prop} (h : AllE S'.γ gs ∧ AllE S'.σ os ∧ KeepP S S' kp) : bodyQ X S kp gs os Qx .normal S' := ⟨S', Wk.refl _ _, h.1, h.2.1, h.2.2⟩
theorem bq_wk {S' S'' : St} {kp : List Nat} {gs : List (Nat × Nat)} {os : List (Nat × Own)} {Qx : Code → St → Prop} (hw : Wk X S' S'') (h : bodyQ X S kp gs os Qx .normal S'') : bodyQ X S kp gs os Qx .normal S' :=
  let ⟨T, h1, h2⟩ := h
  ⟨T, hw.trans h1, h2⟩
theorem q_asU {o : Oper} {x : Operand} (ho : o.op = .assign x) (hd : S.ev X x = .undef) : QOp X o S .undef := q_assign ho hd
theorem q_mvU {o : Oper} {x : Operand} (ho : o.op = .move x) (hd : S.ev X x = .undef) : QOp X o S .undef := q_move ho hd
theorem fin_Fn {rs : List ResultVar} {t : Nat} {f : FuncId} {c c' : List D} (hr : rs = [.tmp t]) (h : S.ev X (.tmp t) = .fn f c) (e : c = c') : FinQ X rs (.fn f c') .ret S := ⟨[.fn f c], by rw [hr]; exact ⟨h, trivial⟩, by rw [e]; rfl⟩
theorem q_mvYl {o : Oper} {x : Operand} {l : Nat} (ho : o.op = .move x) (hd : S.ev X x = .yl l) : QOp X o S (.yl l) := q_move ho hd
/-- A box that a function value has captured is never written again. -/
theorem wk_freeze_cap (i j : Nat) {s g o : Nat} {f : FuncId} {c c' l : List D} (hX : X.ext = none) (h : S.ρ i = .fn f c) (hj : nth c j = some (.bx s g o)) (hg : S.γ s = g) (hσ : S.σ s = .box l) (hc' : overN c j [.rp l o] = some c') :
    Wk X S ⟨upd S.ρ i (.fn f c'), S.γ, upd S.σ s .none⟩ := fun κ sv a w hs => by
  have hle := freeze_le hs.wld s
  obtain ⟨rfl, hlen⟩ := overN_eq hc'
  have hnew : ∀ b, blk (S.σ s) (sv s) = some b → X.w0.heap.size ≤ b := fun b hb => (hs.wld.frsh s b hb).resolve_right (by rw [hX]; simp)
  refine ⟨_, sv, ⟨hs.size, hs.defers, fun k hk => ?_, hs.wld.freeze s hnew _⟩⟩
  by_cases e : k = i
  · subst e
    simp only [upd_same]
    have h1 := hs.slot k hk
    rw [h] at h1
    generalize a.tmps.getD k Go.undef = v at h1
    cases h1 with
    | fn _ _ vs hl =>
      rw [nth_eq] at hj
      obtain ⟨vj, hvj, hrj⟩ := hl.get hj
      have hjl : j < vs.length := (List.getElem?_eq_some_iff.1 hvj).1
      have hvs : vs = vs.take j ++ [vj] ++ vs.drop (j + 1) := by
        have h3 : vs[j] = vj := by simpa [List.getElem?_eq_getElem hjl] using hvj
        rw [← h3, List.append_assoc, List.singleton_append, List.getElem_cons_drop, List.take_append_drop]
      rw [hvs]
      refine .fn _ _ _ ((((hl.take j).mono hle).append (.cons _ _ _ _ ?_ .nil)).append ((hl.drop _).mono hle))
      have hown := hs.wld.own s
      rw [hσ] at hown
      obtain ⟨b, T, cs, e1, e2, e3, e4⟩ := hown
      cases hrj with
      | bx _ _ _ _ _ hh _ =>
        obtain ⟨b', h5, h6⟩ := hh hg.symm
        rw [e1] at h5
        simp only [Value.pointer.injEq, Option.some.injEq, Addr.mk.injEq, and_true] at h5
        subst h5
        rw [h6]
        have := Rep.rp (κ := fun b o => if blk (S.σ s) (sv s) = some b then w.cell? ⟨b, o, none⟩ else κ b o) (γ := S.γ) (sv := sv) l o b 0 cs e4 (e3.mono hle) (fun j v hj => by
          have hb : blk (S.σ s) (sv s) = some b := by rw [hσ, e1]; rfl
          simp only [hb, if_true]
          rw [cell_of_row w b _ _ _ _ e2, Nat.zero_add]; simpa using hj)
        simpa using this
  · simp only [upd_ne _ _ _ _ e]; exact (hs.slot k hk).mono hle
end
end Go.Ab
