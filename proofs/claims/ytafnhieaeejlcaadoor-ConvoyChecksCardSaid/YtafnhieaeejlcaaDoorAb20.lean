/- Functions that hand back a slice of their own, which the caller may write. -/
import Derived.Test.YtafnhieaeejlcaaDoorAb19
set_option linter.all false
namespace Go.Ab
open Go Go.RowKit

/- The slice that is handed back stands as .os 0 1. -/
mutual
def renO (p g : Nat) : D → D
  | .os _ _ => .os p g
  | .agg l => .agg (renL p g l)
  | d => d
def renL (p g : Nat) : List D → List D
  | [] => []
  | d :: l => renO p g d :: renL p g l
end
mutual
inductive PO : D → Prop
  | pure (d : D) : Pure d → PO d
  | os (s g : Nat) : PO (.os s g)
  | agg (l : List D) : POL l → PO (.agg l)
inductive POL : List D → Prop
  | nil : POL []
  | cons (d : D) (l : List D) : PO d → POL l → POL (d :: l)
end
theorem renO_pure : ∀ {d : D} {p g : Nat}, (∀ l, d ≠ .agg l) → (∀ s g, d ≠ .os s g) → renO p g d = d := by
  intro d p g h1 h2
  cases d <;> first | rfl | exact absurd rfl (h1 _) | exact absurd rfl (h2 _ _)
section
variable {κ κ' : Nat → Nat → Option Value} {γ γ' : Nat → Nat} {sv sv' : Nat → Value}
mutual
theorem rep_ren (hκ : ∀ b o v, κ b o = some v → κ' b o = some v) {p g p' g' : Nat} (hg : γ p = g) (hg' : γ' p' = g') (hv : sv' p' = sv p) : ∀ {d : D} {v : Value}, PO d → Rep κ γ sv (renO p g d) v → Rep κ' γ' sv' (renO p' g' d) v
  | .os s0 g0, v, _, hr => by
    simp only [renO] at hr ⊢
    cases hr with
    | os _ _ _ h1 h2 h3 => exact .os _ _ _ (Nat.le_of_eq hg'.symm) (fun _ => by rw [hv]; exact h2 hg.symm) h3
  | .agg l, v, hp, hr => by
    simp only [renO] at hr ⊢
    cases hr with
    | agg _ vs hl => exact .agg _ _ (repL_ren hκ hg hg' hv (by
        cases hp with
        | pure _ hp => exact pol_of (by cases hp; assumption)
        | agg _ hp => exact hp) hl)
  | .int k n, v, hp, hr => by cases hr; exact .int _ _
  | .bool b, v, hp, hr => by cases hr; exact .bool _
  | .str s, v, hp, hr => by cases hr; exact .str _
  | .tup l, v, hp, hr => by cases hp with | pure _ hp => exact Rep.pure hκ hr hp
  | .sl z n f, v, hp, hr => by cases hp with | pure _ hp => exact Rep.pure hκ hr hp
  | .nil, v, hp, hr => by cases hr; exact .nil
  | .rp l o, v, hp, hr => by cases hp with | pure _ hp => exact Rep.pure hκ hr hp
  | .bx s g o, v, hp, hr => by cases hp with | pure _ hp => cases hp
  | .op s g z i o, v, hp, hr => by cases hp with | pure _ hp => cases hp
  | .fn f c, v, hp, hr => by cases hp with | pure _ hp => exact Rep.pure hκ hr hp
  | .yl l, v, hp, hr => by cases hr; exact .yl _
  | .mf f c, v, hp, hr => by cases hp with | pure _ hp => exact Rep.pure hκ hr hp
  | .undef, v, _, _ => .undef v
theorem repL_ren (hκ : ∀ b o v, κ b o = some v → κ' b o = some v) {p g p' g' : Nat} (hg : γ p = g) (hg' : γ' p' = g') (hv : sv' p' = sv p) : ∀ {l : List D} {vs : List Value}, POL l → RepL κ γ sv (renL p g l) vs → RepL κ' γ' sv' (renL p' g' l) vs
  | [], vs, _, hr => by simp only [renL] at hr ⊢; cases hr; exact .nil
  | d :: l, vs, hp, hr => by
    simp only [renL] at hr ⊢
    cases hr with
    | cons _ v _ vs h1 h2 =>
      cases hp with
      | cons _ _ p1 p2 => exact .cons _ _ _ _ (rep_ren hκ hg hg' hv p1 h1) (repL_ren hκ hg hg' hv p2 h2)
theorem pol_of : ∀ {l : List D}, (∀ d ∈ l, Pure d) → POL l
  | [], _ => .nil
  | d :: l, h => .cons d l (.pure d (h d (List.mem_cons_self ..))) (pol_of fun x hx => h x (List.mem_cons_of_mem _ hx))
end
end

structure ContractO (Z : Seat) (f : FuncId) (A : List D) (R : D) (E z n : Nat) (el : Nat → List D) : Prop where
  pureA : PureL A
  poR : PO R
  pureE : ∀ i, i < n → PureL (el i)
  body : HasBody Z.P f
  calls : ∀ (w : World) (κ : Nat → Nat → Option Value) (args : List Value), Fits κ w → GlobOk Z κ → RepL κ γ0 sv0 A args →
    Calls Z.P f args.toArray w fun e w' => ∃ v sl κ', e = .returned v ∧ Rep κ' (fun _ => 1) (fun _ => sl) (renO 0 1 R) v ∧ (∀ b o u, κ b o = some u → κ' b o = some u) ∧ (∀ b o u, b < w.heap.size → κ' b o = some u → κ b o = some u) ∧
      (∀ b o u, κ' b o = some u → w'.cell? ⟨b, o, none⟩ = some u) ∧ sl.oneCell' = true ∧ Owns w.heap.size κ' (fun _ => 1) (fun _ => sl) w' 0 (.arr E z n el) ∧ (∀ b, blk (.arr E z n el) sl = some b → ∀ o, κ' b o = none) ∧ Below w.heap.size w w'

def FinO (X : Ctx) (rs : List ResultVar) (R : D) (E z n : Nat) (el : Nat → List D) : Exit → St → Prop
  | .normal, S | .ret, S => ∃ s g, S.γ s = g ∧ S.σ s = .arr E z n el ∧ ∃ ds, ResL X S rs ds ∧ tupOf ds = renO s g R
  | _, _ => False
theorem contractO_intro {Z : Seat} {f : FuncId} {fn : Func} {c : Code} {A : List D} {R : D} {E z n : Nat} {el : Nat → List D} (hf : Z.P.funcs[f]? = some fn) (hb : fn.body = some c) (hname : (fn.name == "runtime.NumGoroutine") = false) (hn : Nat.ble A.length fn.ntmps = true) (hA : PureL A) (hR : PO R) (hE : ∀ i, i < n → PureL (el i))
    (h : ∀ w κ, W (Ctx.plain Z fn.ntmps w κ none) c (FinO (Ctx.plain Z fn.ntmps w κ none) fn.results.toList R E z n el) (St.init A)) : ContractO Z f A R E z n el := by
  refine ⟨hA, hR, hE, ⟨fn, c, hf, hb, hname⟩, fun w κ args hκ hglob hrep => ?_⟩
  refine (callsIn_wide (n := 0)).1 (callsIn_of_wp_marks hf hb trivial ?_ rfl)
  have hlen : A.length ≤ fn.ntmps := Nat.le_of_ble_eq_true hn
  have hal := hrep.length
  have hsim : Sim (Ctx.plain Z fn.ntmps w κ none) κ sv0 (St.init A) { tmps := args.toArray ++ Array.replicate (fn.ntmps - args.toArray.size) Go.undef, defers := [] } w := by
    refine ⟨by simp [Ctx.plain]; omega, Dfr.nil rfl, fun i _ => slot_init hrep _ i, ?_⟩
    exact ⟨hκ, fun _ => trivial, (fun s t b hs => by cases hs), (fun s b o hs => by cases hs), (fun s b hs => by cases hs), ⟨fun _ => False, ⟨Frame.refl _ _, fun _ h => h.elim⟩, fun s b hs => by cases hs⟩, hglob, fun b o v _ hk => hk, (fun b hb => by cases hb), Nat.le_refl _, ⟨fun _ _ _ h => (by cases h), fun _ => Nat.zero_le _, fun _ _ => rfl⟩, fun _ _ _ _ h => h, fun _ _ _ h => h, fun _ h => h.elim⟩
  refine wpIn_mono (h w κ κ sv0 _ w hsim) ?_
  rintro e a' w' ⟨κ', sv', S', hs, hq⟩
  cases e <;> first | exact hq.elim | skip
  all_goals
    obtain ⟨s, g, hg, hσ, ds, hd, hren⟩ := hq
    obtain ⟨Ds, d1, d2, d3, _⟩ := hs.defers
    show LeavesInM _ _ _ _ _ _ a'.defers _ _
    rw [d1]
    refine leaves_of rfl rfl hd (fun a w' v hs h2 => ?_) Ds a' w' hs d1 d2 d3
    rw [hren] at h2
    obtain ⟨M, h1, _⟩ := hs.wld.frame
    have hown := hs.wld.own s
    rw [hσ] at hown
    have hk : ∀ b o u, κ' b o = some u → (fun b o => if b < w.heap.size then κ b o else κ' b o) b o = some u := fun b o u hu => by
      simp only
      split
      · exact hs.wld.old b o u (by assumption) hu
      · exact hu
    have hsl : (sv' s).oneCell' = true := by
      obtain ⟨xs, e1, _⟩ := hown
      rcases e1.2 with ⟨hv, _⟩ | ⟨b, cap, cur, hv, _⟩ <;> rw [hv] <;> rfl
    refine ⟨v, sv' s, fun b o => if b < w.heap.size then κ b o else κ' b o, rfl, rep_ren (p := s) (g := g) (p' := 0) (g' := 1) (γ' := fun _ => 1) (sv' := fun _ => sv' s) hk hg rfl rfl hR h2, fun b o u hu => ?_, fun b o u hb hu => ?_, fun b o u hu => ?_, hsl, ?_, fun b hb o => ?_, h1.1.below⟩
    · have : b < w.heap.size := by have := World.block_lt_of_cell? w _ (hκ b o u hu); simpa using this
      simp only; rw [if_pos this]; exact hu
    · simp only at hu; rw [if_pos hb] at hu; exact hu
    · simp only at hu
      split at hu
      · rename_i hb
        have h3 := hκ b o u hu
        rw [h1.1.below.cell (by simpa using hb)]; exact h3
      · exact hs.wld.imm b o u hu
    · obtain ⟨xs, e1, e2, e3, e4⟩ := hown
      exact ⟨xs, e1, e2, e3, fun i hi => (e4 i hi).pure hk (hE i hi)⟩
    · have hbk : blk (S'.σ s) (sv' s) = some b := by rw [hσ]; exact hb
      have h3 := hs.wld.frsh s b hbk
      have h4 : w.heap.size ≤ b := h3.resolve_right (fun h => by cases h)
      simp only; rw [if_neg (by omega)]
      exact hs.wld.sep s b o hbk

section
variable {X : Ctx} {κ κ' : Nat → Nat → Option Value} {sv : Nat → Value} {S : St} {w w' : World}
/-- What a callee has handed back becomes the caller's own. -/
theorem SimW.adopt (h : SimW X κ sv S w) (hb : Below w.heap.size w w') (k1 : ∀ b o u, κ b o = some u → κ' b o = some u) (k2 : ∀ b o u, b < w.heap.size → κ' b o = some u → κ b o = some u) (k3 : ∀ b o u, κ' b o = some u → w'.cell? ⟨b, o, none⟩ = some u)
    (p : Nat) (ow : Own) (sl : Value) (hnew : ∀ b, blk ow sl = some b → w.heap.size ≤ b ∧ b < w'.heap.size ∧ ∀ o, κ' b o = none) (ho : Owns X.w0.heap.size κ' (upd S.γ p (S.γ p + 1)) (upd sv p sl) w' p ow) (ρ' : Nat → D) :
    SimW X κ' (upd sv p sl) ⟨ρ', upd S.γ p (S.γ p + 1), upd S.σ p ow⟩ w' := by
  have hle : Le κ κ' S.γ (upd S.γ p (S.γ p + 1)) sv (upd sv p sl) := by
    obtain ⟨a, b, c⟩ := le_renew κ S.γ sv p sl
    exact ⟨k1, b, c⟩
  have hbk : ∀ t b, blk (upd S.σ p ow t) (upd sv p sl t) = some b → (t = p ∧ blk ow sl = some b) ∨ (t ≠ p ∧ blk (S.σ t) (sv t) = some b) := by
    intro t b hb
    by_cases e : t = p
    · subst e; rw [upd_same, upd_same] at hb; exact .inl ⟨rfl, hb⟩
    · rw [upd_ne _ _ _ _ e, upd_ne _ _ _ _ e] at hb; exact .inr ⟨e, hb⟩
  obtain ⟨h1, h2, h3, h4, h5, ⟨M, h6, h6'⟩, h7, h8, h9, h10, h11, h12, h13, h14⟩ := h
  refine ⟨k3, fun t => ?_, fun t u b ht hu => ?_, fun t b o ht => ?_, fun t b ht => ?_, ⟨_, X.cl M w w' h6 ⟨hb.os, hb.tape, hb.output, hb.size, fun k hk _ => hb.block k hk⟩, fun t b ht => ?_⟩, fun g l hgl => ?_, fun b o v hlt hk => ?_, fun b hb' => ?_, Nat.le_trans h10 hb.size, h11.trans hle, fun b o v hk hT => ?_, fun t b ht hT => ?_, fun b hT => Nat.lt_of_lt_of_le (h14 b hT) hb.size⟩
  · by_cases e : t = p
    · subst e; simp only [upd_same]; exact ho
    · simp only [upd_ne _ _ _ _ e]
      exact owns_mono hle (upd_ne _ _ _ _ e) (fun b hb' => hb.block b (owns_lt (h2 t) hb')) (h2 t)
  · simp only at ht hu
    rcases hbk t b ht with ⟨rfl, a1⟩ | ⟨e1, a1⟩ <;> rcases hbk u b hu with ⟨rfl, a2⟩ | ⟨e2, a2⟩
    · rfl
    · have := owns_lt (h2 u) a2; have := (hnew b a1).1; omega
    · have := owns_lt (h2 t) a1; have := (hnew b a2).1; omega
    · exact h3 t u b a1 a2
  · simp only at ht
    rcases hbk t b ht with ⟨rfl, a1⟩ | ⟨e1, a1⟩
    · exact (hnew b a1).2.2 o
    · cases hk : κ' b o with
      | none => rfl
      | some v => have h20 := k2 b o v (owns_lt (h2 t) a1) hk; rw [h4 t b o a1] at h20; cases h20
  · simp only at ht
    rcases hbk t b ht with ⟨rfl, a1⟩ | ⟨e1, a1⟩
    · exact .inl (Nat.le_trans h10 (hnew b a1).1)
    · exact h5 t b a1
  · simp only at ht
    rcases hbk t b ht with ⟨rfl, a1⟩ | ⟨e1, a1⟩
    · exact .inr (hnew b a1).1
    · exact .inl (h6' t b a1)
  · obtain ⟨hc, u, hu, hk⟩ := h7 g l hgl
    exact ⟨hc, u, hu.mono hle, fun j v hj => k1 _ _ _ (hk j v hj)⟩
  · exact h8 b o v hlt (k2 b o v (Nat.lt_of_lt_of_le hlt h10) hk)
  · obtain ⟨e1, e2⟩ := h9 b hb'
    by_cases e : 0 = p
    · subst e; simp only [upd_same]; exact ⟨by omega, fun e => by omega⟩
    · simp only [upd_ne _ _ _ _ e]; exact ⟨e1, e2⟩
  · by_cases e : b < w.heap.size
    · exact h12 b o v (k2 b o v e hk) hT
    · have := h14 b hT; omega
  · simp only at ht
    rcases hbk t b ht with ⟨rfl, a1⟩ | ⟨e1, a1⟩
    · have := h14 b hT; have := (hnew b a1).1; omega
    · exact h13 t b a1 hT
end

section
variable {X : Ctx} {Q : Exit → St → Prop} {S : St} {ops : Array Oper} {o : Oper} {rest : List Oper}
/-- A call that hands back a slice of the callee's own: it becomes place p. -/
theorem WL_callo (p : Nat) {f : FuncId} {xs : Array Operand} {ts : Array TypeId} {A : List D} {R : D} {E z n : Nat} {el : Nat → List D} (hg : o.guard = none) (ho : o.op = .call { callee := .value (.func f), args := xs, argTypes := ts }) (hc : ContractO X.Z f A R E z n el) (hA : xs.toList.map (S.ev X) = A)
    {t : Nat} (hd : o.dst = some t) {R' : D} (hR : renO p (S.γ p + 1) R = R') (hk : WL X ops rest Q ⟨upd S.ρ t R', upd S.γ p (S.γ p + 1), upd S.σ p (.arr E z n el)⟩) : WL X ops (o :: rest) Q S := fun κ sv a w hs => by
  subst hR
  have hr := evs_rep hs xs.toList
  rw [hA] at hr
  refine wpListIn_plain hg fun K hK => op_call (run_call hc.body ho) (hc.calls w κ _ (Sim.fits hs.wld) (Sim.globOk hs.wld) (hr.pure (fun _ _ _ h => h) hc.pureA)) ?_
  rintro e w' ⟨v, sl, κ', rfl, hv, k1, k2, k3, hsl, hown, hsep, hb⟩
  refine ⟨v, rfl, ?_⟩
  rw [hd]
  have hle : Le κ κ' S.γ (upd S.γ p (S.γ p + 1)) sv (upd sv p sl) := by
    obtain ⟨a, b, c⟩ := le_renew κ S.γ sv p sl
    exact ⟨k1, b, c⟩
  have hW := hs.wld.adopt hb k1 k2 k3 p (.arr E z n el) sl (fun b hbk => by
    obtain ⟨xs, e1, _⟩ := hown
    rcases e1.2 with ⟨hv, _⟩ | ⟨b', cap, cur, hv, hbase, hh, _⟩
    · simp only at hv; rw [hv] at hbk; cases hbk
    · simp only at hv
      rw [hv] at hbk; simp only [blk, Option.some.injEq] at hbk; subst hbk
      exact ⟨hbase, (Array.getElem?_eq_some_iff.1 hh).1, hsep b' (by rw [hv]; rfl)⟩) (by
    obtain ⟨xs, e1, e2, e3, e4⟩ := hown
    exact ⟨xs, by rw [upd_same]; exact owns_base e1 hs.wld.base, e2, e3, fun i hi => (e4 i hi).pure (fun _ _ _ h => h) (hc.pureE i hi)⟩) S.ρ
  have hs' : Sim X κ' (upd sv p sl) ⟨S.ρ, upd S.γ p (S.γ p + 1), upd S.σ p (.arr E z n el)⟩ a w' := ⟨hs.size, hs.defers.later hb, fun i hi => (hs.slot i hi).mono hle, hW⟩
  exact hK _ _ (hk κ' _ _ w' (hs'.put (some t) (rep_ren (p := 0) (g := 1) (fun _ _ _ h => h) rfl (upd_same _ _ _) (upd_same _ _ _) hc.poR hv)))
end
section
variable {X : Ctx} {S : St}
/-- The elements told anew: none is an empty slice; beyond the length nothing is said. -/
theorem wk_arrN (s : Nat) {E z n : Nat} {f : Nat → List D} (f' : Nat → List D) (hσ : S.σ s = .arr E z n f) (h : ∀ i, i < n → NilL (f i) (f' i)) : Wk X S ⟨S.ρ, S.γ, upd S.σ s (.arr E z n f')⟩ := fun κ sv a w hs => by
  have hown := hs.wld.own s
  rw [hσ] at hown
  obtain ⟨xs, e1, e2, e3, e4⟩ := hown
  have nl : ∀ {l l' : List D}, NilL l l' → l'.length = l.length := by
    intro l
    induction l with
    | nil => intro l' h; cases l' <;> first | rfl | exact h.elim
    | cons d l ih => intro l' h; cases l' with
      | nil => exact h.elim
      | cons d' l' => simp [ih h.2]
  refine ⟨κ, sv, ⟨hs.size, hs.defers, hs.slot, ?_⟩⟩
  refine hs.wld.rewrite s (.arr E z n f') (below_grown (Below.refl _ _) _) (by
    rw [hσ]
    cases sv s with
    | pointer a => cases a <;> rfl
    | slice a => cases a <;> rfl
    | _ => rfl) ⟨xs, e1, fun i hi => by rw [nl (h i hi)]; exact e2 i hi, fun i hi => nilL_cell (h i hi) (e3 i hi), fun i hi => nilL_rep (h i hi) (e4 i hi)⟩ _
theorem n_wk {o : Oper} {S1 S2 : St} (h : NOp X o S S1) (hw : Wk X S1 S2) : NOp X o S S2 := fun κ sv a w hs => by
  obtain ⟨v, w', κ', sv', h1, h2⟩ := h κ sv a w hs
  obtain ⟨κ2, sv2, h3⟩ := hw κ' sv' _ w' h2
  exact ⟨v, w', κ2, sv2, h1, h3⟩
theorem wk_slf (t : Nat) {z n : Nat} {f : Nat → List D} (f' : Nat → List D) (h : S.ρ t = .sl z n f) (hf : ∀ i, i < n → f i = f' i) : Wk X S (S.set t (.sl z n f')) := fun κ sv a w hs => by
  refine ⟨κ, sv, ⟨hs.size, hs.defers, fun i hi => ?_, hs.wld.slots rfl rfl⟩⟩
  by_cases e : i = t
  · subst e
    simp only [St.set, upd_same]
    have h1 := hs.slot i hi
    rw [h] at h1
    generalize a.tmps.getD i Go.undef = v at h1
    cases h1 with
    | sl _ _ _ b off cap u h1 h2 h5 h3 h4 => exact .sl z n f' b off cap u h1 (fun i hi => by rw [← hf i hi]; exact h2 i hi) (fun i hi => by rw [← hf i hi]; exact h5 i hi) (fun i hi => by rw [← hf i hi]; exact h3 i hi) h4
    | sl0 => exact .sl0 _ _
    | slE => exact .slE _ _ _ _
  · simp only [St.set, upd_ne _ _ _ _ e]; exact hs.slot i hi
theorem nilL_refl : ∀ l : List D, NilL l l
  | [] => trivial
  | _ :: l => ⟨.inl rfl, nilL_refl l⟩
end
section
variable {X : Ctx} {Q : Exit → St → Prop} {S S0 : St} {ops : Array Oper} {o : Oper} {rest : List Oper} {E : List Ent} {V : List Vl}
theorem G_tS {j t : Nat} {b : Bool} {m : Int} (hg : o.guard = some (j, b)) (hj : (ops[j]?).bind (·.dst) = some t) (hc : S.ev X (.tmp t) = .bool (m == m)) (ht : WG X Q ops S0 E V (o :: rest) (S.set t (.bool true))) : WG X Q ops S0 E V (o :: rest) S :=
  WG_tell hg hj hc (fun _ => ht) (fun h => by simp at h)
theorem L_tS {j t : Nat} {b : Bool} {m : Int} (hg : o.guard = some (j, b)) (hj : (ops[j]?).bind (·.dst) = some t) (hc : S.ev X (.tmp t) = .bool (m == m)) (ht : WL X ops (o :: rest) Q (S.set t (.bool true))) : WL X ops (o :: rest) Q S :=
  WL_tell hg hj hc (fun _ => ht) (fun h => by simp at h)
end
end Go.Ab
