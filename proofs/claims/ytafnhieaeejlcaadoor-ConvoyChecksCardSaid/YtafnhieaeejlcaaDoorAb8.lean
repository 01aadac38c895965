/- Contracts: what a function gives for what it gets; calls; a function's entry and its end. -/
import Derived.Test.YtafnhieaeejlcaaDoorAb7
import Derived.RangeFuncRecord
set_option linter.all false
namespace Go.Ab
open Go Go.RowKit

abbrev γ0 : Nat → Nat := fun _ => 0
abbrev sv0 : Nat → Value := fun _ => Go.undef

def GlobOk (Z : Seat) (κ : Nat → Nat → Option Value) : Prop := ∀ g l, Z.glob g = some l → allCell l = true ∧ ∃ u, RepL κ γ0 sv0 l u ∧ ∀ j v, u[j]? = some v → κ g j = some v
/-- What stays: what stayed, and what is new. -/
def growK (κ : Nat → Nat → Option Value) (w w' : World) : Nat → Nat → Option Value := fun b o => if b < w.heap.size then κ b o else w'.cell? ⟨b, o, none⟩
def Fits (κ : Nat → Nat → Option Value) (w : World) : Prop := ∀ b o v, κ b o = some v → w.cell? ⟨b, o, none⟩ = some v

def HasBody (P : Program) (f : FuncId) : Prop := ∃ fn c, P.funcs[f]? = some fn ∧ fn.body = some c ∧ (fn.name == "runtime.NumGoroutine") = false

structure Contract (Z : Seat) (f : FuncId) (A : List D) (R : D) : Prop where
  pureA : PureL A
  pureR : Pure R
  body : HasBody Z.P f
  calls : ∀ (w : World) (κ : Nat → Nat → Option Value) (args : List Value), Fits κ w → GlobOk Z κ → RepL κ γ0 sv0 A args →
    Calls Z.P f args.toArray w fun e w' => ∃ v, e = .returned v ∧ Rep (growK κ w w') γ0 sv0 R v ∧ Below w.heap.size w w'

/-- A function whose first argument points to a box, which it may write. -/
structure ContractR (Z : Seat) (f : FuncId) (l l' : List D) (A : List D) (R : D) : Prop where
  pureA : PureL A
  pureR : Pure R
  purel : PureL l
  purel' : PureL l'
  cell' : allCell l' = true
  body : HasBody Z.P f
  calls : ∀ (w : World) (κ : Nat → Nat → Option Value) (args : List Value) (b : Nat) (T : TypeId) (cs : List Value), Fits κ w → (∀ o, κ b o = none) → w.heap[b]? = some (.cells (List.toArray cs) T (0, 0)) → RepL κ γ0 sv0 l cs → GlobOk Z κ → RepL κ γ0 sv0 A args →
    Calls Z.P f (Value.pointer (some ⟨b, 0, none⟩) :: args).toArray w fun e w' => ∃ v cs' T', e = .returned v ∧ w'.heap[b]? = some (.cells (List.toArray cs') T' (0, 0)) ∧ RepL (growK κ w w') γ0 sv0 l' cs' ∧
      Rep (growK κ w w') γ0 sv0 R v ∧ Frame (some b) w w'

theorem run_call {P : Program} {f : FuncId} (h : HasBody P f) {o : Oper} {a : Act} {w : World} {xs : Array Operand} {ts : Array TypeId} (ho : o.op = .call { callee := .value (.func f), args := xs, argTypes := ts }) :
    (execOp a.eval o).run P w = .ok (.enter f (xs.toList.map a.eval).toArray) w := by
  obtain ⟨fn, c, h1, h2, h3⟩ := h
  have h4 : execOp a.eval o = callFunc f (#[] ++ xs.map a.eval ++ #[]) := by
    unfold execOp; rw [ho]; rfl
  rw [h4]
  have h5 : (#[] ++ xs.map a.eval ++ #[]) = (xs.toList.map a.eval).toArray := by simp [← Array.toList_map]
  rw [h5]
  have h6 : ¬ fn.name = "runtime.NumGoroutine" := by simpa using h3
  simp [callFunc, h1, h2, h6]

section
variable {X : Ctx} {S S' : St} {κ : Nat → Nat → Option Value} {sv : Nat → Value} {a : Act} {w w' : World}

theorem Sim.fits (h : SimW X κ sv S w) : Fits κ w := h.imm
theorem Sim.globOk (h : SimW X κ sv S w) : GlobOk X.Z κ := fun g l hg => by
  obtain ⟨h1, u, h2, h3⟩ := h.glob g l hg
  exact ⟨h1, u, h2.pure (fun _ _ _ h => h) (X.Z.globPure g l hg), h3⟩

theorem le_growK {γ : Nat → Nat} (hf : Fits κ w) (w' : World) : Le κ (growK κ w w') γ γ sv sv :=
  ⟨fun b o v hk => by
    have := World.block_lt_of_cell? w _ (hf b o v hk)
    simp only [growK]; rw [if_pos (by simpa using this)]; exact hk, fun _ => Nat.le_refl _, fun _ _ => rfl⟩

theorem SimW.grow (h : SimW X κ sv S w) (hb : Below w.heap.size w w') : SimW X (growK κ w w') sv S w' := by
  have hle : Le κ (growK κ w w') S.γ S.γ sv sv := le_growK h.imm w'
  have h1 := h.later hb
  refine ⟨fun b o v hk => ?_, fun s => owns_mono hle rfl (fun _ _ => rfl) (h1.own s), h1.inj, fun s b o hs => ?_, h1.frsh, h1.frame, fun g l hg => ?_, fun b o v hlt hk => ?_, h1.pin, h1.base, h1.le.trans hle, fun b o v hk => ?_, h1.aw2, h1.aw3⟩
  · simp only [growK] at hk
    split at hk
    · exact h1.imm b o v hk
    · exact hk
  · have := owns_lt (h.own s) hs
    simp only [growK]; rw [if_pos this]; exact h.sep s b o hs
  · obtain ⟨hc, u, hu, hk⟩ := h1.glob g l hg
    exact ⟨hc, u, hu.mono hle, fun j v hj => hle.cells _ _ _ (hk j v hj)⟩
  · have := h.base
    simp only [growK] at hk
    rw [if_pos (by omega)] at hk
    exact h.old b o v hlt hk
  · simp only [growK] at hk
    split at hk
    · exact h1.aw1 b o v hk
    · intro hT; have := h.aw3 b hT; omega
end

section
variable {X : Ctx} {Q : Exit → St → Prop} {S S' : St} {ops : Array Oper} {o : Oper} {rest : List Oper}

theorem evs_rep {κ : Nat → Nat → Option Value} {sv : Nat → Value} {a : Act} {w : World} (hs : Sim X κ sv S a w) : ∀ xs : List Operand, RepL κ S.γ sv (xs.map (S.ev X)) (xs.map a.eval)
  | [] => .nil
  | x :: xs => .cons _ _ _ _ (hs.ev x) (evs_rep hs xs)

/-- A call whose arguments are nothing of the call's own. -/
theorem WL_call {f : FuncId} {xs : Array Operand} {ts : Array TypeId} {A : List D} {R : D} (hg : o.guard = none) (ho : o.op = .call { callee := .value (.func f), args := xs, argTypes := ts }) (hc : Contract X.Z f A R) (hA : xs.toList.map (S.ev X) = A)
    {t : Nat} (hd : o.dst = some t) (hk : WL X ops rest Q (S.set t R)) : WL X ops (o :: rest) Q S := fun κ sv a w hs => by
  have hr := evs_rep hs xs.toList
  rw [hA] at hr
  refine wpListIn_plain hg fun K hK => op_call (run_call hc.body ho) (hc.calls w κ _ (Sim.fits hs.wld) (Sim.globOk hs.wld) (hr.pure (fun _ _ _ h => h) hc.pureA)) ?_
  rintro e w' ⟨v, rfl, hv, hb⟩
  refine ⟨v, rfl, hK _ _ (hk (growK κ w w') sv _ w' ?_)⟩
  have hs' : Sim X (growK κ w w') sv S a w' := ⟨hs.size, hs.defers.later hb, fun i hi => (hs.slot i hi).mono (le_growK hs.wld.imm w'), hs.wld.grow hb⟩
  rw [hd]
  exact hs'.put (some t) (hv.pure (fun _ _ _ h => h) hc.pureR)

/-- Values that are wholly told. -/
def scal1 : D → Option Value
  | .int k n => some (.int k n)
  | .bool b => some (.bool b)
  | .str s => some (.string s)
  | _ => none
def scalL : List D → Option (List Value)
  | [] => some []
  | d :: l => match scal1 d, scalL l with | some v, some vs => some (v :: vs) | _, _ => none
def scal2 : D → Option Value
  | .agg l => (scalL l).map fun vs => .agg vs.toArray
  | d => scal1 d
def scalL2 : List D → Option (List Value)
  | [] => some []
  | d :: l => match scal2 d, scalL2 l with | some v, some vs => some (v :: vs) | _, _ => none
def scal : D → Option Value
  | .tup l => (scalL2 l).map fun vs => .tuple vs.toArray
  | d => scal2 d

section
variable {κ κ' : Nat → Nat → Option Value} {γ γ' : Nat → Nat} {sv sv' : Nat → Value}
theorem scal1_rep {d : D} {v0 : Value} (h : scal1 d = some v0) : Rep κ γ sv d v0 := by
  cases d <;> simp [scal1] at h <;> subst h
  · exact .int _ _
  · exact .bool _
  · exact .str _
theorem scal1_eq {d : D} {v v0 : Value} (h : scal1 d = some v0) (hr : Rep κ γ sv d v) : v = v0 := by
  cases d <;> simp [scal1] at h <;> subst h <;> cases hr <;> rfl
theorem scalL_eq : ∀ {l : List D} {vs v0 : List Value}, scalL l = some v0 → RepL κ γ sv l vs → vs = v0
  | [], vs, v0, h, hr => by simp [scalL] at h; subst h; cases hr; rfl
  | d :: l, _, v0, h, .cons _ v _ vs h1 h2 => by
    unfold scalL at h
    cases e1 : scal1 d with
    | none => rw [e1] at h; cases h
    | some u =>
      cases e2 : scalL l with
      | none => rw [e1, e2] at h; cases h
      | some us => rw [e1, e2] at h; simp at h; subst h; rw [scal1_eq e1 h1, scalL_eq e2 h2]
theorem scalL_rep : ∀ {l : List D} {v0 : List Value}, scalL l = some v0 → RepL κ γ sv l v0
  | [], v0, h => by simp [scalL] at h; subst h; exact .nil
  | d :: l, v0, h => by
    unfold scalL at h
    cases e1 : scal1 d with
    | none => rw [e1] at h; cases h
    | some u =>
      cases e2 : scalL l with
      | none => rw [e1, e2] at h; cases h
      | some us => rw [e1, e2] at h; simp at h; subst h; exact .cons _ _ _ _ (scal1_rep e1) (scalL_rep e2)
theorem scal2_eq {d : D} {v v0 : Value} (h : scal2 d = some v0) (hr : Rep κ γ sv d v) : v = v0 := by
  unfold scal2 at h
  split at h
  · rename_i l
    simp only [Option.map_eq_some_iff] at h
    obtain ⟨vs, h1, rfl⟩ := h
    cases hr with
    | agg _ us hu => rw [scalL_eq h1 hu]
  · exact scal1_eq h hr
theorem scal2_rep {d : D} {v0 : Value} (h : scal2 d = some v0) : Rep κ γ sv d v0 := by
  unfold scal2 at h
  split at h
  · rename_i l
    simp only [Option.map_eq_some_iff] at h
    obtain ⟨vs, h1, rfl⟩ := h
    exact .agg _ _ (scalL_rep h1)
  · exact scal1_rep h
theorem scalL2_eq : ∀ {l : List D} {vs v0 : List Value}, scalL2 l = some v0 → RepL κ γ sv l vs → vs = v0
  | [], vs, v0, h, hr => by simp [scalL2] at h; subst h; cases hr; rfl
  | d :: l, _, v0, h, .cons _ v _ vs h1 h2 => by
    unfold scalL2 at h
    cases e1 : scal2 d with
    | none => rw [e1] at h; cases h
    | some u =>
      cases e2 : scalL2 l with
      | none => rw [e1, e2] at h; cases h
      | some us => rw [e1, e2] at h; simp at h; subst h; rw [scal2_eq e1 h1, scalL2_eq e2 h2]
theorem scalL2_rep : ∀ {l : List D} {v0 : List Value}, scalL2 l = some v0 → RepL κ γ sv l v0
  | [], v0, h => by simp [scalL2] at h; subst h; exact .nil
  | d :: l, v0, h => by
    unfold scalL2 at h
    cases e1 : scal2 d with
    | none => rw [e1] at h; cases h
    | some u =>
      cases e2 : scalL2 l with
      | none => rw [e1, e2] at h; cases h
      | some us => rw [e1, e2] at h; simp at h; subst h; exact .cons _ _ _ _ (scal2_rep e1) (scalL2_rep e2)
theorem scal_eq {d : D} {v v0 : Value} (h : scal d = some v0) (hr : Rep κ γ sv d v) : v = v0 := by
  unfold scal at h
  split at h
  · rename_i l
    simp only [Option.map_eq_some_iff] at h
    obtain ⟨vs, h1, rfl⟩ := h
    cases hr with
    | tup _ us hu => rw [scalL2_eq h1 hu]
  · exact scal2_eq h hr
theorem scal_rep {d : D} {v0 : Value} (h : scal d = some v0) : Rep κ γ sv d v0 := by
  unfold scal at h
  split at h
  · rename_i l
    simp only [Option.map_eq_some_iff] at h
    obtain ⟨vs, h1, rfl⟩ := h
    exact .tup _ _ (scalL2_rep h1)
  · exact scal2_rep h
end

/- Arguments that are the call's own are lent. -/
mutual
inductive Fz (S : St) : D → D → Prop
  | same (d : D) : Fz S d d
  | os (s g E z n : Nat) (f : Nat → List D) : S.γ s = g → S.σ s = .arr E z n f → Fz S (.os s g) (.sl z n f)
  | agg (l l' : List D) : FzL S l l' → Fz S (.agg l) (.agg l')
  | bx (s g o : Nat) (l : List D) : S.γ s = g → S.σ s = .box l → Fz S (.bx s g o) (.rp l o)
  | fn (f : FuncId) (c c' : List D) : FzL S c c' → Fz S (.fn f c) (.fn f c')
inductive FzL (S : St) : List D → List D → Prop
  | nil : FzL S [] []
  | cons (d d' : D) (l l' : List D) : Fz S d d' → FzL S l l' → FzL S (d :: l) (d' :: l')
end
mutual
theorem Fz.rep {κ κ' : Nat → Nat → Option Value} {sv : Nat → Value} {w : World} (h : SimW X κ sv S w) (hle : Le κ κ' S.γ S.γ sv sv) (hκ : ∀ b o v, w.cell? ⟨b, o, none⟩ = some v → κ' b o = some v) : ∀ {d d' : D} {v : Value}, Fz S d d' → Rep κ S.γ sv d v → Rep κ' S.γ sv d' v
  | _, _, _, .same _, hr => hr.mono hle
  | _, _, _, .os s g E z n f hg hσ, hr => by
    cases hr with
    | os _ _ _ _ hh _ => rw [hh hg.symm]; exact frozen_rep h hσ hle (fun b o v _ hc => hκ b o v hc)
  | _, _, _, .agg l l' hl, hr => by
    cases hr with
    | agg _ vs hv => exact .agg _ _ (FzL.rep h hle hκ hl hv)
  | _, _, _, .bx s g o l hg hσ, hr => by
    have hown := h.own s
    rw [hσ] at hown
    obtain ⟨b, T, cs, e1, e2, e3, e4⟩ := hown
    cases hr with
    | bx _ _ _ _ _ hh _ =>
      obtain ⟨b', h5, h6⟩ := hh hg.symm
      rw [e1] at h5
      simp only [Value.pointer.injEq, Option.some.injEq, Addr.mk.injEq, and_true] at h5
      subst h5
      rw [h6]
      have := Rep.rp (κ := κ') (γ := S.γ) (sv := sv) l o b 0 cs e4 (e3.mono hle) (fun j v hj => hκ _ _ _ (by rw [cell_of_row w b _ _ _ _ e2, Nat.zero_add]; simpa using hj))
      simpa using this
  | _, _, _, .fn f c c' hl, hr => by
    cases hr with
    | fn _ _ vs hv => exact .fn _ _ _ (FzL.rep h hle hκ hl hv)
theorem FzL.rep {κ κ' : Nat → Nat → Option Value} {sv : Nat → Value} {w : World} (h : SimW X κ sv S w) (hle : Le κ κ' S.γ S.γ sv sv) (hκ : ∀ b o v, w.cell? ⟨b, o, none⟩ = some v → κ' b o = some v) : ∀ {l l' : List D} {vs : List Value}, FzL S l l' → RepL κ S.γ sv l vs → RepL κ' S.γ sv l' vs
  | _, _, _, .nil, hr => by cases hr; exact .nil
  | _, _, _, .cons d d' l l' h1 h2, hr => by
    cases hr with
    | cons _ _ _ _ r1 r2 => exact .cons _ _ _ _ (Fz.rep h hle hκ h1 r1) (FzL.rep h hle hκ h2 r2)
end

theorem call_scal {κ : Nat → Nat → Option Value} {sv : Nat → Value} {a : Act} {w : World} (hs : Sim X κ sv S a w) {f : FuncId} {xs : Array Operand} {A : List D} {R : D} {v0 : Value} (hc : Contract X.Z f A R) (hA : FzL S (xs.toList.map (S.ev X)) A) (hR : scal R = some v0) :
    ∀ w', Below w.heap.size w w' → Calls X.Z.P f (xs.toList.map a.eval).toArray w' fun e w'' => e = .returned v0 ∧ Below w.heap.size w w'' := fun w' hb => by
  have hs1 := hs.later hb
  have hr := evs_rep hs1 xs.toList
  let κ' : Nat → Nat → Option Value := fun b o => w'.cell? ⟨b, o, none⟩
  have hle : Le κ κ' S.γ S.γ sv sv := ⟨fun b o v hk => hs1.wld.imm b o v hk, fun _ => Nat.le_refl _, fun _ _ => rfl⟩
  have hr2 := hA.rep hs1.wld hle (fun b o v h => h) hr
  refine (hc.calls w' κ' _ (fun b o v h => h) (fun g l hg => ?_) (hr2.pure (fun _ _ _ h => h) hc.pureA)).mono ?_
  · obtain ⟨h1, u, h2, h3⟩ := Sim.globOk hs1.wld g l hg
    exact ⟨h1, u, h2.mono ⟨fun b o v hk => hs1.wld.imm b o v hk, fun _ => Nat.le_refl _, fun _ _ => rfl⟩, fun j v hj => hs1.wld.imm _ _ _ (h3 j v hj)⟩
  · rintro e w'' ⟨v, rfl, hv, hb2⟩
    rw [scal_eq hR hv]
    exact ⟨rfl, hb.trans (hb2.mono hb.size)⟩

/-- A call that lends what is the call's own and hands back nothing that lies in memory. -/
theorem WL_calls {f : FuncId} {xs : Array Operand} {ts : Array TypeId} {A : List D} {R : D} {v0 : Value} (hg : o.guard = none) (ho : o.op = .call { callee := .value (.func f), args := xs, argTypes := ts }) (hc : Contract X.Z f A R) (hA : FzL S (xs.toList.map (S.ev X)) A) (hR : scal R = some v0)
    {t : Nat} (hd : o.dst = some t) (hk : WL X ops rest Q (S.set t R)) : WL X ops (o :: rest) Q S := fun κ sv a w hs => by
  refine wpListIn_plain hg fun K hK => op_call (run_call hc.body ho) (call_scal hs hc hA hR w (Below.refl _ _)) ?_
  rintro e w' ⟨rfl, hb⟩
  refine ⟨v0, rfl, ?_⟩
  rw [hd]
  exact hK _ _ (hk κ sv _ w' ((hs.later hb).put (some t) (scal_rep hR)))

theorem fz_refl (S : St) : ∀ l : List D, FzL S l l
  | [] => .nil
  | d :: l => .cons d d l l (.same d) (fz_refl S l)

/-- A call that gets a box and may write it. -/
theorem WL_callR {f : FuncId} {x0 : Operand} {xs : List Operand} {ts : Array TypeId} {l l' A : List D} {R : D} {s g : Nat} (hg : o.guard = none) (ho : o.op = .call { callee := .value (.func f), args := (x0 :: xs).toArray, argTypes := ts }) (hx : S.ev X x0 = .bx s g 0) (hγ : S.γ s = g) (hσ : S.σ s = .box l)
    (hc : ContractR X.Z f l l' A R) (hA : xs.map (S.ev X) = A) {t : Nat} (hd : o.dst = some t) (hk : WL X ops rest Q ⟨upd S.ρ t R, S.γ, upd S.σ s (.box l')⟩) : WL X ops (o :: rest) Q S := fun κ sv a w hs => by
  obtain ⟨b, T, cs, he, hsv, hh, hrep, hac⟩ := box_cells hs hx hγ hσ
  have hblk : blk (S.σ s) (sv s) = some b := by rw [hσ, hsv]; rfl
  have hr := evs_rep hs xs
  rw [hA] at hr
  have hrun := run_call (P := X.Z.P) (a := a) (w := w) hc.body ho
  simp only [List.map_cons, he] at hrun
  have hcall := hc.calls w κ (xs.map a.eval) b T cs (Sim.fits hs.wld) (fun o => hs.wld.sep s b o hblk) hh (hrep.pure (fun _ _ _ h => h) hc.purel) (Sim.globOk hs.wld) (hr.pure (fun _ _ _ h => h) hc.pureA)
  refine wpListIn_plain hg fun K hK => op_call hrun hcall ?_
  rintro e w' ⟨v, cs', T', rfl, hh', hl', hv, hfr⟩
  have hgr : w.grownBy w' (some b) := ⟨hfr.os, hfr.tape, hfr.output, hfr.size, fun k hk hne => hfr.block k hk hne⟩
  have hle : Le κ (growK κ w w') S.γ S.γ sv sv := le_growK hs.wld.imm w'
  have hbt : ∀ t, t ≠ s → ∀ b', blk (S.σ t) (sv t) = some b' → w'.heap[b']? = w.heap[b']? := fun t ht b' hb' =>
    hgr.block b' (owns_lt (hs.wld.own t) hb') (fun e => ht (hs.wld.inj t s b' hb' (by rw [hblk]; exact e.symm)))
  have hbk : ∀ t b', blk (upd S.σ s (.box l') t) (sv t) = some b' → blk (S.σ t) (sv t) = some b' := by
    intro t b' hb'
    by_cases e : t = s
    · subst e; rw [upd_same, hsv] at hb'; rw [hblk]; exact hb'
    · rw [upd_ne _ _ _ _ e] at hb'; exact hb'
  have hW : SimW X (growK κ w w') sv ⟨S.ρ, S.γ, upd S.σ s (.box l')⟩ w' := by
    have h0 := hs.wld
    obtain ⟨h1, h2, h3, h4, h5, _, h7, h8, h9, h10, h11, h12, h13, h14⟩ := hs.wld
    refine ⟨fun b' o v hk => ?_, fun t => ?_, fun t u b' ht hu => h3 t u b' (hbk t b' ht) (hbk u b' hu), fun t b' o ht => ?_, fun t b' ht => h5 t b' (hbk t b' ht), frame_step h0 hgr (fun b' e => ⟨s, by rw [hblk]; exact e⟩) (fun t b' ht => .inr ⟨t, hbk t b' ht⟩), fun g l hgl => ?_, fun b' o v hlt hk => ?_, h9, Nat.le_trans h10 hgr.size, h11.trans hle, fun b' o v hk => ?_, fun t b' ht => h13 t b' (hbk t b' ht), fun b h => Nat.lt_of_lt_of_le (h14 b h) hgr.size⟩
    · simp only [growK] at hk
      split at hk
      · refine hgr.cell (h1 b' o v hk) (fun e => ?_)
        simp only [Option.some.injEq] at e
        subst e
        rw [h4 s b' o hblk] at hk; cases hk
      · exact hk
    · by_cases e : t = s
      · subst e; simp only [upd_same]
        exact ⟨b, T', cs', hsv, hh', hl'.pure (fun _ _ _ h => h) hc.purel', hc.cell'⟩
      · simp only [upd_ne _ _ _ _ e]
        exact owns_mono hle rfl (hbt t e) (h2 t)
    · have hb' := hbk t b' ht
      have := owns_lt (h2 t) hb'
      simp only [growK]; rw [if_pos this]; exact h4 t b' o hb'
    · obtain ⟨hc2, u, hu, hk⟩ := h7 g l hgl
      exact ⟨hc2, u, hu.mono hle, fun j v hj => hle.cells _ _ _ (hk j v hj)⟩
    · have := h10
      simp only [growK] at hk
      rw [if_pos (by omega)] at hk
      exact h8 b' o v hlt hk
    · simp only [growK] at hk
      split at hk
      · exact h12 b' o v hk
      · intro hT; have := h14 b' hT; omega
  have hs' : Sim X (growK κ w w') sv ⟨S.ρ, S.γ, upd S.σ s (.box l')⟩ a w' := ⟨hs.size, dfr_own hs s (by rw [hblk]; exact hgr), fun i hi => (hs.slot i hi).mono hle, hW⟩
  refine ⟨v, rfl, ?_⟩
  rw [hd]
  exact hK _ _ (hk _ sv _ w' (hs'.put (some t) (hv.pure (fun _ _ _ h => h) hc.pureR)))

/-- What a function hands back. -/
def ResV (X : Ctx) (S : St) : ResultVar → D → Prop
  | .tmp t, d => S.ev X (.tmp t) = d
  | .cell p T, d => ∃ s g j l r, S.ev X (.tmp p) = .bx s g j ∧ S.γ s = g ∧ S.σ s = .box l ∧ nth X.Z.tab T = some r ∧ Nat.beq r.k 9 = false ∧
    (((Nat.beq r.k 1 || Nat.beq r.k 2) = true ∧ ∃ m, takeN r.sz (dropN j l) = some m ∧ d = .agg m) ∨ ((Nat.beq r.k 1 || Nat.beq r.k 2) = false ∧ nth l j = some d))
def ResL (X : Ctx) (S : St) : List ResultVar → List D → Prop
  | [], [] => True
  | r :: rs, d :: ds => ResV X S r d ∧ ResL X S rs ds
  | _, _ => False
def tupOf : List D → D
  | [d] => d
  | ds => .tup ds
def FinQ (X : Ctx) (rs : List ResultVar) (R : D) : Exit → St → Prop
  | .normal, S | .ret, S => ∃ ds, ResL X S rs ds ∧ tupOf ds = R
  | _, _ => False

def rvRun (a : Act) : ResultVar → Sem Value
  | .tmp t => pure (a.tmps.getD t Go.undef)
  | .cell p T => do loadVar T (← asAddr (a.tmps.getD p Go.undef))
theorem resV_run {κ : Nat → Nat → Option Value} {sv : Nat → Value} {a : Act} {w : World} (hs : Sim X κ sv S a w) {rv : ResultVar} {d : D} (h : ResV X S rv d) :
    ∃ v, (rvRun a rv).run X.Z.P w = .ok v w ∧ Rep κ S.γ sv d v := by
  cases rv with
  | tmp t => exact ⟨_, rfl, h ▸ hs.ev (.tmp t)⟩
  | cell p T =>
    obtain ⟨s, g, j, l, r, hx, hg, hσ, hr, h9, hcase⟩ := h
    have hok := X.Z.tabOk _ _ hr (by intro e; rw [e] at h9; cases h9)
    obtain ⟨b, Tb, cs, he, hsv, hh, hrep, hac⟩ := box_cells hs hx hg hσ
    have he' : a.tmps.getD p Go.undef = .pointer (some ⟨b, j, none⟩) := he
    rcases hcase with ⟨hk, m, hm, rfl⟩ | ⟨hk, hd⟩
    · obtain ⟨rfl, hl⟩ := takeN_eq hm
      rw [dropN_eq] at hl ⊢
      have hu' := (hrep.drop j).take r.sz
      have hlen : ((cs.drop j).take r.sz).length = r.sz := by rw [hu'.length]; simp at hl ⊢; omega
      have hcell : ∀ i v, ((cs.drop j).take r.sz)[i]? = some v → w.cell? ⟨b, j + i, none⟩ = some v := by
        intro i v hi
        rw [cell_of_row w b _ _ _ _ hh]
        rw [List.getElem?_take] at hi
        split at hi
        · simpa using hi
        · cases hi
      refine ⟨_, ?_, .agg _ _ hu'⟩
      simp [rvRun, he', asAddr, run_loadVar_agg hok hk hlen hcell]
    · rw [nth_eq] at hd
      obtain ⟨vj, hv, hrj⟩ := hrep.get hd
      have hc : w.cell? ⟨b, j, none⟩ = some vj := by rw [cell_of_row w b j _ _ _ hh]; simpa using hv
      exact ⟨vj, by simp [rvRun, he', asAddr, run_loadVar_cell hok hk hc], hrj⟩

theorem resL_run {κ : Nat → Nat → Option Value} {sv : Nat → Value} {a : Act} {w : World} (hs : Sim X κ sv S a w) : ∀ {rs : List ResultVar} {ds : List D}, ResL X S rs ds →
    ∃ vs, (rs.mapM (rvRun a)).run X.Z.P w = .ok vs w ∧ RepL κ S.γ sv ds vs
  | [], [], _ => ⟨[], by simp, .nil⟩
  | [], _ :: _, h => h.elim
  | _ :: _, [], h => h.elim
  | r :: rs, d :: ds, h => by
    obtain ⟨v, h1, h2⟩ := resV_run hs h.1
    obtain ⟨vs, h3, h4⟩ := resL_run hs h.2
    refine ⟨v :: vs, ?_, .cons _ _ _ _ h2 h4⟩
    simp only [List.mapM_cons, Sem.run_bind, h1, Result.andThen_ok, h3, Sem.run_pure]

theorem results_run {κ : Nat → Nat → Option Value} {sv : Nat → Value} {a : Act} {w : World} (hs : Sim X κ sv S a w) {fn : Func} {ds : List D} (h : ResL X S fn.results.toList ds) :
    ∃ v, (results fn a.tmps).run X.Z.P w = .ok v w ∧ Rep κ S.γ sv (tupOf ds) v := by
  obtain ⟨vs, h1, h2⟩ := resL_run hs h
  have hlen := h2.length
  have h3 : (results fn a.tmps).run X.Z.P w = .ok (if h : vs.toArray.size = 1 then vs.toArray[0] else .tuple vs.toArray) w := by
    have h4 : results fn a.tmps = (do let vs ← fn.results.mapM (rvRun a); pure (if h : vs.size = 1 then vs[0] else .tuple vs)) := by
      unfold results
      congr 1
    rw [h4, Array.mapM_eq_mapM_toList]
    simp only [Sem.run_bind, Sem.run_map, h1, Result.andThen_ok, Sem.run_pure]
  rw [h3]
  match ds, vs, h2, hlen with
  | [], [], h2, _ => exact ⟨_, rfl, by simpa [tupOf] using Rep.tup _ _ h2⟩
  | [d], [v], h2, _ => exact ⟨v, rfl, by cases h2 with | cons _ _ _ _ h _ => exact h⟩
  | d :: d2 :: ds, v :: v2 :: vs, h2, _ =>
    refine ⟨.tuple (v :: v2 :: vs).toArray, ?_, Rep.tup _ _ h2⟩
    rw [dif_neg (by simp)]
end

def St.init (A : List D) : St := ⟨fun i => match nth A i with | some d => d | none => .undef, fun _ => 0, fun _ => .none⟩
def St.initR (l A : List D) : St := ⟨fun i => match nth (.bx 0 1 0 :: A) i with | some d => d | none => .undef, upd (fun _ => 0) 0 1, upd (fun _ => .none) 0 (.box l)⟩

theorem slot_init {κ : Nat → Nat → Option Value} {γ : Nat → Nat} {sv : Nat → Value} {A : List D} {args : List Value} (h : RepL κ γ sv A args) (n i : Nat) :
    Rep κ γ sv (match nth A i with | some d => d | none => .undef) ((args.toArray ++ Array.replicate n Go.undef).getD i Go.undef) := by
  rw [nth_eq]
  cases hA : A[i]? with
  | none => exact .undef _
  | some d =>
    obtain ⟨v, hv, hr⟩ := h.get hA
    have hlt : i < args.length := (List.getElem?_eq_some_iff.1 hv).1
    have : (args.toArray ++ Array.replicate n Go.undef).getD i Go.undef = v := by
      rw [Array.getD_eq_getD_getElem?, Array.getElem?_append_left (by simpa using hlt)]
      simp [hv]
    rw [this]; exact hr

theorem fits_grow {X : Ctx} {S : St} {κ : Nat → Nat → Option Value} {sv : Nat → Value} {w' : World} (h : SimW X κ sv S w') : ∀ b o v, κ b o = some v → growK X.κ0 X.w0 w' b o = some v := fun b o v hk => by
  simp only [growK]
  split
  · exact h.old b o v (by assumption) hk
  · exact h.imm b o v hk

theorem SimW.turn {X : Ctx} {κ : Nat → Nat → Option Value} {sv : Nat → Value} {S : St} {w w' : World} {D : Nat} (h : SimW X κ sv S w) (hX : X.Φ = plainF X.w0 X.ext) (hg : w.grownBy w' (some D)) (hD : X.w0.heap.size ≤ D) (hn : ∃ o : Obj, w.heap[D]? = some o ∧ o.isCells = false) : SimW X κ sv S w' := by
  obtain ⟨o0, ho1, ho2⟩ := hn
  have hne : ∀ s b, blk (S.σ s) (sv s) = some b → w'.heap[b]? = w.heap[b]? := fun s b hb => hg.block b (owns_lt (h.own s) hb) (fun e => by
    obtain ⟨o, h1, h2⟩ := owns_cells (h.own s) hb
    simp only [Option.some.injEq] at e
    subst e
    rw [ho1] at h1; cases h1; rw [ho2] at h2; cases h2)
  refine ⟨fun b o v hk => ?_, fun s => owns_mono (Le.refl _ _ _) rfl (hne s) (h.own s), h.inj, h.sep, h.frsh, ?_, h.glob, h.old, h.pin, Nat.le_trans h.base hg.size, h.le, h.aw1, h.aw2, fun b hb => Nat.lt_of_lt_of_le (h.aw3 b hb) hg.size⟩
  · exact cell_kept (h.imm b o v hk) hg (fun r e => by cases e; exact ⟨o0, ho1, ho2⟩)
  · obtain ⟨M, h1, h2⟩ := h.frame
    refine ⟨M, ?_, h2⟩
    rw [hX] at h1 ⊢
    exact ⟨⟨hg.os.trans h1.1.os, hg.tape.trans h1.1.tape, hg.output.trans h1.1.output, Nat.le_trans h1.1.size hg.size, fun k hk he =>
      (hg.block k (Nat.lt_of_lt_of_le hk h1.1.size) (fun e => by simp only [Option.some.injEq] at e; omega)).trans (h1.1.block k hk he)⟩, h1.2⟩
/-- The function's end: the marks are taken, the results are read. -/
theorem leaves_of {X : Ctx} {κ : Nat → Nat → Option Value} {sv : Nat → Value} {S : St} {fn : Func} {ds : List D} {R : Ending → World → Prop} (hN : X.nd = false) (hX : X.Φ = plainF X.w0 X.ext) (hres : ResL X S fn.results.toList ds)
    (hR : ∀ a w v, Sim X κ sv S a w → Rep κ S.γ sv (tupOf ds) v → R (.returned v) w) : ∀ (Ds : List Nat) (a : Act) (w : World), Sim X κ sv S a w → a.defers = Ds.map mark → Ds.Nodup →
      (∀ D ∈ Ds, X.w0.heap.size ≤ D ∧ w.heap[D]? = some (.deferred (some []))) → LeavesInM Fence.wide 0 X.Z.P fn a.tmps R (Ds.map mark) .returning w
  | [], a, w, hs, _, _, _ => by
    obtain ⟨v, h1, h2⟩ := results_run hs hres
    exact ⟨v, h1, hR a w v hs h2⟩
  | D :: Ds, a, w, hs, hd, hnd, hall => by
    obtain ⟨hb, hD⟩ := hall D (List.mem_cons_self ..)
    refine ⟨by simp, .inl ⟨D, w.putObj D (.deferred none), rfl, run_takeDeferred hD, ?_⟩⟩
    have hall' : ∀ D' ∈ Ds, X.w0.heap.size ≤ D' ∧ (w.putObj D (.deferred none)).heap[D']? = some (.deferred (some [])) := fun D' hm => by
      obtain ⟨h1, h2⟩ := hall D' (List.mem_cons_of_mem _ hm)
      refine ⟨h1, (World.putObj_heap_other ?_).trans h2⟩
      intro e; subst e; exact (List.nodup_cons.1 hnd).1 hm
    have hW := hs.wld.turn hX (grownBy_putObj' w D (.deferred none)) hb ⟨_, hD, rfl⟩
    exact leaves_of hN hX hres hR Ds { a with defers := Ds.map mark } _ ⟨hs.size, ⟨Ds, rfl, (List.nodup_cons.1 hnd).2, hall', fun h => by rw [hN] at h; cases h⟩, hs.slot, hW⟩ rfl (List.nodup_cons.1 hnd).2 hall'

theorem contract_intro {Z : Seat} {f : FuncId} {fn : Func} {c : Code} {A : List D} {R : D} (hf : Z.P.funcs[f]? = some fn) (hb : fn.body = some c) (hname : (fn.name == "runtime.NumGoroutine") = false) (hn : Nat.ble A.length fn.ntmps = true) (hA : PureL A) (hR : Pure R)
    (h : ∀ w κ, W (Ctx.plain Z fn.ntmps w κ none) c (FinQ (Ctx.plain Z fn.ntmps w κ none) fn.results.toList R) (St.init A)) : Contract Z f A R := by
  refine ⟨hA, hR, ⟨fn, c, hf, hb, hname⟩, fun w κ args hκ hglob hrep => ?_⟩
  refine (callsIn_wide (n := 0)).1 (callsIn_of_wp_marks hf hb trivial ?_ rfl)
  have hlen : A.length ≤ fn.ntmps := Nat.le_of_ble_eq_true hn
  have hal := hrep.length
  have hsim : Sim (Ctx.plain Z fn.ntmps w κ none) κ sv0 (St.init A) { tmps := args.toArray ++ Array.replicate (fn.ntmps - args.toArray.size) Go.undef, defers := [] } w := by
    refine ⟨by simp [Ctx.plain]; omega, Dfr.nil rfl, fun i _ => slot_init hrep _ i, ?_⟩
    exact ⟨hκ, fun _ => trivial, (fun s t b hs => by cases hs), (fun s b o hs => by cases hs), (fun s b hs => by cases hs), ⟨fun _ => False, ⟨Frame.refl _ _, fun _ h => h.elim⟩, fun s b hs => by cases hs⟩, hglob, fun b o v _ hk => hk, (fun b hb => by cases hb), Nat.le_refl _, ⟨fun _ _ _ h => (by cases h), fun _ => Nat.zero_le _, fun _ _ => rfl⟩, fun _ _ _ _ h => h, fun _ _ _ h => h, fun _ h => h.elim⟩
  refine wpIn_mono (h w κ κ sv0 _ w hsim) ?_
  rintro e a' w' ⟨κ', sv', S', hs, hq⟩
  cases e <;> first | exact hq.elim | skip
  all_goals
    obtain ⟨ds, hd, rfl⟩ := hq
    obtain ⟨Ds, d1, d2, d3, _⟩ := hs.defers
    show LeavesInM _ _ _ _ _ _ a'.defers _ _
    rw [d1]
    refine leaves_of rfl rfl hd (fun a w v hs h2 => ?_) Ds a' w' hs d1 d2 d3
    obtain ⟨M, h1, _⟩ := hs.wld.frame
    exact ⟨v, rfl, h2.pure (fits_grow hs.wld) hR, h1.1.below⟩

def FinR (X : Ctx) (rs : List ResultVar) (l' : List D) (R : D) : Exit → St → Prop
  | .normal, S | .ret, S => S.γ 0 = 1 ∧ S.σ 0 = .box l' ∧ ∃ ds, ResL X S rs ds ∧ tupOf ds = R
  | _, _ => False

theorem contractR_intro {Z : Seat} {f : FuncId} {fn : Func} {c : Code} {l l' A : List D} {R : D} (hf : Z.P.funcs[f]? = some fn) (hb : fn.body = some c) (hname : (fn.name == "runtime.NumGoroutine") = false) (hn : Nat.ble (A.length + 1) fn.ntmps = true)
    (hl : PureL l) (hl' : PureL l') (hc : allCell l = true) (hc' : allCell l' = true) (hA : PureL A) (hR : Pure R)
    (h : ∀ w κ b, W (Ctx.plain Z fn.ntmps w κ (some b)) c (FinR (Ctx.plain Z fn.ntmps w κ (some b)) fn.results.toList l' R) (St.initR l A)) : ContractR Z f l l' A R := by
  refine ⟨hA, hR, hl, hl', hc', ⟨fn, c, hf, hb, hname⟩, fun w κ args b T cs hκ hκb hh hcs hglob hrep => ?_⟩
  refine (callsIn_wide (n := 0)).1 (callsIn_of_wp_marks hf hb trivial ?_ rfl)
  have hlen : A.length + 1 ≤ fn.ntmps := Nat.le_of_ble_eq_true hn
  have hal := hrep.length
  let sv : Nat → Value := upd sv0 0 (.pointer (some ⟨b, 0, none⟩))
  let γ : Nat → Nat := upd (fun _ => 0) 0 1
  have hrep' : RepL κ γ sv (.bx 0 1 0 :: A) (Value.pointer (some ⟨b, 0, none⟩) :: args) :=
    .cons _ _ _ _ (.bx _ _ _ _ (Nat.le_refl _) (fun _ => ⟨b, rfl, rfl⟩) rfl) (hrep.pure (fun _ _ _ h => h) hA)
  have hσ : ∀ s b', blk (upd (fun _ => Own.none) 0 (.box l) s) (sv s) = some b' → s = 0 ∧ b' = b := by
    intro s b' hs
    by_cases e : s = 0
    · subst e; rw [upd_same] at hs; simp only [sv, upd_same, blk, Option.some.injEq] at hs; exact ⟨rfl, hs.symm⟩
    · rw [upd_ne _ _ _ _ e] at hs; cases hs
  have hsim : Sim (Ctx.plain Z fn.ntmps w κ (some b)) κ sv (St.initR l A) { tmps := (Value.pointer (some ⟨b, 0, none⟩) :: args).toArray ++ Array.replicate (fn.ntmps - (Value.pointer (some ⟨b, 0, none⟩) :: args).toArray.size) Go.undef, defers := [] } w := by
    refine ⟨by simp [Ctx.plain]; omega, Dfr.nil rfl, fun i _ => slot_init hrep' _ i, ?_⟩
    refine ⟨hκ, fun s => ?_, fun s t b' hs ht => (hσ s b' hs).1.trans (hσ t b' ht).1.symm, fun s b' o hs => ?_, fun s b' hs => .inr (by rw [(hσ s b' hs).2]; rfl), ⟨fun k => k = b, ⟨Frame.refl _ _, fun k h => .inr (by rw [h])⟩, fun s b' hs => (hσ s b' hs).2⟩, fun g l hg => ?_, fun b o v _ hk => hk, fun b' hb' => ?_, Nat.le_refl _, ⟨fun _ _ _ h => (by cases h), fun _ => Nat.zero_le _, fun s (e : 0 = γ s) => upd_ne _ _ _ _ (fun e2 => by subst e2; simp only [γ, upd_same] at e; cases e)⟩, fun _ _ _ _ h => h, fun _ _ _ h => h, fun _ h => h.elim⟩
    · by_cases e : s = 0
      · subst e
        exact ⟨b, T, cs, rfl, hh, hcs.pure (fun _ _ _ h => h) hl, hc⟩
      · show Owns _ _ _ _ _ s (upd (fun _ => Own.none) 0 (.box l) s)
        rw [upd_ne _ _ _ _ e]; trivial
    · rw [(hσ s b' hs).2]; exact hκb o
    · obtain ⟨h1, u, h2, h3⟩ := hglob g l hg
      exact ⟨h1, u, h2.pure (fun _ _ _ h => h) (Z.globPure g l hg), h3⟩
    · have hb' : some b = some b' := hb'
      simp only [Option.some.injEq] at hb'
      subst hb'
      exact ⟨Nat.le_refl _, fun _ => rfl⟩
  refine wpIn_mono (h w κ b κ sv _ w hsim) ?_
  rintro e a' w' ⟨κ', sv', S', hs, hq⟩
  cases e <;> first | exact hq.elim | skip
  all_goals
    obtain ⟨hγ, hσ', ds, hd, rfl⟩ := hq
    obtain ⟨Ds, d1, d2, d3, _⟩ := hs.defers
    show LeavesInM _ _ _ _ _ _ a'.defers _ _
    rw [d1]
    refine leaves_of rfl rfl hd (fun a w v hs h2 => ?_) Ds a' w' hs d1 d2 d3
    have hpin := (hs.wld.pin b rfl).2 hγ
    have hown := hs.wld.own 0
    rw [hσ'] at hown
    obtain ⟨b2, T2, cs2, e1, e2, e3, e4⟩ := hown
    rw [hpin] at e1
    simp only [Value.pointer.injEq, Option.some.injEq, Addr.mk.injEq, and_true] at e1
    subst e1
    obtain ⟨M, h1, _⟩ := hs.wld.frame
    exact ⟨v, cs2, T2, rfl, e2, e3.pure (fits_grow hs.wld) hl', h2.pure (fits_grow hs.wld) hR, h1.1⟩

section
variable {X : Ctx} {S : St} {rs : List ResultVar}
theorem fin_I {t : Nat} {k : IntKind} {n n' : Int} (hr : rs = [.tmp t]) (h : S.ev X (.tmp t) = .int k n) (e : n = n') : FinQ X rs (.int k n') .ret S := ⟨[.int k n], by rw [hr]; exact ⟨h, trivial⟩, by rw [e]; rfl⟩
theorem fin_B {t : Nat} {b b' : Bool} (hr : rs = [.tmp t]) (h : S.ev X (.tmp t) = .bool b) (e : b = b') : FinQ X rs (.bool b') .ret S := ⟨[.bool b], by rw [hr]; exact ⟨h, trivial⟩, by rw [e]; rfl⟩
theorem fin_S {t : Nat} {d : D} (hr : rs = [.tmp t]) (h : S.ev X (.tmp t) = d) : FinQ X rs d .ret S := ⟨[d], by rw [hr]; exact ⟨h, trivial⟩, rfl⟩
theorem fin_A {p s g j : Nat} {T : TypeId} {l m m' : List D} {r : TRow} (hr : rs = [.cell p T]) (hx : S.ev X (.tmp p) = .bx s g j) (hg : S.γ s = g) (hσ : S.σ s = .box l) (ht : nth X.Z.tab T = some r) (h9 : Nat.beq r.k 9 = false)
    (hk : (Nat.beq r.k 1 || Nat.beq r.k 2) = true) (hm : takeN r.sz (dropN j l) = some m) (e : m = m') : FinQ X rs (.agg m') .ret S :=
  ⟨[.agg m], by rw [hr]; exact ⟨⟨s, g, j, l, r, hx, hg, hσ, ht, h9, .inl ⟨hk, m, hm, rfl⟩⟩, trivial⟩, by rw [e]; rfl⟩
theorem rv_A {p s g j : Nat} {T : TypeId} {l m : List D} {r : TRow} (hx : S.ev X (.tmp p) = .bx s g j) (hg : S.γ s = g) (hσ : S.σ s = .box l) (ht : nth X.Z.tab T = some r) (h9 : Nat.beq r.k 9 = false)
    (hk : (Nat.beq r.k 1 || Nat.beq r.k 2) = true) (hm : takeN r.sz (dropN j l) = some m) : ResV X S (.cell p T) (.agg m) := ⟨s, g, j, l, r, hx, hg, hσ, ht, h9, .inl ⟨hk, m, hm, rfl⟩⟩
theorem rv_I {t : Nat} {k : IntKind} {n : Int} (h : S.ev X (.tmp t) = .int k n) : ResV X S (.tmp t) (.int k n) := h
theorem rv_B {t : Nat} {b : Bool} (h : S.ev X (.tmp t) = .bool b) : ResV X S (.tmp t) (.bool b) := h
theorem fin_2 {r1 r2 : ResultVar} {d1 d2 e1 e2 : D} (hr : rs = [r1, r2]) (h1 : ResV X S r1 d1) (h2 : ResV X S r2 d2) (q1 : d1 = e1) (q2 : d2 = e2) : FinQ X rs (.tup [e1, e2]) .ret S := ⟨[d1, d2], by rw [hr]; exact ⟨h1, h2, trivial⟩, by rw [q1, q2]; rfl⟩
theorem fin_3 {r1 r2 r3 : ResultVar} {d1 d2 d3 e1 e2 e3 : D} (hr : rs = [r1, r2, r3]) (h1 : ResV X S r1 d1) (h2 : ResV X S r2 d2) (h3 : ResV X S r3 d3) (q1 : d1 = e1) (q2 : d2 = e2) (q3 : d3 = e3) : FinQ X rs (.tup [e1, e2, e3]) .ret S :=
  ⟨[d1, d2, d3], by rw [hr]; exact ⟨h1, h2, h3, trivial⟩, by rw [q1, q2, q3]; rfl⟩
theorem finR_of {l' : List D} {R : D} (h : FinQ X rs R .ret S) (hg : S.γ 0 = 1) (hσ : S.σ 0 = .box l') : FinR X rs l' R .ret S := ⟨hg, hσ, h⟩
end
end Go.Ab
