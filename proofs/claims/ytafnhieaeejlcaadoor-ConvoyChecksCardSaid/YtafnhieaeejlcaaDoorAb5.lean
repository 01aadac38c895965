/- The rules of the operations that lay memory and write it. -/
import Derived.Test.YtafnhieaeejlcaaDoorAb4
import Derived.Laws.AppendOwnNone
set_option linter.all false
namespace Go.Ab
open Go Go.RowKit

section
variable {X : Ctx} {κ : Nat → Nat → Option Value} {sv : Nat → Value} {S : St} {a : Act} {w : World}

theorem blk_box {l : List D} {b : Nat} : blk (.box l) (.pointer (some ⟨b, 0, none⟩)) = some b := rfl
theorem owns_lt {base : Nat} {γ : Nat → Nat} {s : Nat} {ow : Own} (h : Owns base κ γ sv w s ow) {b : Nat} (hb : blk ow (sv s) = some b) : b < w.heap.size := by
  cases ow with
  | none => cases hb
  | box l =>
    obtain ⟨b', T, cs, e1, e2, _⟩ := h
    rw [e1] at hb
    simp only [blk, Option.some.injEq] at hb
    subst hb
    exact (Array.getElem?_eq_some_iff.1 e2).1
  | arr T z n f =>
    obtain ⟨xs, e1, _⟩ := h
    rcases e1.2 with ⟨hv, _⟩ | ⟨g, cap, cur, hv, _, hg, _⟩
    · rw [hv] at hb; cases hb
    · rw [hv] at hb
      simp only [blk, Option.some.injEq] at hb
      subst hb
      exact (Array.getElem?_eq_some_iff.1 hg).1

theorem owns_mono {base : Nat} {κ' : Nat → Nat → Option Value} {γ γ' : Nat → Nat} {sv' : Nat → Value} {w' : World} {s : Nat} {ow : Own} (hle : Le κ κ' γ γ' sv sv') (hsv : sv' s = sv s)
    (hblk : ∀ b, blk ow (sv s) = some b → w'.heap[b]? = w.heap[b]?) (h : Owns base κ γ sv w s ow) : Owns base κ' γ' sv' w' s ow := by
  cases ow with
  | none => trivial
  | box l =>
    obtain ⟨b, T, cs, e1, e2, e3, e4⟩ := h
    refine ⟨b, T, cs, by rw [hsv, e1], ?_, e3.mono hle, e4⟩
    rw [hblk b (by rw [e1]; rfl)]; exact e2
  | arr T z n f =>
    obtain ⟨xs, e1, e2, e3, e4⟩ := h
    refine ⟨xs, ?_, e2, e3, fun i hi => (e4 i hi).mono hle⟩
    rw [hsv]
    refine ⟨e1.1, ?_⟩
    rcases e1.2 with hn | ⟨g, cap, cur, hv, hb, hg, rest⟩
    · exact .inl hn
    · exact .inr ⟨g, cap, cur, hv, hb, by rw [hblk g (by rw [hv]; rfl)]; exact hg, rest⟩

theorem le_renew (κ : Nat → Nat → Option Value) (γ : Nat → Nat) (sv : Nat → Value) (s : Nat) (pv : Value) : Le κ κ γ (upd γ s (γ s + 1)) sv (upd sv s pv) := by
  refine ⟨fun _ _ _ h => h, fun t => ?_, fun t h => ?_⟩
  · by_cases e : t = s
    · subst e; rw [upd_same]; omega
    · rw [upd_ne _ _ _ _ e]; exact Nat.le_refl _
  · by_cases e : t = s
    · subst e; rw [upd_same] at h; omega
    · rw [upd_ne _ _ _ _ e]

/-- What place s owned is gone; it owns something new, which lies in new memory or where the old lay; nothing else has turned. -/
theorem owns_cells {base : Nat} {γ : Nat → Nat} {s : Nat} {ow : Own} (h : Owns base κ γ sv w s ow) {b : Nat} (hb : blk ow (sv s) = some b) : ∃ o : Obj, w.heap[b]? = some o ∧ o.isCells = true := by
  cases ow with
  | none => cases hb
  | box l =>
    obtain ⟨b', T, cs, e1, e2, _⟩ := h
    rw [e1] at hb; simp only [blk, Option.some.injEq] at hb; subst hb; exact ⟨_, e2, rfl⟩
  | arr T z n f =>
    obtain ⟨xs, e1, _⟩ := h
    rcases e1.2 with ⟨hv, _⟩ | ⟨g, cap, cur, hv, _, hg, _⟩
    · rw [hv] at hb; cases hb
    · rw [hv] at hb; simp only [blk, Option.some.injEq] at hb; subst hb; exact ⟨_, hg, rfl⟩
theorem frame_step (h : SimW X κ sv S w) {w' : World} {row : Option Nat} (hg : w.grownBy w' row) (hrow : ∀ b, row = some b → ∃ s, blk (S.σ s) (sv s) = some b) {σ' : Nat → Own} {sv' : Nat → Value}
    (hnew : ∀ s b, blk (σ' s) (sv' s) = some b → w.heap.size ≤ b ∨ ∃ t, blk (S.σ t) (sv t) = some b) : ∃ M, X.Φ M w' ∧ ∀ s b, blk (σ' s) (sv' s) = some b → M b := by
  obtain ⟨M, h1, h2⟩ := h.frame
  refine ⟨_, X.cl M w w' h1 ⟨hg.os, hg.tape, hg.output, hg.size, fun k hk hm => hg.block k hk (fun e => ?_)⟩, fun s b hb => ?_⟩
  · obtain ⟨s, hs⟩ := hrow k e.symm; exact hm (h2 s k hs)
  · rcases hnew s b hb with h3 | ⟨t, h3⟩
    · exact .inr h3
    · exact .inl (h2 t b h3)
theorem dfr_own {a : Act} (h : Sim X κ sv S a w) {w' : World} (s : Nat) (hg : w.grownBy w' (blk (S.σ s) (sv s))) : Dfr X.nd X.w0.heap.size a w' := h.defers.grown hg fun _ hb => owns_cells (h.wld.own s) hb

theorem SimW.renew (h : SimW X κ sv S w) {w' : World} (s : Nat) (ow : Own) (pv : Value) (hg : w.grownBy w' (blk (S.σ s) (sv s)))
    (hf : ∀ b, blk ow pv = some b → (w.heap.size ≤ b ∨ blk (S.σ s) (sv s) = some b))
    (ho : Owns X.w0.heap.size κ (upd S.γ s (S.γ s + 1)) (upd sv s pv) w' s ow) (ρ' : Nat → D) : SimW X κ (upd sv s pv) ⟨ρ', upd S.γ s (S.γ s + 1), upd S.σ s ow⟩ w' := by
  have h0 := h
  obtain ⟨h1, h2, h3, h4, h5, _, h7, hold, hpin, hbase, hlep, a1, a2, a3⟩ := h
  have hle := le_renew κ S.γ sv s pv
  have hbt : ∀ t, t ≠ s → ∀ b, blk (S.σ t) (sv t) = some b → w'.heap[b]? = w.heap[b]? := fun t ht b hb =>
    hg.block b (owns_lt (h2 t) hb) (fun e => ht (h3 t s b hb e.symm))
  have hbk : ∀ t b, blk (upd S.σ s ow t) (upd sv s pv t) = some b → (t = s ∧ (w.heap.size ≤ b ∨ blk (S.σ s) (sv s) = some b)) ∨ (t ≠ s ∧ blk (S.σ t) (sv t) = some b) := by
    intro t b hb
    by_cases e : t = s
    · subst e; rw [upd_same, upd_same] at hb; exact .inl ⟨rfl, hf b hb⟩
    · rw [upd_ne _ _ _ _ e, upd_ne _ _ _ _ e] at hb; exact .inr ⟨e, hb⟩
  refine ⟨fun b o v hk => ?_, fun t => ?_, fun t u b ht hu => ?_, fun t b o ht => ?_, fun t b ht => ?_, frame_step h0 hg (fun b hb => ⟨s, hb⟩) (fun t b ht => ?_), fun g l hgl => ?_, hold, fun b hb => ?_, Nat.le_trans hbase hg.size, hlep.trans hle, a1, fun t b ht => ?_, fun b h => Nat.lt_of_lt_of_le (a3 b h) hg.size⟩
  · have hc := h1 b o v hk
    refine hg.cell hc (fun e => ?_)
    have := h4 s b o e.symm
    rw [this] at hk; cases hk
  · by_cases e : t = s
    · subst e; simp only [upd_same]; exact ho
    · simp only [upd_ne _ _ _ _ e]
      exact owns_mono hle (upd_ne _ _ _ _ e) (hbt t e) (h2 t)
  · simp only at ht hu
    rcases hbk t b ht with ⟨rfl, h8⟩ | ⟨e1, h8⟩ <;> rcases hbk u b hu with ⟨rfl, h9⟩ | ⟨e2, h9⟩
    · rfl
    · have := owns_lt (h2 u) h9
      rcases h8 with h8 | h8
      · omega
      · exact h3 _ _ b h8 h9
    · have := owns_lt (h2 t) h8
      rcases h9 with h9 | h9
      · omega
      · exact h3 _ _ b h8 h9
    · exact h3 t u b h8 h9
  · simp only at ht
    rcases hbk t b ht with ⟨rfl, h8⟩ | ⟨e1, h8⟩
    · rcases h8 with h8 | h8
      · cases hk : κ b o with
        | none => rfl
        | some v => have := World.block_lt_of_cell? w _ (h1 b o v hk); simp at this; omega
      · exact h4 _ b o h8
    · exact h4 t b o h8
  · simp only at ht
    rcases hbk t b ht with ⟨rfl, h8⟩ | ⟨e1, h8⟩
    · rcases h8 with h8 | h8
      · exact .inl (Nat.le_trans hbase h8)
      · exact h5 _ b h8
    · exact h5 t b h8
  · rcases hbk t b ht with ⟨rfl, h8⟩ | ⟨e1, h8⟩
    · rcases h8 with h8 | h8
      · exact .inl h8
      · exact .inr ⟨_, h8⟩
    · exact .inr ⟨t, h8⟩
  · obtain ⟨hc, u, hu, hk⟩ := h7 g l hgl
    exact ⟨hc, u, hu.mono hle, hk⟩
  · obtain ⟨e1, e2⟩ := hpin b hb
    by_cases e : 0 = s
    · subst e; simp only [upd_same]; exact ⟨by omega, fun e => by omega⟩
    · simp only [upd_ne _ _ _ _ e]; exact ⟨e1, e2⟩
  · rcases hbk t b ht with ⟨rfl, h8⟩ | ⟨e1, h8⟩
    · rcases h8 with h8 | h8
      · exact fun hT => by have := a3 b hT; omega
      · exact a2 _ b h8
    · exact a2 t b h8

theorem below_grown {w w' : World} (h : Below w.heap.size w w') (row : Option Nat) : w.grownBy w' row := ⟨h.os, h.tape, h.output, h.size, fun k hk _ => h.block k hk⟩

/-- What place s owns is written: it lies where it lay. -/
theorem SimW.rewrite (h : SimW X κ sv S w) {w' : World} (s : Nat) (ow : Own) (hg : w.grownBy w' (blk (S.σ s) (sv s))) (hf : blk ow (sv s) = blk (S.σ s) (sv s))
    (ho : Owns X.w0.heap.size κ S.γ sv w' s ow) (ρ' : Nat → D) : SimW X κ sv ⟨ρ', S.γ, upd S.σ s ow⟩ w' := by
  have h0 := h
  obtain ⟨h1, h2, h3, h4, h5, _, h7, hold, hpin, hbase, hlep, a1, a2, a3⟩ := h
  have hbt : ∀ t, t ≠ s → ∀ b, blk (S.σ t) (sv t) = some b → w'.heap[b]? = w.heap[b]? := fun t ht b hb =>
    hg.block b (owns_lt (h2 t) hb) (fun e => ht (h3 t s b hb e.symm))
  have hbk : ∀ t b, blk (upd S.σ s ow t) (sv t) = some b → blk (S.σ t) (sv t) = some b := by
    intro t b hb
    by_cases e : t = s
    · subst e; rw [upd_same] at hb; rw [← hf]; exact hb
    · rw [upd_ne _ _ _ _ e] at hb; exact hb
  refine ⟨fun b o v hk => ?_, fun t => ?_, fun t u b ht hu => h3 t u b (hbk t b ht) (hbk u b hu), fun t b o ht => h4 t b o (hbk t b ht), fun t b ht => h5 t b (hbk t b ht), frame_step h0 hg (fun b hb => ⟨s, hb⟩) (fun t b ht => .inr ⟨t, hbk t b ht⟩), h7, hold, hpin, Nat.le_trans hbase hg.size, hlep, a1, fun t b ht => a2 t b (hbk t b ht), fun b h => Nat.lt_of_lt_of_le (a3 b h) hg.size⟩
  · have hc := h1 b o v hk
    refine hg.cell hc (fun e => ?_)
    have := h4 s b o e.symm
    rw [this] at hk; cases hk
  · by_cases e : t = s
    · subst e; simp only [upd_same]; exact ho
    · simp only [upd_ne _ _ _ _ e]
      exact owns_mono (Le.refl _ _ _) rfl (hbt t e) (h2 t)

/-- What place s owned is never written again. -/
theorem SimW.freeze (h : SimW X κ sv S w) (s : Nat) (hnew : ∀ b, blk (S.σ s) (sv s) = some b → X.w0.heap.size ≤ b) (ρ' : Nat → D) : SimW X (fun b o => if blk (S.σ s) (sv s) = some b then w.cell? ⟨b, o, none⟩ else κ b o) sv ⟨ρ', S.γ, upd S.σ s .none⟩ w := by
  obtain ⟨h1, h2, h3, h4, h5, ⟨M, h6, h6'⟩, h7, hold, hpin, hbase, hlep, a1, a2, a3⟩ := h
  have hle : Le κ (fun b o => if blk (S.σ s) (sv s) = some b then w.cell? ⟨b, o, none⟩ else κ b o) S.γ S.γ sv sv := by
    refine ⟨fun b o v hk => ?_, fun _ => Nat.le_refl _, fun _ _ => rfl⟩
    split
    · rename_i e; have := h4 s b o e; rw [this] at hk; cases hk
    · exact hk
  have hbk : ∀ t b, blk (upd S.σ s .none t) (sv t) = some b → t ≠ s ∧ blk (S.σ t) (sv t) = some b := by
    intro t b hb
    by_cases e : t = s
    · subst e; rw [upd_same] at hb; cases hb
    · rw [upd_ne _ _ _ _ e] at hb; exact ⟨e, hb⟩
  refine ⟨fun b o v hk => ?_, fun t => ?_, fun t u b ht hu => h3 t u b (hbk t b ht).2 (hbk u b hu).2, fun t b o ht => ?_, fun t b ht => h5 t b (hbk t b ht).2, ⟨M, h6, fun t b ht => h6' t b (hbk t b ht).2⟩, fun g l hgl => ?_, fun b o v hb hk => ?_, hpin, hbase, hlep.trans hle, fun b o v hk => ?_, fun t b ht => a2 t b (hbk t b ht).2, a3⟩
  · split at hk
    · exact hk
    · exact h1 b o v hk
  · by_cases e : t = s
    · subst e; simp only [upd_same]; trivial
    · simp only [upd_ne _ _ _ _ e]
      exact owns_mono hle rfl (fun _ _ => rfl) (h2 t)
  · obtain ⟨e, hb⟩ := hbk t b ht
    rw [if_neg (fun e2 => e (h3 t s b hb e2))]
    exact h4 t b o hb
  · obtain ⟨hc, u, hu, hk⟩ := h7 g l hgl
    exact ⟨hc, u, hu.mono hle, fun j v hj => hle.cells _ _ _ (hk j v hj)⟩
  · split at hk
    · rename_i e; have := hnew b e; omega
    · exact hold b o v hb hk
  · split at hk
    · rename_i e; exact a2 s b e
    · exact a1 b o v hk

theorem freeze_le (h : SimW X κ sv S w) (s : Nat) : Le κ (fun b o => if blk (S.σ s) (sv s) = some b then w.cell? ⟨b, o, none⟩ else κ b o) S.γ S.γ sv sv := by
  refine ⟨fun b o v hk => ?_, fun _ => Nat.le_refl _, fun _ _ => rfl⟩
  split
  · rename_i e; have := h.sep s b o e; rw [this] at hk; cases hk
  · exact hk

theorem Sim.slotsR (h : Sim X κ sv S a w) {κ' : Nat → Nat → Option Value} {γ' : Nat → Nat} {sv' : Nat → Value} (hle : Le κ κ' S.γ γ' sv sv') (dst : Option Nat) {d : D} {v : Value} (hd : Rep κ' γ' sv' d v) :
    ∀ i, i < X.nt → Rep κ' γ' sv' ((S.put dst d).ρ i) ((a.put dst v).tmps.getD i Go.undef) := by
  intro j hj
  cases dst with
  | none => exact (h.slot j hj).mono hle
  | some i =>
    simp only [St.put, St.set, Act.put, getD_set]
    by_cases e : i = j
    · subst e; rw [if_pos ⟨rfl, by rw [h.size]; exact hj⟩, upd_same]; exact hd
    · rw [if_neg (by intro h'; exact e h'.1), upd_ne _ _ _ _ (fun h' => e h'.symm)]; exact (h.slot j hj).mono hle

theorem put_size (a : Act) (dst : Option Nat) (v : Value) : (a.put dst v).tmps.size = a.tmps.size := by cases dst <;> simp [Act.put]
theorem put_defers (a : Act) (dst : Option Nat) (v : Value) : (a.put dst v).defers = a.defers := by cases dst <;> rfl
end

/-- An operation that may lay memory and write it. -/
def NOp (X : Ctx) (o : Oper) (S S' : St) : Prop := ∀ κ sv a w, Sim X κ sv S a w →
  ∃ v w' κ' sv', ((execOp a.eval o).run X.Z.P w = .ok (.value v) w' ∨ ((execOp a.eval o).run X.Z.P w = .ok .skip w' ∧ v = Go.undef)) ∧ Sim X κ' sv' S' (a.put o.dst v) w'

section
variable {X : Ctx} {Q : Exit → St → Prop} {S S' : St} {ops : Array Oper} {o : Oper} {rest : List Oper} {T : TypeId} {r : TRow}
theorem WL_n (hg : o.guard = none) (h : NOp X o S S') (hk : WL X ops rest Q S') : WL X ops (o :: rest) Q S := fun κ sv a w hs => by
  obtain ⟨v, w', κ', sv', h1, h2⟩ := h κ sv a w hs
  refine wpListIn_plain hg fun K hK => ?_
  rcases h1 with h1 | ⟨h1, rfl⟩
  · exact op_val h1 (hK _ _ (hk κ' sv' _ _ h2))
  · exact op_skip h1 (hK _ _ (hk κ' sv' _ _ h2))

/-- The state in which place s has a new box, its pointer in slot s. -/
def St.boxed (S : St) (s : Nat) (l : List D) : St := ⟨upd S.ρ s (.bx s (S.γ s + 1) 0), upd S.γ s (S.γ s + 1), upd S.σ s (.box l)⟩

theorem sim_boxed {κ : Nat → Nat → Option Value} {sv : Nat → Value} {a : Act} {w : World} (hs : Sim X κ sv S a w) (s : Nat) {l : List D} {cs : List Value} (hl : RepL κ S.γ sv l cs) (hc : allCell l = true) :
    Sim X κ (upd sv s (.pointer (some ⟨w.heap.size, 0, none⟩))) (S.boxed s l) (a.put (some s) (.pointer (some ⟨w.heap.size, 0, none⟩))) (w.alloc (.cells cs.toArray T)) := by
  have hle := le_renew κ S.γ sv s (.pointer (some ⟨w.heap.size, 0, none⟩))
  refine ⟨by rw [put_size]; exact hs.size, (dfr_own hs s (World.grownBy_alloc w _ _)).put _ _, ?_, ?_⟩
  · exact hs.slotsR hle (some s) (.bx _ _ _ _ (by rw [upd_same]; exact Nat.le_refl _) (fun _ => ⟨w.heap.size, upd_same _ _ _, rfl⟩) rfl)
  · refine hs.wld.renew s (.box l) _ (World.grownBy_alloc w _ _) (fun b hb => ?_) ⟨w.heap.size, T, cs, upd_same _ _ _, heap_alloc_new w _, hl.mono hle, hc⟩ _
    simp only [blk, Option.some.injEq] at hb
    exact .inl (by omega)

theorem n_box {x : Operand} {s : Nat} {d : D} (ho : o.op = .box T x) (hd : o.dst = some s) (hx : S.ev X x = d) (hc : allCell d.cells = true) : NOp X o S (S.boxed s d.cells) := fun κ sv a w hs => by
  have h1 := (hx ▸ hs.ev x).cells hc
  have := sim_boxed (T := T) hs s h1.1 hc
  rw [hd]
  refine ⟨_, _, κ, _, .inl ?_, this⟩
  simp [execOp, ho, Instr.box, newVar, newRow]

theorem n_boxa {x : Operand} {s : Nat} {l : List D} (ho : o.op = .box T x) (hd : o.dst = some s) (hx : S.ev X x = .agg l) (hc : allCell l = true) : NOp X o S (S.boxed s l) := n_box ho hd hx hc
theorem n_boxc {x : Operand} {s : Nat} {k : IntKind} {n : Int} (ho : o.op = .box T x) (hd : o.dst = some s) (hx : S.ev X x = .int k n) : NOp X o S (S.boxed s [.int k n]) := n_box ho hd hx rfl
theorem n_boxb {x : Operand} {s : Nat} {b : Bool} (ho : o.op = .box T x) (hd : o.dst = some s) (hx : S.ev X x = .bool b) : NOp X o S (S.boxed s [.bool b]) := n_box ho hd hx rfl

theorem zr_rep {κ : Nat → Nat → Option Value} {γ : Nat → Nat} {sv : Nat → Value} : ∀ {zs : List Zr} {vs : List Value}, Zr.fitsL zs vs = true → RepL κ γ sv (zs.map Zr.toD) vs
  | [], [], _ => .nil
  | [], _ :: _, h => by cases h
  | _ :: _, [], h => by cases h
  | z :: zs, v :: vs, h => by
    simp only [Zr.fitsL, Bool.and_eq_true] at h
    refine .cons _ _ _ _ ?_ (zr_rep h.2)
    have h1 := h.1
    unfold Zr.fits at h1
    split at h1
    · simp only [Bool.and_eq_true, beq_iff_eq] at h1; obtain ⟨rfl, rfl⟩ := h1; exact .int _ _
    · simp only [Bool.not_eq_true'] at h1; subst h1; exact .bool _
    · rename_i x
      have : x = ⟨#[]⟩ := by cases x; simp_all
      subst this; exact .str _
    · exact .nil
    · cases h1
theorem zr_cell : ∀ (zs : List Zr), allCell (zs.map Zr.toD) = true
  | [] => rfl
  | z :: zs => by simp only [List.map_cons, allCell, zr_cell zs, Bool.and_true]; cases z <;> rfl

theorem n_alloc {s : Nat} (ho : o.op = .alloc T) (hd : o.dst = some s) (hr : nth X.Z.tab T = some r) (h9 : Nat.beq r.k 9 = false) : NOp X o S (S.boxed s (r.zs.map Zr.toD)) := fun κ sv a w hs => by
  have hok := X.Z.tabOk _ _ hr (by intro e; rw [e] at h9; cases h9)
  obtain ⟨i, d, hi, hdd, _, _, ⟨v, hv, hz⟩, _⟩ := row_info hok
  have := sim_boxed (T := T) hs s (zr_rep (γ := S.γ) (κ := κ) (sv := sv) hz) (zr_cell _)
  rw [hd]
  refine ⟨_, _, κ, _, .inl ?_, this⟩
  simp [execOp, ho, Instr.alloc, zeroValue, typeInfo, hi, hv, newVar, newRow]

/-- Cells put over cells. -/
def overN : List D → Nat → List D → Option (List D)
  | l, 0, [] => some l
  | _ :: l, 0, d :: m => match overN l 0 m with
    | some k => some (d :: k)
    | none => none
  | x :: l, j + 1, m => match overN l j m with
    | some k => some (x :: k)
    | none => none
  | [], _, _ => none
theorem overN_eq : ∀ {l m k : List D} {j : Nat}, overN l j m = some k → k = l.take j ++ m ++ l.drop (j + m.length) ∧ j + m.length ≤ l.length
  | l, [], k, 0, h => by
    cases l <;> (simp [overN] at h; subst h; simp)
  | [], m, k, j + 1, h => by simp [overN] at h
  | [], d :: m, k, 0, h => by simp [overN] at h
  | x :: l, d :: m, k, 0, h => by
    unfold overN at h
    cases h1 : overN l 0 m with
    | none => rw [h1] at h; cases h
    | some k' =>
    rw [h1] at h
    simp only [Option.some.injEq] at h
    subst h
    obtain ⟨e, hl⟩ := overN_eq h1
    refine ⟨?_, by simp at hl ⊢; omega⟩
    rw [e]; simp
  | x :: l, m, k, j + 1, h => by
    unfold overN at h
    cases h1 : overN l j m with
    | none => rw [h1] at h; cases h
    | some k' =>
    rw [h1] at h
    simp only [Option.some.injEq] at h
    subst h
    obtain ⟨e, hl⟩ := overN_eq h1
    refine ⟨?_, by simp at hl ⊢; omega⟩
    rw [e]
    rw [show j + 1 + m.length = j + m.length + 1 from by omega]
    simp

theorem run_storeVar {P : Program} {w : World} (hok : rowOk P T r = true) {v : Value} {vs : List Value} (hv : v.cells.toList = vs) (hsz : vs.length = r.sz) {g j : Nat} {E : TypeId} {cur : Array Value} (hg : w.heap[g]? = some (.cells cur E (0, 0)))
    (hl : j + vs.length ≤ cur.size) (h1 : ∀ u ∈ vs, u.oneCell' = true) :
    (storeVar T ⟨g, j, none⟩ v).run P w = .ok () (w.setRow g (cur.toList.take j ++ vs ++ cur.toList.drop (j + vs.length)).toArray) := by
  obtain ⟨i, d, hi, hd, hs, _⟩ := row_info hok
  have := run_storeCells_at P g j E vs 0 cur w hg (by simpa using hl) h1
  simp only [Nat.add_zero] at this
  have h2 : v.cells.size = i.size := by rw [hs, ← hsz, ← hv]; simp
  simp [storeVar, run_sizeOf hi, h2, hv, this]

theorem grown_setRow (w : World) (g : Nat) (cs : Array Value) : w.grownBy (w.setRow g cs) (some g) :=
  ⟨rfl, rfl, rfl, by simp, fun k _ hk => setRow_other w g k _ (fun e => hk (by simp [e]))⟩

theorem n_stb {x y : Operand} {s g j : Nat} {l k : List D} {d : D} (ho : o.op = .store T x y) (hx : S.ev X x = .bx s g j) (hg : S.γ s = g) (hσ : S.σ s = .box l) (hy : S.ev X y = d) (hc : allCell d.cells = true)
    (hr : nth X.Z.tab T = some r) (h9 : Nat.beq r.k 9 = false) (hn : d.cells.length = r.sz) (hk : overN l j d.cells = some k) (hdst : o.dst = none) : NOp X o S ⟨S.ρ, S.γ, upd S.σ s (.box k)⟩ := fun κ sv a w hs => by
  have hok := X.Z.tabOk _ _ hr (by intro e; rw [e] at h9; cases h9)
  obtain ⟨b, Tb, cs, he, hsv, hh, hrep, hac⟩ := box_cells hs hx hg hσ
  obtain ⟨h1, h2⟩ := (hy ▸ hs.ev y).cells hc
  obtain ⟨rfl, hlen⟩ := overN_eq hk
  have hvl := h1.length
  have hcl := hrep.length
  have hrun := run_storeVar (w := w) hok (v := a.eval y) rfl (by rw [hvl]; exact hn) (g := b) (j := j) hh (by simp [hvl, hcl] at hlen ⊢; omega) h2
  have hrun' : (execOp a.eval o).run X.Z.P w = ((storeVar T ⟨b, j, none⟩ (a.eval y)).run X.Z.P w).andThen fun _ w' => .ok .skip w' := by simp [execOp, ho, he, Instr.storeAt, Instr.sureAddr]
  rw [hrun, Result.andThen_ok] at hrun'
  rw [hdst]
  refine ⟨Go.undef, _, κ, sv, .inr ⟨hrun', rfl⟩, ⟨hs.size, dfr_own hs s (by rw [hσ, hsv]; exact grown_setRow _ _ _), hs.slot, ?_⟩⟩
  · refine hs.wld.rewrite s (.box _) ?_ (by rw [hσ, hsv]; rfl) ?_ _
    · rw [hσ, hsv]; exact grown_setRow _ _ _
    · refine ⟨b, Tb, cs.take j ++ (a.eval y).cells.toList ++ cs.drop (j + (a.eval y).cells.toList.length), hsv, ?_, ?_, ?_⟩
      · have := setRow_heap w b (cs.toArray) (cs.take j ++ (a.eval y).cells.toList ++ cs.drop (j + (a.eval y).cells.toList.length)).toArray Tb (0, 0) hh
        simpa using this
      · rw [hvl]; exact ((hrep.take j).append h1).append (hrep.drop _)
      · exact allCell_append (allCell_append (allCell_take hac _) hc) (allCell_drop hac _)

/-- One element of a family turned. -/
def updF (f : Nat → List D) (i : Nat) (l : List D) : Nat → List D := fun k => if k = i then l else f k

theorem chunk_other {xs ys : List Value} {z i k n : Nat} (hx : xs.length = n * z) (hy : ys.length = z) (hi : i < n) (hk : k < n) (hne : k ≠ i) :
    ((xs.take (i * z) ++ ys ++ xs.drop (i * z + z)).drop (k * z)).take z = (xs.drop (k * z)).take z := by
  have hiz : i * z + z ≤ n * z := by have := Nat.mul_le_mul_right z (show i + 1 ≤ n by omega); rw [Nat.add_mul] at this; omega
  have hkz : k * z + z ≤ n * z := by have := Nat.mul_le_mul_right z (show k + 1 ≤ n by omega); rw [Nat.add_mul] at this; omega
  apply List.ext_getElem?
  intro j
  simp only [List.getElem?_take, List.getElem?_drop]
  by_cases hj : j < z
  · simp only [hj, if_true]
    by_cases hlt : k < i
    · have : k * z + z ≤ i * z := by have := Nat.mul_le_mul_right z (show k + 1 ≤ i by omega); rw [Nat.add_mul] at this; omega
      rw [List.append_assoc, List.getElem?_append_left (by simp; omega), List.getElem?_take, if_pos (by omega)]
    · have : i * z + z ≤ k * z := by have := Nat.mul_le_mul_right z (show i + 1 ≤ k by omega); rw [Nat.add_mul] at this; omega
      rw [List.getElem?_append_right (by simp; omega)]
      simp only [List.length_append, List.length_take, List.getElem?_drop]
      congr 1; omega
  · simp [hj]
theorem chunk_same {xs ys : List Value} {z i n : Nat} (hx : xs.length = n * z) (hy : ys.length = z) (hi : i < n) :
    ((xs.take (i * z) ++ ys ++ xs.drop (i * z + z)).drop (i * z)).take z = ys := by
  have hiz : i * z + z ≤ n * z := by have := Nat.mul_le_mul_right z (show i + 1 ≤ n by omega); rw [Nat.add_mul] at this; omega
  rw [List.append_assoc, List.drop_append]
  have h1 : (xs.take (i * z)).length = i * z := by simp; omega
  rw [List.drop_eq_nil_of_le (by omega), h1, Nat.sub_self, List.drop_zero, List.nil_append, List.take_append, List.take_of_length_le (by omega), hy, Nat.sub_self, List.take_zero, List.append_nil]

theorem splice_chunk {xs ds : List Value} {a z j : Nat} (hj : j + ds.length ≤ z) :
    xs.take (a + j) ++ ds ++ xs.drop (a + j + ds.length) = xs.take a ++ (((xs.drop a).take z).take j ++ ds ++ ((xs.drop a).take z).drop (j + ds.length)) ++ xs.drop (a + z) := by
  generalize hc : xs.drop a = c
  have h1 : xs.take (a + j) = xs.take a ++ c.take j := by rw [List.take_add, hc]
  have h2 : xs.drop (a + j + ds.length) = c.drop (j + ds.length) := by rw [← hc, List.drop_drop, Nat.add_assoc]
  have h3 : xs.drop (a + z) = c.drop z := by rw [← hc, List.drop_drop]
  have h4 : (c.take z).take j = c.take j := by rw [List.take_take, Nat.min_eq_left (by omega)]
  have h5 : c.drop (j + ds.length) = (c.take z).drop (j + ds.length) ++ c.drop z := by
    rw [List.drop_take]
    have h6 : c.drop z = (c.drop (j + ds.length)).drop (z - (j + ds.length)) := by rw [List.drop_drop]; congr 1; omega
    rw [h6, List.take_append_drop]
  rw [h1, h2, h3, h4, h5]
  simp only [List.append_assoc]
theorem take_splice {cur ds : List Value} {p N : Nat} (h : p + ds.length ≤ N) (hp : p ≤ cur.length) :
    (cur.take p ++ ds ++ cur.drop (p + ds.length)).take N = (cur.take N).take p ++ ds ++ (cur.take N).drop (p + ds.length) := by
  have h1 : (cur.take p ++ ds).length = p + ds.length := by simp; omega
  rw [List.take_append, List.take_of_length_le (by omega), h1, List.take_take, Nat.min_eq_left (by omega), List.drop_take]

theorem n_sto {x y : Operand} {s g z i j E n : Nat} {f : Nat → List D} {k : List D} {d : D} (ho : o.op = .store T x y) (hx : S.ev X x = .op s g z i j) (hg : S.γ s = g) (hσ : S.σ s = .arr E z n f) (hi : i < n) (hy : S.ev X y = d) (hc : allCell d.cells = true)
    (hr : nth X.Z.tab T = some r) (h9 : Nat.beq r.k 9 = false) (hn : d.cells.length = r.sz) (hk : overN (f i) j d.cells = some k) (hdst : o.dst = none) : NOp X o S ⟨S.ρ, S.γ, upd S.σ s (.arr E z n (updF f i k))⟩ := fun κ sv a w hs => by
  have hok := X.Z.tabOk _ _ hr (by intro e; rw [e] at h9; cases h9)
  obtain ⟨b, cap, xs, he, hsv, hown, hfl, hac, hrep, _⟩ := arr_cells hs hx hg hσ hi
  obtain ⟨h1, h2⟩ := (hy ▸ hs.ev y).cells hc
  obtain ⟨rfl, hlen⟩ := overN_eq hk
  have hvl := h1.length
  have hown' := hown
  obtain ⟨hxl, hor⟩ := hown'
  rcases hor with ⟨hv, hn0⟩ | ⟨gb, cap', cur, hv, hbase, hheap, hnc, hcm, hsz, htake⟩
  · omega
  rw [hsv] at hv
  simp only [Value.slice.injEq, Option.some.injEq, Addr.mk.injEq, and_true, true_and] at hv
  obtain ⟨rfl, rfl⟩ := hv
  have hiz : i * z + z ≤ n * z := by have := Nat.mul_le_mul_right z (show i + 1 ≤ n by omega); rw [Nat.add_mul] at this; omega
  have hcap : n * z ≤ cap * z := Nat.mul_le_mul_right z hnc
  have hds : d.cells.length + j ≤ z := by omega
  have hrun := run_storeVar (w := w) hok (v := a.eval y) rfl (by rw [hvl]; exact hn) (g := b) (j := i * z + j) hheap (by rw [hvl]; omega) h2
  have hrun' : (execOp a.eval o).run X.Z.P w = ((storeVar T ⟨b, i * z + j, none⟩ (a.eval y)).run X.Z.P w).andThen fun _ w' => .ok .skip w' := by simp [execOp, ho, he, Instr.storeAt, Instr.sureAddr]
  rw [hrun, Result.andThen_ok] at hrun'
  rw [hdst]
  refine ⟨Go.undef, _, κ, sv, .inr ⟨hrun', rfl⟩, ⟨hs.size, dfr_own hs s (by rw [hσ, hsv]; exact grown_setRow _ _ _), hs.slot, ?_⟩⟩
  · refine hs.wld.rewrite s (.arr E z n _) ?_ (by rw [hσ, hsv]; rfl) ?_ _
    · rw [hσ, hsv]; exact grown_setRow _ _ _
    · let ys : List Value := ((xs.drop (i * z)).take z).take j ++ (a.eval y).cells.toList ++ ((xs.drop (i * z)).take z).drop (j + (a.eval y).cells.toList.length)
      have hys : ys.length = z := by
        simp only [ys, List.length_append, List.length_take, List.length_drop, hvl]
        omega
      have hxs' : (xs.take (i * z + j) ++ (a.eval y).cells.toList ++ xs.drop (i * z + j + (a.eval y).cells.toList.length)) = xs.take (i * z) ++ ys ++ xs.drop (i * z + z) := splice_chunk (by rw [hvl]; omega)
      refine ⟨xs.take (i * z) ++ ys ++ xs.drop (i * z + z), ?_, fun q hq => ?_, fun q hq => ?_, fun q hq => ?_⟩
      · refine ⟨by simp [hys]; omega, .inr ⟨b, cap, (cur.toList.take (i * z + j) ++ (a.eval y).cells.toList ++ cur.toList.drop (i * z + j + (a.eval y).cells.toList.length)).toArray, hsv, hbase, setRow_heap w b cur _ E (0, 0) hheap, hnc, hcm, ?_, ?_⟩⟩
        · simp [hvl]; omega
        · rw [← hxs', ← htake]
          exact take_splice (by rw [hvl]; omega) (by simp; omega)
      · simp only [updF]; split
        · simp [hfl] at hlen ⊢; omega
        · have := hs.wld.own s; rw [hσ] at this; obtain ⟨_, _, e2, _⟩ := this; exact e2 q hq
      · simp only [updF]; split
        · exact allCell_append (allCell_append (allCell_take hac _) hc) (allCell_drop hac _)
        · have := hs.wld.own s; rw [hσ] at this; obtain ⟨_, _, _, e3, _⟩ := this; exact e3 q hq
      · by_cases e : q = i
        · subst e
          rw [chunk_same hown.1 hys hi]
          simp only [updF, if_true, ys, hvl]
          exact ((hrep.take j).append h1).append (hrep.drop _)
        · rw [chunk_other hown.1 hys hi hq e]
          simp only [updF, if_neg e]
          have := hs.wld.own s; rw [hσ] at this
          obtain ⟨xs2, e1, _, _, e4⟩ := this
          have hxx : xs2 = xs := by
            rcases e1.2 with ⟨hv2, _⟩ | ⟨g2, cap2, cur2, hv2, _, hg2, _, _, _, ht2⟩
            · rw [hsv] at hv2; cases hv2
            · rw [hsv] at hv2
              simp only [Value.slice.injEq, Option.some.injEq, Addr.mk.injEq, and_true, true_and] at hv2
              obtain ⟨rfl, rfl⟩ := hv2
              rw [hheap] at hg2
              simp only [Option.some.injEq, Obj.cells.injEq, and_true] at hg2
              rw [← ht2, ← htake, hg2]
          rw [← hxx]; exact e4 q hq
end
end Go.Ab
