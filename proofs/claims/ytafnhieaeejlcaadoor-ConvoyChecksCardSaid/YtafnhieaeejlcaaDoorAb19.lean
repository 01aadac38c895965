/- Calls of function values. -/
import Derived.Test.YtafnhieaeejlcaaDoorAb18
set_option linter.all false
namespace Go.Ab
open Go Go.RowKit
section
variable {X : Ctx} {Q : Exit → St → Prop} {S T S0 : St} {ops : Array Oper} {o : Oper} {rest : List Oper} {E : List Ent} {V : List Vl}
theorem run_callv {P : Program} {f : FuncId} (h : HasBody P f) {a : Act} {w : World} {x : Operand} {xs : Array Operand} {ts : Array TypeId} {lb : List Value} (ho : o.op = .call { callee := .value x, args := xs, argTypes := ts }) (hx : a.eval x = .func (.func f) #[] lb.toArray) :
    (execOp a.eval o).run P w = .ok (.enter f (xs.toList.map a.eval ++ lb).toArray) w := by
  obtain ⟨fn, c, h1, h2, h3⟩ := h
  have h4 : execOp a.eval o = callFunc f (#[] ++ xs.map a.eval ++ lb.toArray) := by
    unfold execOp; rw [ho]; simp [resolve, Deferred.ofValue, hx, invoke]
  rw [h4]
  have h5 : (#[] ++ xs.map a.eval ++ lb.toArray) = (xs.toList.map a.eval ++ lb).toArray := by simp [← Array.toList_map]
  rw [h5]
  have h6 : ¬ fn.name = "runtime.NumGoroutine" := by simpa using h3
  simp [callFunc, h1, h2, h6]
theorem ev_fn {κ : Nat → Nat → Option Value} {sv : Nat → Value} {a : Act} {w : World} (hs : Sim X κ sv S a w) {x : Operand} {f : FuncId} {c : List D} (h : S.ev X x = .fn f c) : ∃ lb : List Value, a.eval x = .func (.func f) #[] lb.toArray ∧ RepL κ S.γ sv c lb := by
  have h1 := hs.ev x
  rw [h] at h1
  generalize a.eval x = v at h1
  cases h1 with
  | fn _ _ vs hl => exact ⟨vs, rfl, hl⟩
theorem call_scalL {κ : Nat → Nat → Option Value} {sv : Nat → Value} {a : Act} {w : World} (hs : Sim X κ sv S a w) {f : FuncId} {L A : List D} {vs : List Value} {R : D} {v0 : Value} (hc : Contract X.Z f A R) (hr : RepL κ S.γ sv L vs) (hA : FzL S L A) (hR : scal R = some v0) :
    Calls X.Z.P f vs.toArray w fun e w'' => e = .returned v0 ∧ Below w.heap.size w w'' := by
  let κ' : Nat → Nat → Option Value := fun b o => w.cell? ⟨b, o, none⟩
  have hle : Le κ κ' S.γ S.γ sv sv := ⟨fun b o v hk => hs.wld.imm b o v hk, fun _ => Nat.le_refl _, fun _ _ => rfl⟩
  have hr2 := hA.rep hs.wld hle (fun b o v h => h) hr
  refine (hc.calls w κ' _ (fun b o v h => h) (fun g l hg => ?_) (hr2.pure (fun _ _ _ h => h) hc.pureA)).mono ?_
  · obtain ⟨h1, u, h2, h3⟩ := Sim.globOk hs.wld g l hg
    exact ⟨h1, u, h2.mono ⟨fun b o v hk => hs.wld.imm b o v hk, fun _ => Nat.le_refl _, fun _ _ => rfl⟩, fun j v hj => hs.wld.imm _ _ _ (h3 j v hj)⟩
  · rintro e w'' ⟨v, rfl, hv, hb2⟩
    rw [scal_eq hR hv]
    exact ⟨rfl, hb2⟩
theorem WL_callv {x : Operand} {f : FuncId} {c : List D} {xs : Array Operand} {ts : Array TypeId} {A : List D} {R : D} {v0 : Value} (hg : o.guard = none) (ho : o.op = .call { callee := .value x, args := xs, argTypes := ts }) (hx : S.ev X x = .fn f c) (hc : Contract X.Z f A R) (hA : FzL S (xs.toList.map (S.ev X) ++ c) A) (hR : scal R = some v0)
    {t : Nat} (hd : o.dst = some t) (hk : WL X ops rest Q (S.set t R)) : WL X ops (o :: rest) Q S := fun κ sv a w hs => by
  obtain ⟨lb, h1, h2⟩ := ev_fn hs hx
  refine wpListIn_plain hg fun K hK => op_call (run_callv hc.body ho h1) (call_scalL hs hc ((evs_rep hs xs.toList).append h2) hA hR) ?_
  rintro e w' ⟨rfl, hb⟩
  refine ⟨v0, rfl, ?_⟩
  rw [hd]
  exact hK _ _ (hk κ sv _ w' ((hs.later hb).put (some t) (scal_rep hR)))
theorem WG_callv {x : Operand} {f : FuncId} {c : List D} {xs : Array Operand} {ts : Array TypeId} {A : List D} {R : D} {v0 : Value} {t : Nat} {gs : List Nat} (hw : Want X S ops o gs) (ho : o.op = .call { callee := .value x, args := xs, argTypes := ts }) (hd : o.dst = some t) (hx : S.ev X x = .fn f c) (hc : Contract X.Z f A R) (hA : FzL S (xs.toList.map (S.ev X) ++ c) A) (hR : scal R = some v0)
    (hk : WG X Q ops S0 (E ++ [(⟨gs ++ slotsOf (x :: xs.toList), plL (xs.toList.map (S.ev X) ++ c), plL (xs.toList.map (S.ev X) ++ c)⟩, ⟨some t, none, none⟩)]) (V ++ [⟨R, 0, .none⟩]) rest (S.set t R)) : WG X Q ops S0 E V (o :: rest) S := by
  refine WG_step rfl (fun hoi T hT κ sv a w hs => ?_) hk
  have hm : xs.toList.map (T.ev X) = xs.toList.map (S.ev X) := List.map_congr_left fun y hy => ev_congr fun t e => by subst e; exact hT.rr t (List.mem_append_right _ (slots_mem (List.mem_cons_of_mem _ hy)))
  have hxT : T.ev X x = .fn f c := (ev_congr fun t e => by subst e; exact hT.rr t (List.mem_append_right _ (slots_mem (List.mem_cons_self ..)))).trans hx
  have hA' : FzL T (xs.toList.map (T.ev X) ++ c) A := by
    rw [hm]
    exact fzL_agree hA (fun s hs => hT.rg s hs) (fun s hs => hT.ro s hs)
  unfold wpOpIn
  rw [hoi]
  simp only
  rw [if_pos (want_at hw (fun t ht => hT.rr t (List.mem_append_left _ ht)) hs)]
  obtain ⟨lb, h1, h2⟩ := ev_fn hs hxT
  refine op_call (run_callv hc.body ho h1) (call_scalL hs hc ((evs_rep hs xs.toList).append h2) hA' hR) ?_
  rintro e w' ⟨rfl, hb⟩
  refine ⟨v0, rfl, ?_⟩
  rw [hd]
  exact ⟨κ, sv, (hs.later hb).put (some t) (scal_rep hR)⟩
theorem toArr {x : Ab.Own} {E z n : Nat} {f f' : Nat → List D} (h : x = .arr E z n f) (e : ∀ i, f i = f' i) : x = .arr E z n f' := by rw [h, show f = f' from funext e]
/-- A panic that cannot come: the case is closed elsewhere. -/
theorem W_absurd {c : Code} (h : False) : W X c Q S := h.elim
end
/- Methods bound to a value. -/
section
variable {X : Ctx} {Q : Exit → St → Prop} {S T S0 : St} {ops : Array Oper} {o : Oper} {rest : List Oper} {E : List Ent} {V : List Vl} {x y : Operand}
theorem q_mf {cs : Array Operand} {f : FuncId} (ho : o.op = .makeFunc (.func f) cs #[]) : QOp X o S (.mf f (cs.toList.map (S.ev X))) := fun κ sv a w hs => by
  refine ⟨.func (.func f) (cs.map a.eval) #[], ?_, fun w' _ => by simp [execOp, ho, Instr.makeFunc]⟩
  have := Rep.mf (κ := κ) (γ := S.γ) (sv := sv) f _ _ (evs_rep hs cs.toList)
  have e : (cs.toList.map a.eval).toArray = cs.map a.eval := by simp [← Array.toList_map]
  rwa [e] at this
theorem fq_mf {cs : Array Operand} {f : FuncId} (ho : o.op = .makeFunc (.func f) cs #[]) : FQ X o S (.mf f (cs.toList.map (S.ev X))) := fun h => by
  have h1 : cs.toList.map (S.ev X) = cs.toList.map ((restr S (lcOf X S o) h).ev X) := List.map_congr_left fun x hx => (restr_ev (by rw [ho]; simp [Op.operands]; simpa using hx)).symm
  rw [h1]; exact q_mf ho
theorem q_mvMf {f : FuncId} {l : List D} (ho : o.op = .move x) (hd : S.ev X x = .mf f l) : QOp X o S (.mf f l) := q_move ho hd
theorem q_asMf {f : FuncId} {l : List D} (ho : o.op = .assign x) (hd : S.ev X x = .mf f l) : QOp X o S (.mf f l) := q_assign ho hd
theorem run_callm {P : Program} {f : FuncId} (h : HasBody P f) {a : Act} {w : World} {xs : Array Operand} {ts : Array TypeId} {lb : List Value} (ho : o.op = .call { callee := .value x, args := xs, argTypes := ts }) (hx : a.eval x = .func (.func f) lb.toArray #[]) :
    (execOp a.eval o).run P w = .ok (.enter f (lb ++ xs.toList.map a.eval).toArray) w := by
  obtain ⟨fn, c, h1, h2, h3⟩ := h
  have h4 : execOp a.eval o = callFunc f (lb.toArray ++ xs.map a.eval ++ #[]) := by
    unfold execOp; rw [ho]; simp [resolve, Deferred.ofValue, hx, invoke]
  rw [h4]
  have h5 : (lb.toArray ++ xs.map a.eval ++ #[]) = (lb ++ xs.toList.map a.eval).toArray := by simp [← Array.toList_map]
  rw [h5]
  have h6 : ¬ fn.name = "runtime.NumGoroutine" := by simpa using h3
  simp [callFunc, h1, h2, h6]
theorem ev_mf {κ : Nat → Nat → Option Value} {sv : Nat → Value} {a : Act} {w : World} (hs : Sim X κ sv S a w) {f : FuncId} {c : List D} (h : S.ev X x = .mf f c) : ∃ lb : List Value, a.eval x = .func (.func f) lb.toArray #[] ∧ RepL κ S.γ sv c lb := by
  have h1 := hs.ev x
  rw [h] at h1
  generalize a.eval x = v at h1
  cases h1 with
  | mf _ _ vs hl => exact ⟨vs, rfl, hl⟩
theorem WL_callm {f : FuncId} {c : List D} {xs : Array Operand} {ts : Array TypeId} {A : List D} {R : D} {v0 : Value} (hg : o.guard = none) (ho : o.op = .call { callee := .value x, args := xs, argTypes := ts }) (hx : S.ev X x = .mf f c) (hc : Contract X.Z f A R) (hA : FzL S (c ++ xs.toList.map (S.ev X)) A) (hR : scal R = some v0)
    {t : Nat} (hd : o.dst = some t) (hk : WL X ops rest Q (S.set t R)) : WL X ops (o :: rest) Q S := fun κ sv a w hs => by
  obtain ⟨lb, h1, h2⟩ := ev_mf hs hx
  refine wpListIn_plain hg fun K hK => op_call (run_callm hc.body ho h1) (call_scalL hs hc (h2.append (evs_rep hs xs.toList)) hA hR) ?_
  rintro e w' ⟨rfl, hb⟩
  refine ⟨v0, rfl, ?_⟩
  rw [hd]
  exact hK _ _ (hk κ sv _ w' ((hs.later hb).put (some t) (scal_rep hR)))
theorem WG_callm {f : FuncId} {c : List D} {xs : Array Operand} {ts : Array TypeId} {A : List D} {R : D} {v0 : Value} {t : Nat} {gs : List Nat} (hw : Want X S ops o gs) (ho : o.op = .call { callee := .value x, args := xs, argTypes := ts }) (hd : o.dst = some t) (hx : S.ev X x = .mf f c) (hc : Contract X.Z f A R) (hA : FzL S (c ++ xs.toList.map (S.ev X)) A) (hR : scal R = some v0)
    (hk : WG X Q ops S0 (E ++ [(⟨gs ++ slotsOf (x :: xs.toList), plL (c ++ xs.toList.map (S.ev X)), plL (c ++ xs.toList.map (S.ev X))⟩, ⟨some t, none, none⟩)]) (V ++ [⟨R, 0, .none⟩]) rest (S.set t R)) : WG X Q ops S0 E V (o :: rest) S := by
  refine WG_step rfl (fun hoi T hT κ sv a w hs => ?_) hk
  have hm : xs.toList.map (T.ev X) = xs.toList.map (S.ev X) := List.map_congr_left fun y hy => ev_congr fun t e => by subst e; exact hT.rr t (List.mem_append_right _ (slots_mem (List.mem_cons_of_mem _ hy)))
  have hxT : T.ev X x = .mf f c := (ev_congr fun t e => by subst e; exact hT.rr t (List.mem_append_right _ (slots_mem (List.mem_cons_self ..)))).trans hx
  have hA' : FzL T (c ++ xs.toList.map (T.ev X)) A := by
    rw [hm]
    exact fzL_agree hA (fun s hs => hT.rg s hs) (fun s hs => hT.ro s hs)
  unfold wpOpIn
  rw [hoi]
  simp only
  rw [if_pos (want_at hw (fun t ht => hT.rr t (List.mem_append_left _ ht)) hs)]
  obtain ⟨lb, h1, h2⟩ := ev_mf hs hxT
  refine op_call (run_callm hc.body ho h1) (call_scalL hs hc (h2.append (evs_rep hs xs.toList)) hA' hR) ?_
  rintro e w' ⟨rfl, hb⟩
  refine ⟨v0, rfl, ?_⟩
  rw [hd]
  exact ⟨κ, sv, (hs.later hb).put (some t) (scal_rep hR)⟩

/- Arrays. -/
theorem array_row {P : Program} {T : TypeId} {r : TRow} (hok : rowOk P T r = true) (hk : Nat.beq r.k 2 = true) : P.underlying T = some (.array r.ln r.el) := by
  obtain ⟨i, d, _, hd, _, _, _, h4⟩ := row_info hok
  have hk2 := Nat.eq_of_beq_eq_true hk
  cases d <;> try (simp only at h4; omega)
  obtain ⟨_, h5, h6⟩ := h4
  rw [hd, h5, h6]
theorem q_iab {T : TypeId} {r q : TRow} {s g j : Nat} {k : Int} (ho : o.op = .indexAddr T x y) (hx : S.ev X x = .bx s g j) (hg : S.γ s = g) (hy : S.ev X y = .int .i64 k) (h0 : 0 ≤ k)
    (hr : nth X.Z.tab T = some r) (hk : Nat.beq r.k 2 = true) (h1 : k < r.ln) (hq : nth X.Z.tab r.el = some q) (hq9 : Nat.beq q.k 9 = false) : QOp X o S (.bx s g (j + k.toNat * q.sz)) := fun κ sv a w hs => by
  have hok := X.Z.tabOk _ _ hr (by intro e; rw [e] at hk; cases hk)
  have hokq := X.Z.tabOk _ _ hq (by intro e; rw [e] at hq9; cases hq9)
  have hyv := rep_int (hy ▸ hs.ev y)
  obtain ⟨b, e1, e2⟩ := live_bx hs hx hg
  exact ⟨.pointer (some ⟨b, j + k.toNat * q.sz, none⟩), .bx _ _ _ _ (by omega) (fun _ => ⟨b, e1, rfl⟩) rfl, fun w' _ => by
    simp [execOp, ho, e2, hyv, Instr.indexAt, asIntOf, run_underlying (array_row hok hk), Instr.sureAddr, h0, h1, run_size_row hokq, addr_add]⟩
theorem q_idx {T : TypeId} {r q : TRow} {l m : List D} {k : Int} (ho : o.op = .index T x y) (hx : S.ev X x = .agg l) (hy : S.ev X y = .int .i64 k) (h0 : 0 ≤ k)
    (hr : nth X.Z.tab T = some r) (hk : Nat.beq r.k 2 = true) (h1 : k < r.ln) (hq : nth X.Z.tab r.el = some q) (hqk : (Nat.beq q.k 1 || Nat.beq q.k 2) = true) (hm : takeN q.sz (dropN (k.toNat * q.sz) l) = some m) : QOp X o S (.agg m) := fun κ sv a w hs => by
  have hok := X.Z.tabOk _ _ hr (by intro e; rw [e] at hk; cases hk)
  have hokq := X.Z.tabOk _ _ hq (by intro e; rw [e] at hqk; simp at hqk)
  have hyv := rep_int (hy ▸ hs.ev y)
  obtain ⟨vs, e1, hl⟩ := ev_agg hs hx
  obtain ⟨rfl, hlen⟩ := takeN_eq hm
  rw [dropN_eq] at hlen ⊢
  obtain ⟨iq, dq, hiq, hdq, hsq, _⟩ := row_info hokq
  refine ⟨.agg ((vs.drop (k.toNat * q.sz)).take q.sz).toArray, .agg _ _ ((hl.drop _).take _), fun w' _ => ?_⟩
  have hagg : (isAgg r.el).run X.Z.P w' = .ok true w' := by rw [run_isAgg hdq, aggOf_k hokq, hqk]
  have hext : vs.toArray.extract (k.toNat * q.sz) (k.toNat * q.sz + q.sz) = ((vs.drop (k.toNat * q.sz)).take q.sz).toArray := by
    simp [List.extract_eq_drop_take]
  simp [execOp, ho, e1, hyv, Instr.index, asIntOf, run_underlying (array_row hok hk), h0, h1, run_size_row hokq, part, hagg, hext]
end
end Go.Ab
