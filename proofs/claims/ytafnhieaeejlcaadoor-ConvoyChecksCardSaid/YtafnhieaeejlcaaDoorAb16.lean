/- More rules: literals that are written later, slices in elements, equality of structs, nil slices in boxes. -/
import Derived.Test.YtafnhieaeejlcaaDoorAb15
set_option linter.all false
namespace Go.Ab
open Go Go.RowKit

/- A loop's end may be reached by way of weakenings. -/
def ReachK (X : Ctx) (S S' : St) (kr kp : List Nat) (rs : List (Nat × D)) (gs : List (Nat × Nat)) (os : List (Nat × Own)) : Prop := ∃ S'', Wk X S' S'' ∧ MatchK S S'' kr kp rs gs os
section
variable {X : Ctx} {Q : Exit → St → Prop} {S S' S'' : St} {kr kp : List Nat} {rs : List (Nat × D)} {gs : List (Nat × Nat)} {os : List (Nat × Own)}
theorem reach_now (h : MatchK S S' kr kp rs gs os) : ReachK X S S' kr kp rs gs os := ⟨S', Wk.refl _ _, h⟩
theorem reach_wk (hw : Wk X S' S'') (h : ReachK X S S'' kr kp rs gs os) : ReachK X S S' kr kp rs gs os :=
  let ⟨T, h1, h2⟩ := h
  ⟨T, hw.trans h1, h2⟩
theorem W_loopR {c : Code} {α : Type} (kr kp : List Nat) (rs : α → List (Nat × D)) (gs : α → List (Nat × Nat)) (os : α → List (Nat × Own)) (inv : α → Prop) (μ : α → Nat) (x0 : α) (h0 : inv x0) (hs : AllE S.ρ (rs x0) ∧ AllE S.γ (gs x0) ∧ AllE S.σ (os x0))
    (round : ∀ x h, inv x → W X c (thenQ (fun S' => ∃ x', inv x' ∧ μ x' < μ x ∧ ReachK X S S' kr kp (rs x') (gs x') (os x')) Q) (mkK S kr kp (rs x) (gs x) (os x) h)) : W X (.loop c) Q S := by
  refine W_loop (α := α × (Nat → Nat)) (fun x => mkK S kr kp (rs x.1) (gs x.1) (os x.1) x.2) (fun x => inv x.1) (fun x => μ x.1) (x0, S.γ) h0
    (wk_mk ⟨allE_append hs.1 (keepR_ok S kr), allE_append hs.2.1 (keepG_ok S kp), allE_append hs.2.2 (keepO_ok S kp)⟩) (fun x hi => ?_)
  refine W_mono (round x.1 x.2 hi) (fun e S' hq => ?_)
  cases e with
  | normal =>
    obtain ⟨x', h1, h2, S'', h3, h4⟩ := hq
    exact ⟨(x', S''.γ), h1, h2, h3.trans (wk_mk (matchK_match h4))⟩
  | _ => exact hq
end

/- Equality of structs whose fields fill one cell each. -/
def fieldOk (P : Program) (f : Field) : D → Bool
  | .int _ _ => f.name != "_" && (match P.underlying f.type with | some (.int _) => true | _ => false)
  | .bool _ => f.name != "_" && (match P.underlying f.type with | some .bool => true | _ => false)
  | _ => false
def fieldsOk (P : Program) : List Field → List D → Nat → Bool
  | [], [], _ => true
  | f :: fs, d :: ds, n => fieldOk P f d && Nat.beq f.offset n && fieldsOk P fs ds (n + 1)
  | _, _, _ => false
def flatB (P : Program) (T : TypeId) (l : List D) : Bool := match P.underlying T with
  | some (.struct fs) => !P.stoodInHeld T && fieldsOk P fs.toList l 0 && !P.eqGuardType P.depth T
  | _ => false
def eqL : List D → List D → Option Bool
  | [], [] => some true
  | .int k a :: l, .int k' b :: m => match k == k', eqL l m with | true, some r => some (decide (a = b) && r) | _, _ => none
  | .bool a :: l, .bool b :: m => match eqL l m with | some r => some (a == b && r) | none => none
  | _, _ => none
section
variable {P : Program} {κ : Nat → Nat → Option Value} {γ : Nat → Nat} {sv : Nat → Value}
theorem run_fields (w : World) (d : Nat) : ∀ (fs : List Field) (l m : List D) (xs ys : List Value) (pre pre' : List Value) (b : Bool), RepL κ γ sv l xs → RepL κ γ sv m ys → pre.length = pre'.length →
    fieldsOk P fs l pre.length = true → eqL l m = some b → (Op.eqFields (d + 1) (pre ++ xs).toArray (pre' ++ ys).toArray fs).run P w = .ok b w := by
  intro fs
  induction fs with
  | nil =>
    intro l m xs ys pre pre' b h1 h2 hp hf he
    cases l with
    | cons x l => simp [fieldsOk] at hf
    | nil =>
      cases m with
      | nil => simp [eqL] at he; subst he; simp [Op.eqFields]
      | cons x m => simp [eqL] at he
  | cons f fs ih =>
    intro l m xs ys pre pre' b h1 h2 hp hf he
    cases l with
    | nil => simp [fieldsOk] at hf
    | cons x l =>
      simp only [fieldsOk, Bool.and_eq_true] at hf
      obtain ⟨⟨hf1, hf2⟩, hf3⟩ := hf
      have hoff := Nat.eq_of_beq_eq_true hf2
      cases m with
      | nil => cases x <;> simp [eqL] at he
      | cons y m =>
        cases h1 with
        | cons _ vx _ vxs r1 rs1 =>
          cases h2 with
          | cons _ vy _ vys r2 rs2 =>
            have key : ∀ (r b' : Bool), f.name ≠ "_" → P.plainKey f.type = true → eqL l m = some b' → (Op.equalIn (d + 1) f.type vx vy).run P w = .ok r w → b = (r && b') → (Op.eqFields (d + 1) (pre ++ vx :: vxs).toArray (pre' ++ vy :: vys).toArray (f :: fs)).run P w = .ok b w := by
              intro r b' hn hk hb' hr hb
              have p1 : (part f.type (pre ++ vx :: vxs).toArray f.offset).run P w = .ok vx w := run_part_plain w hk (by rw [hoff]; simp)
              have p2 : (part f.type (pre' ++ vy :: vys).toArray f.offset).run P w = .ok vy w := run_part_plain w hk (by rw [hoff, hp]; simp)
              have hrest := ih l m vxs vys (pre ++ [vx]) (pre' ++ [vy]) b' rs1 rs2 (by simp [hp]) (by rw [List.length_append]; exact hf3) hb'
              simp only [List.append_assoc, List.singleton_append] at hrest
              simp only [Op.eqFields, hn, ne_eq, not_false_eq_true, if_true, Sem.run_bind, p1, p2, hr, Result.andThen_ok]
              cases r with
              | false => simp [hb]
              | true => simpa [hb] using hrest
            cases x <;> cases y <;> simp only [eqL] at he <;> try (cases he; done)
            · rename_i k1 a k2 c
              cases r1; cases r2
              simp only [fieldOk, Bool.and_eq_true] at hf1
              obtain ⟨hn, hu⟩ := hf1
              cases hkk : k1 == k2 with
              | false => rw [hkk] at he; simp at he
              | true =>
                have : k1 = k2 := by simpa using hkk
                subst this
                rw [hkk] at he
                cases he2 : eqL l m with
                | none => rw [he2] at he; cases he
                | some r =>
                  rw [he2] at he
                  simp only [Option.some.injEq] at he
                  cases hT : P.underlying f.type with
                  | none => simp [hT] at hu
                  | some dd =>
                    cases dd <;> simp [hT] at hu
                    refine key (a == c) r (by simpa using hn) (by simp [Program.plainKey, hT]) he2 (by simp [Op.equalIn, run_underlying hT]) (by rw [← he]; first | rfl | simp)
            · rename_i a c
              cases r1; cases r2
              simp only [fieldOk, Bool.and_eq_true] at hf1
              obtain ⟨hn, hu⟩ := hf1
              cases he2 : eqL l m with
              | none => rw [he2] at he; cases he
              | some r =>
                rw [he2] at he
                simp only [Option.some.injEq] at he
                cases hT : P.underlying f.type with
                | none => simp [hT] at hu
                | some dd =>
                  cases dd <;> simp [hT] at hu
                  refine key (a == c) r (by simpa using hn) (by simp [Program.plainKey, hT]) he2 (by simp [Op.equalIn, run_underlying hT]) (by rw [← he])
theorem run_eq_flat (w : World) (d : Nat) {T : TypeId} {l m : List D} {xs ys : List Value} {b : Bool} (hf : flatB P T l = true) (h1 : RepL κ γ sv l xs) (h2 : RepL κ γ sv m ys) (he : eqL l m = some b) :
    (Op.equalIn (d + 2) T (.agg xs.toArray) (.agg ys.toArray)).run P w = .ok b w := by
  unfold flatB at hf
  cases hu : P.underlying T with
  | none => simp [hu] at hf
  | some dd =>
    cases dd <;> simp only [hu] at hf <;> try (cases hf; done)
    rename_i fs
    simp only [Bool.and_eq_true, Bool.not_eq_true'] at hf
    have hfs : P.fieldsOf T = fs := by simp [Program.fieldsOf, hu]
    rw [run_equalIn_struct w (d + 1) T _ _ (by rw [hfs]; exact hu) hf.1.1, hfs]
    exact run_fields w d fs.toList l m xs ys [] [] b h1 h2 rfl hf.1.2 he
theorem flat_guard {T : TypeId} {l : List D} (hf : flatB P T l = true) : P.eqGuardType P.depth T = false := by
  unfold flatB at hf
  cases hu : P.underlying T with
  | none => simp [hu] at hf
  | some dd =>
    cases dd <;> simp only [hu] at hf <;> try (cases hf; done)
    simp only [Bool.and_eq_true, Bool.not_eq_true'] at hf
    exact hf.2
end
section
variable {X : Ctx} {S : St} {o : Oper} {T T2 : TypeId} {x y : Operand}
theorem ev_agg {κ : Nat → Nat → Option Value} {sv : Nat → Value} {a : Act} {w : World} (hs : Sim X κ sv S a w) {l : List D} (h : S.ev X x = .agg l) : ∃ vs, a.eval x = .agg vs.toArray ∧ RepL κ S.γ sv l vs := by
  have h1 := hs.ev x
  rw [h] at h1
  generalize a.eval x = v at h1
  cases h1 with
  | agg _ vs hv => exact ⟨vs, rfl, hv⟩
theorem q_eqA {l m : List D} {b : Bool} (ho : o.op = .binOp .eql T x y T2) (hx : S.ev X x = .agg l) (hy : S.ev X y = .agg m) (he : eqL l m = some b) (hf : flatB X.Z.P T l = true) : QOp X o S (.bool b) := fun κ sv a w hs => by
  obtain ⟨xs, e1, r1⟩ := ev_agg hs hx
  obtain ⟨ys, e2, r2⟩ := ev_agg hs hy
  refine ⟨.bool b, .bool _, fun w' _ => ?_⟩
  have := run_eq_flat (P := X.Z.P) w' 9998 hf r1 r2 he
  simp [execOp, ho, e1, e2, eqGuard, binOp, Op.equal, Op.maxDepth, this, flat_guard hf]
theorem q_neA {l m : List D} {b : Bool} (ho : o.op = .binOp .neq T x y T2) (hx : S.ev X x = .agg l) (hy : S.ev X y = .agg m) (he : eqL l m = some b) (hf : flatB X.Z.P T l = true) : QOp X o S (.bool (!b)) := fun κ sv a w hs => by
  obtain ⟨xs, e1, r1⟩ := ev_agg hs hx
  obtain ⟨ys, e2, r2⟩ := ev_agg hs hy
  refine ⟨.bool (!b), .bool _, fun w' _ => ?_⟩
  have := run_eq_flat (P := X.Z.P) w' 9998 hf r1 r2 he
  simp [execOp, ho, e1, e2, eqGuard, binOp, Op.equal, Op.maxDepth, this, flat_guard hf]
end

/- Literals that are written later. -/
section
variable {X : Ctx} {Q : Exit → St → Prop} {S S' : St} {ops : Array Oper} {o : Oper} {rest : List Oper} {T : TypeId} {r q : TRow}
theorem n_bsl0 {ps : Array (Nat × Operand)} {t z : Nat} {E : TypeId} (f : Nat → List D) (ho : o.op = .buildSlice T 0 ps) (hd : o.dst = some t) (hps : ps = #[])
    (hr : nth X.Z.tab T = some r) (hk : Nat.beq r.k 3 = true) (hE : r.el = E) (hq : nth X.Z.tab E = some q) (hq9 : Nat.beq q.k 9 = false) (hz : q.sz = z) :
    NOp X o S (S.owned t t (.arr E z 0 f)) := fun κ sv a w hs => by
  have hokr := X.Z.tabOk _ _ hr (by intro e; rw [e] at hk; cases hk)
  have hokq := X.Z.tabOk _ _ hq (by intro e; rw [e] at hq9; cases hq9)
  obtain ⟨iq, dq, hiq, hdq, hsq, hbq, ⟨zv, hzv, hzf⟩, _⟩ := row_info hokq
  have hu := slice_row hokr hk
  rw [hE] at hu
  have hrun : (execOp a.eval o).run X.Z.P w = .ok (.value (.slice (some ⟨w.heap.size, 0, none⟩) 0 0)) (w.alloc (.cells #[] E)) := by
    have hz0 : (Array.range 0).map (fun _ => (default : Value)) = #[] := by
      apply Array.eq_empty_of_size_eq_zero; simp
    simp [execOp, ho, hps, Instr.buildSlice, run_underlying hu, sizeOf, typeInfo, hiq, newRow, Instr.fill, hz0]
  have hb' : Below w.heap.size w (w.alloc (.cells #[] E)) := (Below.refl _ _).alloc (Nat.le_refl _) _
  rw [hd]
  refine ⟨_, _, κ, _, .inl hrun, sim_owned hs t t (pv := .slice (some ⟨w.heap.size, 0, none⟩) 0 0) rfl (below_grown hb' _) (fun b hb => by simp only [blk, Option.some.injEq] at hb; exact .inl (by omega)) ?_⟩
  refine ⟨[], by rw [upd_same]; exact ⟨by simp, .inr ⟨w.heap.size, 0, #[], rfl, hs.wld.base, heap_alloc_new w _, Nat.le_refl _, Nat.zero_le _, by simp, by simp⟩⟩, fun i h => by omega, fun i h => by omega, fun i h => by omega⟩
theorem n_bslo {ps : Array (Nat × Operand)} {n z t : Nat} {xs : List Operand} {E : TypeId} {cs : List (List D)} (ho : o.op = .buildSlice T n ps) (hd : o.dst = some t) (hsq : seqP 0 ps.toList = some xs) (hn : Nat.beq xs.length n = true)
    (hr : nth X.Z.tab T = some r) (hk : Nat.beq r.k 3 = true) (hE : r.el = E) (hq : nth X.Z.tab E = some q) (hq9 : Nat.beq q.k 9 = false) (hz : q.sz = z) (hz0 : Nat.beq z 0 = false) (hn0 : Nat.beq n 0 = false) (hsm : Nat.ble (n * z) 16777216 = true) (hc : evC X S xs = cs) (hok : okC z cs = true) :
    NOp X o S (S.owned t t (.arr E z n (nthD cs))) := fun κ sv a w hs => by
  subst hc
  obtain ⟨hrun, hfl⟩ := run_bsl hs ho hsq hn hr hk hE hq hq9 hz hz0 hn0 hsm hok
  obtain ⟨hrep, hcells⟩ := evC_rep hs hok
  have hlen : xs.length = n := Nat.eq_of_beq_eq_true hn
  have hz1 : 0 < z := by
    cases z with
    | zero => cases hz0
    | succ z => omega
  have hle : n * z ≤ 16777216 := Nat.le_of_ble_eq_true hsm
  have hnz : n ≤ n * z := Nat.le_mul_of_pos_right n hz1
  have hb' : Below w.heap.size w (w.alloc (.cells ((xs.map a.eval).map (·.cells.toList)).flatten.toArray E)) := (Below.refl _ _).alloc (Nat.le_refl _) _
  rw [hd]
  refine ⟨_, _, κ, _, .inl hrun, sim_owned hs t t (pv := .slice (some ⟨w.heap.size, 0, none⟩) n n) rfl (below_grown hb' _) (fun b hb => by simp only [blk, Option.some.injEq] at hb; exact .inl (by omega)) ?_⟩
  have hnth : ∀ i, i < n → ∃ c, nth (evC X S xs) i = some c ∧ nthD (evC X S xs) i = c := by
    intro i hi
    rw [nth_eq]
    have : i < (evC X S xs).length := by rw [evC_length, hlen]; exact hi
    exact ⟨(evC X S xs)[i], by simp [this], by simp [nthD, nth_eq, this]⟩
  refine ⟨((xs.map a.eval).map (·.cells.toList)).flatten, by rw [upd_same]; exact ⟨hfl, .inr ⟨w.heap.size, n, ((xs.map a.eval).map (·.cells.toList)).flatten.toArray, rfl, hs.wld.base, heap_alloc_new w _, Nat.le_refl _, by unfold maxLen; omega, by rw [List.size_toArray]; exact hfl, by rw [List.take_of_length_le (by simp only [List.toList_toArray]; omega)]⟩⟩, fun i hi => ?_, fun i hi => ?_, fun i hi => ?_⟩
  · obtain ⟨c, h1, h2⟩ := hnth i hi; rw [h2]; exact (hrep i c h1).1
  · obtain ⟨c, h1, h2⟩ := hnth i hi; rw [h2]; exact (hrep i c h1).2.1
  · obtain ⟨c, h1, h2⟩ := hnth i hi
    obtain ⟨_, _, v, h3, h4⟩ := hrep i c h1
    rw [h2]
    have hch : ((((xs.map a.eval).map (·.cells.toList)).flatten).drop (i * z)).take z = v.cells.toList := by
      apply List.ext_getElem?
      intro j
      rw [List.getElem?_take]
      split
      · rename_i hj
        rw [List.getElem?_drop, flat_at _ (z := z) (fun c hc => by
          obtain ⟨v, hv, rfl⟩ := List.mem_map.1 hc
          simpa using (hcells v hv).1) i j hj]
        rw [List.getElem?_map, h3]; rfl
      · rename_i hj
        have hv : v ∈ xs.map a.eval := List.mem_of_getElem? h3
        have := (hcells v hv).1
        rw [List.getElem?_eq_none (by simp at this ⊢; omega)]
    rw [hch]
    exact h4.mono (le_renew κ S.γ sv t _)

/-- A slice of the call's own, in an element of another one, is never written again. -/
theorem wk_freeze_elem (t i j : Nat) {s g E z n E2 z2 n2 : Nat} {f f2 f2' : Nat → List D} {l0 l' : List D} (hσt : S.σ t = .arr E2 z2 n2 f2) (hne : Nat.beq t s = false) (hi : i < n2) (h0 : f2 i = l0) (hl : nth l0 j = some (.os s g)) (hg : S.γ s = g) (hσ : S.σ s = .arr E z n f) (hl' : overN l0 j [.sl z n f] = some l') (hf : ∀ k, k < n2 → f2' k = if k = i then l' else f2 k) :
    Wk X S ⟨S.ρ, S.γ, upd (upd S.σ s .none) t (.arr E2 z2 n2 f2')⟩ := fun κ sv a w hs => by
  have hle := freeze_le hs.wld s
  subst h0
  have hne : t ≠ s := fun e => by rw [e, Nat.beq_refl] at hne; cases hne
  have hW := hs.wld.freeze s (arr_new hs.wld hσ) S.ρ
  obtain ⟨hl'e, hlen⟩ := overN_eq hl'
  have hown := hW.own t
  simp only [upd_ne _ _ _ _ hne, hσt] at hown
  obtain ⟨xs, e1, e2, e3, e4⟩ := hown
  have hsim : SimW X (fun b o => if blk (S.σ s) (sv s) = some b then w.cell? ⟨b, o, none⟩ else κ b o) sv ⟨S.ρ, S.γ, upd (upd S.σ s .none) t (.arr E2 z2 n2 f2')⟩ w := by
    refine hW.rewrite t (.arr E2 z2 n2 f2') (below_grown (Below.refl _ _) _) (by
      simp only [upd_ne _ _ _ _ hne, hσt]
      cases sv t with
      | pointer a => cases a <;> rfl
      | slice a => cases a <;> rfl
      | _ => rfl) ⟨xs, e1, fun k hk => ?_, fun k hk => ?_, fun k hk => ?_⟩ _
    · rw [hf k hk]
      split
      · rename_i h; subst h; rw [hl'e]; have := e2 k hk; simp at hlen ⊢; omega
      · exact e2 k hk
    · rw [hf k hk]
      split
      · rename_i h; subst h; rw [hl'e]; exact allCell_append (allCell_append (allCell_take (e3 k hk) _) rfl) (allCell_drop (e3 k hk) _)
      · exact e3 k hk
    · rw [hf k hk]
      split
      · rename_i h
        subst h
        rw [hl'e]
        have e3' := e4 k hk
        rw [nth_eq] at hl
        obtain ⟨vj, hvj, hrj⟩ := e3'.get hl
        generalize (xs.drop (k * z2)).take z2 = cs at e3' hvj
        have hjl : j < cs.length := (List.getElem?_eq_some_iff.1 hvj).1
        have hcs : cs = cs.take j ++ [vj] ++ cs.drop (j + 1) := by
          have h3 : cs[j] = vj := by simpa [List.getElem?_eq_getElem hjl] using hvj
          rw [← h3, List.append_assoc, List.singleton_append, List.getElem_cons_drop, List.take_append_drop]
        rw [hcs]
        refine ((e3'.take j).append (.cons _ _ _ _ ?_ .nil)).append (e3'.drop _)
        have hv : vj = sv s := by
          cases hrj with
          | os _ _ _ _ hh _ => exact hh hg.symm
        rw [hv]
        exact frozen_rep hs.wld hσ hle (fun b o v hb hc => by simp [hb, hc])
      · exact e4 k hk
  exact ⟨_, sv, ⟨hs.size, hs.defers, fun i hi => (hs.slot i hi).mono hle, hsim⟩⟩

/-- A nil slice in a box's cell becomes a slice of the call's own. -/
theorem wk_nilc (t j s : Nat) (E z : Nat) (f : Nat → List D) {l l' : List D} (hσt : S.σ t = .box l) (hne : Nat.beq t s = false) (hs0 : S.σ s = .none) (hl : nth l j = some .nil) (hl' : overN l j [.os s (S.γ s + 1)] = some l') :
    Wk X S ⟨S.ρ, upd S.γ s (S.γ s + 1), upd (upd S.σ s (.arr E z 0 f)) t (.box l')⟩ := fun κ sv a w hs => by
  have hne : t ≠ s := fun e => by rw [e, Nat.beq_refl] at hne; cases hne
  obtain ⟨rfl, hlen⟩ := overN_eq hl'
  have hle := le_renew κ S.γ sv s (.slice none 0 0)
  have hW := hs.wld.renew s (.arr E z 0 f) (.slice none 0 0) (below_grown (Below.refl _ _) _) (fun b hb => by cases hb)
      ⟨[], by rw [upd_same]; exact World.ownsRow_nil _ _ _ _, fun _ h => by omega, fun _ h => by omega, fun _ h => by omega⟩ S.ρ
  refine ⟨κ, upd sv s (.slice none 0 0), ⟨hs.size, hs.defers, fun i hi => (hs.slot i hi).mono hle, ?_⟩⟩
  have hown := hW.own t
  simp only [upd_ne _ _ _ _ hne, hσt] at hown
  obtain ⟨b, Tb, cs, e1, e2, e3, e4⟩ := hown
  refine hW.rewrite t (.box _) (below_grown (Below.refl _ _) _) (by simp only [upd_ne _ _ _ _ hne, hσt] at e1 ⊢; rw [e1]; rfl) ⟨b, Tb, cs, e1, e2, ?_, ?_⟩ _
  · rw [nth_eq] at hl
    obtain ⟨vj, hvj, hrj⟩ := e3.get hl
    have hjl : j < cs.length := (List.getElem?_eq_some_iff.1 hvj).1
    have hcs : cs = cs.take j ++ [vj] ++ cs.drop (j + 1) := by
      have h3 : cs[j] = vj := by simpa [List.getElem?_eq_getElem hjl] using hvj
      rw [← h3, List.append_assoc, List.singleton_append, List.getElem_cons_drop, List.take_append_drop]
    rw [hcs]
    refine ((e3.take j).append (.cons _ _ _ _ ?_ .nil)).append (e3.drop _)
    cases hrj
    exact .os _ _ _ (by rw [upd_same]; exact Nat.le_refl _) (fun _ => by rw [upd_same]) rfl
  · exact allCell_append (allCell_append (allCell_take e4 _) rfl) (allCell_drop e4 _)
theorem f_bsl0 {ps : Array (Nat × Operand)} {t z : Nat} {E : TypeId} (f : Nat → List D) (ho : o.op = .buildSlice T 0 ps) (hd : o.dst = some t) (hps : ps = #[])
    (hr : nth X.Z.tab T = some r) (hk : Nat.beq r.k 3 = true) (hE : r.el = E) (hq : nth X.Z.tab E = some q) (hq9 : Nat.beq q.k 9 = false) (hz : q.sz = z) :
    FN X o S [t] (wB t) ⟨.os t (S.γ t + 1), S.γ t + 1, .arr E z 0 f⟩ := ⟨fun T hT hs => by
  have h := n_bsl0 (S := T) f ho hd hps hr hk hE hq hq9 hz
  have : T.owned t t (.arr E z 0 f) = T.app (wB t) ⟨.os t (S.γ t + 1), S.γ t + 1, .arr E z 0 f⟩ := by
    unfold St.owned St.app; rw [hs t (by simp)]; rfl
  rw [← this]; exact h⟩
theorem f_bslo {ps : Array (Nat × Operand)} {n z t : Nat} {xs : List Operand} {E : TypeId} {cs : List (List D)} (ho : o.op = .buildSlice T n ps) (hd : o.dst = some t) (hsq : seqP 0 ps.toList = some xs) (hn : Nat.beq xs.length n = true)
    (hr : nth X.Z.tab T = some r) (hk : Nat.beq r.k 3 = true) (hE : r.el = E) (hq : nth X.Z.tab E = some q) (hq9 : Nat.beq q.k 9 = false) (hz : q.sz = z) (hz0 : Nat.beq z 0 = false) (hn0 : Nat.beq n 0 = false) (hsm : Nat.ble (n * z) 16777216 = true) (hc : evC X S xs = cs) (hok : okC z cs = true) :
    FN X o S [t] (wB t) ⟨.os t (S.γ t + 1), S.γ t + 1, .arr E z n (nthD cs)⟩ := ⟨fun T hT hs => by
  have key : ∀ l : List Operand, (∀ x ∈ l, x ∈ o.op.operands.toList) → evC X T l = evC X S l := by
    intro l
    induction l with
    | nil => intro _; rfl
    | cons x l ih => intro h; simp only [evC]; rw [agree_ev hT (h x (List.mem_cons_self ..)), ih fun y hy => h y (List.mem_cons_of_mem _ hy)]
  have hmem : ∀ x ∈ xs, x ∈ o.op.operands.toList := by
    intro x hx
    rw [ho]
    have h1 := seqP_eq hsq
    simp only [Op.operands]
    rw [h1]
    simp only [List.map_map, List.mem_map, Function.comp_apply]
    obtain ⟨i, hi, rfl⟩ := List.getElem_of_mem hx
    exact ⟨(xs[i], i), by rw [List.mk_mem_zipIdx_iff_getElem?]; simp [hi], rfl⟩
  have h := n_bslo (S := T) ho hd hsq hn hr hk hE hq hq9 hz hz0 hn0 hsm ((key xs hmem).trans hc) hok
  have : T.owned t t (.arr E z n (nthD cs)) = T.app (wB t) ⟨.os t (S.γ t + 1), S.γ t + 1, .arr E z n (nthD cs)⟩ := by
    unfold St.owned St.app; rw [hs t (by simp)]; rfl
  rw [← this]; exact h⟩
theorem updF_same (f : Nat → List D) (i : Nat) (l : List D) : updF f i l i = l := by simp [updF]
theorem updF_ne (f : Nat → List D) {i k : Nat} (l : List D) (h : k ≠ i) : updF f i l k = f k := by simp [updF, h]
end
section
variable {X : Ctx} {S : St} {o : Oper} {x : Operand}
theorem q_mvT {l : List D} (ho : o.op = .move x) (hd : S.ev X x = .tup l) : QOp X o S (.tup l) := q_move ho hd
theorem q_asT {l : List D} (ho : o.op = .assign x) (hd : S.ev X x = .tup l) : QOp X o S (.tup l) := q_assign ho hd
theorem q_mvP {s g z i j : Nat} (ho : o.op = .move x) (hd : S.ev X x = .op s g z i j) : QOp X o S (.op s g z i j) := q_move ho hd
theorem q_asP {s g z i j : Nat} (ho : o.op = .assign x) (hd : S.ev X x = .op s g z i j) : QOp X o S (.op s g z i j) := q_assign ho hd
theorem q_mvR {l : List D} {j : Nat} (ho : o.op = .move x) (hd : S.ev X x = .rp l j) : QOp X o S (.rp l j) := q_move ho hd
theorem q_asR {l : List D} {j : Nat} (ho : o.op = .assign x) (hd : S.ev X x = .rp l j) : QOp X o S (.rp l j) := q_assign ho hd
theorem q_mvY {s : ByteArray} (ho : o.op = .move x) (hd : S.ev X x = .str s) : QOp X o S (.str s) := q_move ho hd
theorem q_asY {s : ByteArray} (ho : o.op = .assign x) (hd : S.ev X x = .str s) : QOp X o S (.str s) := q_assign ho hd
theorem q_mvF {f : FuncId} {l : List D} (ho : o.op = .move x) (hd : S.ev X x = .fn f l) : QOp X o S (.fn f l) := q_move ho hd
theorem q_asF {f : FuncId} {l : List D} (ho : o.op = .assign x) (hd : S.ev X x = .fn f l) : QOp X o S (.fn f l) := q_assign ho hd
end
section
variable {X : Ctx} {S : St} {rs : List ResultVar}
theorem rv_S {t z n : Nat} {f : Nat → List D} (h : S.ev X (.tmp t) = .sl z n f) : ResV X S (.tmp t) (.sl z n f) := h
theorem rv_Ag {t : Nat} {l : List D} (h : S.ev X (.tmp t) = .agg l) : ResV X S (.tmp t) (.agg l) := h
theorem fin_Sl {t z n n' : Nat} {f f' : Nat → List D} (hr : rs = [.tmp t]) (h : S.ev X (.tmp t) = .sl z n f) (e : n = n') (e2 : f = f') : FinQ X rs (.sl z n' f') .ret S := ⟨[.sl z n f], by rw [hr]; exact ⟨h, trivial⟩, by rw [e, e2]; rfl⟩
theorem fin_Ag {t : Nat} {l l' : List D} (hr : rs = [.tmp t]) (h : S.ev X (.tmp t) = .agg l) (e : l = l') : FinQ X rs (.agg l') .ret S := ⟨[.agg l], by rw [hr]; exact ⟨h, trivial⟩, by rw [e]; rfl⟩
end
/- A function's end may be reached by way of weakenings. -/
def FinW (X : Ctx) (rs : List ResultVar) (R : D) : Exit → St → Prop := fun e S => ∃ S', Wk X S S' ∧ FinQ X rs R e S'
section
variable {X : Ctx} {S S' : St} {rs : List ResultVar} {R : D} {e : Exit}
theorem fin_now (h : FinQ X rs R e S) : FinW X rs R e S := ⟨S, Wk.refl _ _, h⟩
theorem fin_wk (hw : Wk X S S') (h : FinW X rs R e S') : FinW X rs R e S :=
  let ⟨T, h1, h2⟩ := h
  ⟨T, hw.trans h1, h2⟩
theorem W_fin {c : Code} (h : W X c (FinW X rs R) S) : W X c (FinQ X rs R) S := fun κ sv a w hs => by
  refine wpIn_mono (h κ sv a w hs) ?_
  rintro e a' w' ⟨κ', sv', S', hs', S'', hw, hq⟩
  obtain ⟨κ2, sv2, hs2⟩ := hw κ' sv' a' w' hs'
  exact ⟨κ2, sv2, S'', hs2, hq⟩
end
theorem contract_introW {Z : Seat} {f : FuncId} {fn : Func} {c : Code} {A : List D} {R : D} (hf : Z.P.funcs[f]? = some fn) (hb : fn.body = some c) (hname : (fn.name == "runtime.NumGoroutine") = false) (hn : Nat.ble A.length fn.ntmps = true) (hA : PureL A) (hR : Pure R)
    (h : ∀ w κ, W (Ctx.plain Z fn.ntmps w κ none) c (FinW (Ctx.plain Z fn.ntmps w κ none) fn.results.toList R) (St.init A)) : Contract Z f A R :=
  contract_intro hf hb hname hn hA hR fun w κ => W_fin (h w κ)
section
variable {X : Ctx} {S : St} {o : Oper} {T : TypeId} {r q : TRow}
theorem restr_ev {h : Nat → Nat} {x : Operand} (hx : x ∈ o.op.operands.toList) : (restr S (lcOf X S o) h).ev X x = S.ev X x := ev_congr fun t e => by
  subst e
  simp only [restr]
  have h1 : memN t (lcOf X S o).rr = true := memN_iff.2 (slots_mem hx)
  rw [h1]; rfl
theorem restr_parts {h : Nat → Nat} : ∀ {l : List (Nat × Operand)}, (∀ p ∈ l, p.2 ∈ o.op.operands.toList) → partsD X (restr S (lcOf X S o) h) l = partsD X S l ∧ partsOk X (restr S (lcOf X S o) h) l = partsOk X S l
  | [], _ => ⟨rfl, rfl⟩
  | (i, x) :: l, hl => by
    obtain ⟨h1, h2⟩ := restr_parts (h := h) (l := l) fun p hp => hl p (List.mem_cons_of_mem _ hp)
    have h3 := restr_ev (S := S) (X := X) (h := h) (hl (i, x) (List.mem_cons_self ..))
    simp only at h3
    simp only [partsD, partsOk, h1, h2, h3, and_self]
theorem fq_bld {ps : Array (Nat × Operand)} {l : List D} (ho : o.op = .build T ps) (hr : nth X.Z.tab T = some r) (hk : Nat.beq r.k 1 = true) (hp : partsOk X S ps.toList = true)
    (hb : bldN (plF r.fl) (r.zs.map Zr.toD) (partsD X S ps.toList) = some l) : FQ X o S (.agg l) := fun h => by
  have hm : ∀ p ∈ ps.toList, p.2 ∈ o.op.operands.toList := fun p hp => by rw [ho]; simp only [Op.operands]; exact List.mem_map.2 ⟨p, hp, rfl⟩
  obtain ⟨h1, h2⟩ := restr_parts (X := X) (S := S) (h := h) hm
  exact q_bld ho hr hk (h2.trans hp) (by rw [h1]; exact hb)
theorem fq_blda {ps : Array (Nat × Operand)} {l : List D} {E : TypeId} (ho : o.op = .build T ps) (hr : nth X.Z.tab T = some r) (hk : Nat.beq r.k 2 = true) (hE : r.el = E) (hq : nth X.Z.tab E = some q) (hq9 : Nat.beq q.k 9 = false) (hp : partsOk X S ps.toList = true)
    (hb : bldN (fun i => some (i * q.sz, q.sz)) (r.zs.map Zr.toD) (partsD X S ps.toList) = some l) : FQ X o S (.agg l) := fun h => by
  have hm : ∀ p ∈ ps.toList, p.2 ∈ o.op.operands.toList := fun p hp => by rw [ho]; simp only [Op.operands]; exact List.mem_map.2 ⟨p, hp, rfl⟩
  obtain ⟨h1, h2⟩ := restr_parts (X := X) (S := S) (h := h) hm
  exact q_blda ho hr hk hE hq hq9 (h2.trans hp) (by rw [h1]; exact hb)
theorem fq_fn {cs : Array Operand} {f : FuncId} (ho : o.op = .makeFunc (.func f) #[] cs) : FQ X o S (.fn f (cs.toList.map (S.ev X))) := fun h => by
  have h1 : cs.toList.map (S.ev X) = cs.toList.map ((restr S (lcOf X S o) h).ev X) := List.map_congr_left fun x hx => (restr_ev (by rw [ho]; simp [Op.operands]; simpa using hx)).symm
  rw [h1]; exact q_fn ho
end
end Go.Ab
