/- Walks by computing: what each function of the program that the laws reach gives for what it gets, as plain Lean, and that it is so; without a condition but those that stand in each theorem. -/
import Derived.Shelf.Abstract
import Derived.Test.YtafnhieaeejlcaaDoorCards
import Derived.Test.YtafnhieaeejlcaaDoorTie
import Derived.WalkKit
import Derived.ProofKit
import Derived.OpenShut
import Derived.Deep.Slices
import Derived.Deep.DeepHandedRow
import Derived.Lib.LaidTab
import Derived.Test.YtafnhieaeejlcaaDoorW1
set_option linter.all false
/- More rules: literals that are written later, slices in elements, equality of structs, nil slices in boxes. -/
namespace Go.Ab
open Go Go.RowKit

/- A loop's end may be reached by way of weakenings. -/
def ReachK (X : Ctx) (S S' : St) (kr kp : List Nat) (rs : List (Nat × D)) (gs : List (Nat × Nat)) (os : List (Nat × Own)) : Prop := ∃ S'', Wk X S' S'' ∧ MatchK S S'' kr kp rs gs os
section
variable {X : Ctx} {Q : Exit → St → Prop} {S S' S'' : St} {kr kp : List Nat} {rs : List (Nat × D)} {gs : List (Nat × Nat)} {os : List (Nat × Own)}
theorem reach_now (h : MatchK S S' kr kp rs gs os) : ReachK X S S' kr kp rs gs os := ⟨S', Wk.refl _ _, h⟩
theorem reach_wk (hw : Wk X S' S'') (h : ReachK X S S'' kr kp rs gs os) : ReachK X S S' kr kp rs gs os :=
  let ⟨T, h1, h2⟩ := h
  ⟨T, hw.trans h1, h2⟩
theorem W_loopR {c : Code} {α : Type} (kr kp : List Nat) (rs : α → List (Nat × D)) (gs : α → List (Nat × Nat)) (os : α → List (Nat × Own)) (inv : α → Prop) (μ : α → Nat) (x0 : α) (h0 : inv x0) (hs : AllE S.ρ (rs x0) ∧ AllE S.γ (gs x0) ∧ AllE S.σ (os x0))
    (round : ∀ x h, inv x → W X c (thenQ (fun S' => ∃ x', inv x' ∧ μ x' < μ x ∧ ReachK X S S' kr kp (rs x') (gs x') (os x')) Q) (mkK S kr kp (rs x) (gs x) (os x) h)) : W X (.loop c) Q S := by
  refine W_loop (α := α × (Nat → Nat)) (fun x => mkK S kr kp (rs x.1) (gs x.1) (os x.1) x.2) (fun x => inv x.1) (fun x => μ x.1) (x0, S.γ) h0
    (wk_mk ⟨allE_append hs.1 (keepR_ok S kr), allE_append hs.2.1 (keepG_ok S kp), allE_append hs.2.2 (keepO_ok S kp)⟩) (fun x hi => ?_)
  refine W_mono (round x.1 x.2 hi) (fun e S' hq => ?_)
  cases e with
  | normal =>
    obtain ⟨x', h1, h2, S'', h3, h4⟩ := hq
    exact ⟨(x', S''.γ), h1, h2, h3.trans (wk_mk (matchK_match h4))⟩
  | _ => exact hq
end

/- Equality of structs whose fields fill one cell each. -/
def fieldOk (P : Program) (f : Field) : D → Bool
  | .int _ _ => f.name != "_" && (match P.underlying f.type with | some (.int _) => true | _ => false)
  | .bool _ => f.name != "_" && (match P.underlying f.type with | some .bool => true | _ => false)
  | _ => false
def fieldsOk (P : Program) : List Field → List D → Nat → Bool
  | [], [], _ => true
  | f :: fs, d :: ds, n => fieldOk P f d && Nat.beq f.offset n && fieldsOk P fs ds (n + 1)
  | _, _, _ => false
def flatB (P : Program) (T : TypeId) (l : List D) : Bool := match P.underlying T with
  | some (.struct fs) => !P.stoodInHeld T && fieldsOk P fs.toList l 0 && !P.eqGuardType P.depth T
  | _ => false
def eqL : List D → List D → Option Bool
  | [], [] => some true
  | .int k a :: l, .int k' b :: m => match k == k', eqL l m with | true, some r => some (decide (a = b) && r) | _, _ => none
  | .bool a :: l, .bool b :: m => match eqL l m with | some r => some (a == b && r) | none => none
  | _, _ => none
section
variable {P : Program} {κ : Nat → Nat → Option Value} {γ : Nat → Nat} {sv : Nat → Value}
theorem run_fields (w : World) (d : Nat) : ∀ (fs : List Field) (l m : List D) (xs ys : List Value) (pre pre' : List Value) (b : Bool), RepL κ γ sv l xs → RepL κ γ sv m ys → pre.length = pre'.length →
    fieldsOk P fs l pre.length = true → eqL l m = some b → (Op.eqFields (d + 1) (pre ++ xs).toArray (pre' ++ ys).toArray fs).run P w = .ok b w := by
  intro fs
  induction fs with
  | nil =>
    intro l m xs ys pre pre' b h1 h2 hp hf he
    cases l with
    | cons x l => simp [fieldsOk] at hf
    | nil =>
      cases m with
      | nil => simp [eqL] at he; subst he; simp [Op.eqFields]
      | cons x m => simp [eqL] at he
  | cons f fs ih =>
    intro l m xs ys pre pre' b h1 h2 hp hf he
    cases l with
    | nil => simp [fieldsOk] at hf
    | cons x l =>
      simp only [fieldsOk, Bool.and_eq_true] at hf
      obtain ⟨⟨hf1, hf2⟩, hf3⟩ := hf
      have hoff := Nat.eq_of_beq_eq_true hf2
      cases m with
      | nil => cases x <;> simp [eqL] at he
      | cons y m =>
        cases h1 with
        | cons _ vx _ vxs r1 rs1 =>
          cases h2 with
          | cons _ vy _ vys r2 rs2 =>
            have key : ∀ (r b' : Bool), f.name ≠ "_" → P.plainKey f.type = true → eqL l m = some b' → (Op.equalIn (d + 1) f.type vx vy).run P w = .ok r w → b = (r && b') → (Op.eqFields (d + 1) (pre ++ vx :: vxs).toArray (pre' ++ vy :: vys).toArray (f :: fs)).run P w = .ok b w := by
              intro r b' hn hk hb' hr hb
              have p1 : (part f.type (pre ++ vx :: vxs).toArray f.offset).run P w = .ok vx w := run_part_plain w hk (by rw [hoff]; simp)
              have p2 : (part f.type (pre' ++ vy :: vys).toArray f.offset).run P w = .ok vy w := run_part_plain w hk (by rw [hoff, hp]; simp)
              have hrest := ih l m vxs vys (pre ++ [vx]) (pre' ++ [vy]) b' rs1 rs2 (by simp [hp]) (by rw [List.length_append]; exact hf3) hb'
              simp only [List.append_assoc, List.singleton_append] at hrest
              simp only [Op.eqFields, hn, ne_eq, not_false_eq_true, if_true, Sem.run_bind, p1, p2, hr, Result.andThen_ok]
              cases r with
              | false => simp [hb]
              | true => simpa [hb] using hrest
            cases x <;> cases y <;> simp only [eqL] at he <;> try (cases he; done)
            · rename_i k1 a k2 c
              cases r1; cases r2
              simp only [fieldOk, Bool.and_eq_true] at hf1
              obtain ⟨hn, hu⟩ := hf1
              cases hkk : k1 == k2 with
              | false => rw [hkk] at he; simp at he
              | true =>
                have : k1 = k2 := by simpa using hkk
                subst this
                rw [hkk] at he
                cases he2 : eqL l m with
                | none => rw [he2] at he; cases he
                | some r =>
                  rw [he2] at he
                  simp only [Option.some.injEq] at he
                  cases hT : P.underlying f.type with
                  | none => simp [hT] at hu
                  | some dd =>
                    cases dd <;> simp [hT] at hu
                    refine key (a == c) r (by simpa using hn) (by simp [Program.plainKey, hT]) he2 (by simp [Op.equalIn, run_underlying hT]) (by rw [← he]; first | rfl | simp)
            · rename_i a c
              cases r1; cases r2
              simp only [fieldOk, Bool.and_eq_true] at hf1
              obtain ⟨hn, hu⟩ := hf1
              cases he2 : eqL l m with
              | none => rw [he2] at he; cases he
              | some r =>
                rw [he2] at he
                simp only [Option.some.injEq] at he
                cases hT : P.underlying f.type with
                | none => simp [hT] at hu
                | some dd =>
                  cases dd <;> simp [hT] at hu
                  refine key (a == c) r (by simpa using hn) (by simp [Program.plainKey, hT]) he2 (by simp [Op.equalIn, run_underlying hT]) (by rw [← he])
theorem run_eq_flat (w : World) (d : Nat) {T : TypeId} {l m : List D} {xs ys : List Value} {b : Bool} (hf : flatB P T l = true) (h1 : RepL κ γ sv l xs) (h2 : RepL κ γ sv m ys) (he : eqL l m = some b) :
    (Op.equalIn (d + 2) T (.agg xs.toArray) (.agg ys.toArray)).run P w = .ok b w := by
  unfold flatB at hf
  cases hu : P.underlying T with
  | none => simp [hu] at hf
  | some dd =>
    cases dd <;> simp only [hu] at hf <;> try (cases hf; done)
    rename_i fs
    simp only [Bool.and_eq_true, Bool.not_eq_true'] at hf
    have hfs : P.fieldsOf T = fs := by simp [Program.fieldsOf, hu]
    rw [run_equalIn_struct w (d + 1) T _ _ (by rw [hfs]; exact hu) hf.1.1, hfs]
    exact run_fields w d fs.toList l m xs ys [] [] b h1 h2 rfl hf.1.2 he
theorem flat_guard {T : TypeId} {l : List D} (hf : flatB P T l = true) : P.eqGuardType P.depth T = false := by
  unfold flatB at hf
  cases hu : P.underlying T with
  | none => simp [hu] at hf
  | some dd =>
    cases dd <;> simp only [hu] at hf <;> try (cases hf; done)
    simp only [Bool.and_eq_true, Bool.not_eq_true'] at hf
    exact hf.2
end
section
variable {X : Ctx} {S : St} {o : Oper} {T T2 : TypeId} {x y : Operand}
theorem ev_agg {κ : Nat → Nat → Option Value} {sv : Nat → Value} {a : Act} {w : World} (hs : Sim X κ sv S a w) {l : List D} (h : S.ev X x = .agg l) : ∃ vs, a.eval x = .agg vs.toArray ∧ RepL κ S.γ sv l vs := by
  have h1 := hs.ev x
  rw [h] at h1
  generalize a.eval x = v at h1
  cases h1 with
  | agg _ vs hv => exact ⟨vs, rfl, hv⟩
theorem q_eqA {l m : List D} {b : Bool} (ho : o.op = .binOp .eql T x y T2) (hx : S.ev X x = .agg l) (hy : S.ev X y = .agg m) (he : eqL l m = some b) (hf : flatB X.Z.P T l = true) : QOp X o S (.bool b) := fun κ sv a w hs => by
  obtain ⟨xs, e1, r1⟩ := ev_agg hs hx
  obtain ⟨ys, e2, r2⟩ := ev_agg hs hy
  refine ⟨.bool b, .bool _, fun w' _ => ?_⟩
  have := run_eq_flat (P := X.Z.P) w' 9998 hf r1 r2 he
  simp [execOp, ho, e1, e2, eqGuard, binOp, Op.equal, Op.maxDepth, this, flat_guard hf]
theorem q_neA {l m : List D} {b : Bool} (ho : o.op = .binOp .neq T x y T2) (hx : S.ev X x = .agg l) (hy : S.ev X y = .agg m) (he : eqL l m = some b) (hf : flatB X.Z.P T l = true) : QOp X o S (.bool (!b)) := fun κ sv a w hs => by
  obtain ⟨xs, e1, r1⟩ := ev_agg hs hx
  obtain ⟨ys, e2, r2⟩ := ev_agg hs hy
  refine ⟨.bool (!b), .bool _, fun w' _ => ?_⟩
  have := run_eq_flat (P := X.Z.P) w' 9998 hf r1 r2 he
  simp [execOp, ho, e1, e2, eqGuard, binOp, Op.equal, Op.maxDepth, this, flat_guard hf]
end

/- Literals that are written later. -/
section
variable {X : Ctx} {Q : Exit → St → Prop} {S S' : St} {ops : Array Oper} {o : Oper} {rest : List Oper} {T : TypeId} {r q : TRow}
theorem n_bsl0 {ps : Array (Nat × Operand)} {t z : Nat} {E : TypeId} (f : Nat → List D) (ho : o.op = .buildSlice T 0 ps) (hd : o.dst = some t) (hps : ps = #[])
    (hr : nth X.Z.tab T = some r) (hk : Nat.beq r.k 3 = true) (hE : r.el = E) (hq : nth X.Z.tab E = some q) (hq9 : Nat.beq q.k 9 = false) (hz : q.sz = z) :
    NOp X o S (S.owned t t (.arr E z 0 f)) := fun κ sv a w hs => by
  have hokr := X.Z.tabOk _ _ hr (by intro e; rw [e] at hk; cases hk)
  have hokq := X.Z.tabOk _ _ hq (by intro e; rw [e] at hq9; cases hq9)
  obtain ⟨iq, dq, hiq, hdq, hsq, hbq, ⟨zv, hzv, hzf⟩, _⟩ := row_info hokq
  have hu := slice_row hokr hk
  rw [hE] at hu
  have hrun : (execOp a.eval o).run X.Z.P w = .ok (.value (.slice (some ⟨w.heap.size, 0, none⟩) 0 0)) (w.alloc (.cells #[] E)) := by
    have hz0 : (Array.range 0).map (fun _ => (default : Value)) = #[] := by
      apply Array.eq_empty_of_size_eq_zero; simp
    simp [execOp, ho, hps, Instr.buildSlice, run_underlying hu, sizeOf, typeInfo, hiq, newRow, Instr.fill, hz0]
  have hb' : Below w.heap.size w (w.alloc (.cells #[] E)) := (Below.refl _ _).alloc (Nat.le_refl _) _
  rw [hd]
  refine ⟨_, _, κ, _, .inl hrun, sim_owned hs t t (pv := .slice (some ⟨w.heap.size, 0, none⟩) 0 0) rfl (below_grown hb' _) (fun b hb => by simp only [blk, Option.some.injEq] at hb; exact .inl (by omega)) ?_⟩
  refine ⟨[], by rw [upd_same]; exact ⟨by simp, .inr ⟨w.heap.size, 0, #[], rfl, hs.wld.base, heap_alloc_new w _, Nat.le_refl _, Nat.zero_le _, by simp, by simp⟩⟩, fun i h => by omega, fun i h => by omega, fun i h => by omega⟩
theorem n_bslo {ps : Array (Nat × Operand)} {n z t : Nat} {xs : List Operand} {E : TypeId} {cs : List (List D)} (ho : o.op = .buildSlice T n ps) (hd : o.dst = some t) (hsq : seqP 0 ps.toList = some xs) (hn : Nat.beq xs.length n = true)
    (hr : nth X.Z.tab T = some r) (hk : Nat.beq r.k 3 = true) (hE : r.el = E) (hq : nth X.Z.tab E = some q) (hq9 : Nat.beq q.k 9 = false) (hz : q.sz = z) (hz0 : Nat.beq z 0 = false) (hn0 : Nat.beq n 0 = false) (hsm : Nat.ble (n * z) 16777216 = true) (hc : evC X S xs = cs) (hok : okC z cs = true) :
    NOp X o S (S.owned t t (.arr E z n (nthD cs))) := fun κ sv a w hs => by
  subst hc
  obtain ⟨hrun, hfl⟩ := run_bsl hs ho hsq hn hr hk hE hq hq9 hz hz0 hn0 hsm hok
  obtain ⟨hrep, hcells⟩ := evC_rep hs hok
  have hlen : xs.length = n := Nat.eq_of_beq_eq_true hn
  have hz1 : 0 < z := by
    cases z with
    | zero => cases hz0
    | succ z => omega
  have hle : n * z ≤ 16777216 := Nat.le_of_ble_eq_true hsm
  have hnz : n ≤ n * z := Nat.le_mul_of_pos_right n hz1
  have hb' : Below w.heap.size w (w.alloc (.cells ((xs.map a.eval).map (·.cells.toList)).flatten.toArray E)) := (Below.refl _ _).alloc (Nat.le_refl _) _
  rw [hd]
  refine ⟨_, _, κ, _, .inl hrun, sim_owned hs t t (pv := .slice (some ⟨w.heap.size, 0, none⟩) n n) rfl (below_grown hb' _) (fun b hb => by simp only [blk, Option.some.injEq] at hb; exact .inl (by omega)) ?_⟩
  have hnth : ∀ i, i < n → ∃ c, nth (evC X S xs) i = some c ∧ nthD (evC X S xs) i = c := by
    intro i hi
    rw [nth_eq]
    have : i < (evC X S xs).length := by rw [evC_length, hlen]; exact hi
    exact ⟨(evC X S xs)[i], by simp [this], by simp [nthD, nth_eq, this]⟩
  refine ⟨((xs.map a.eval).map (·.cells.toList)).flatten, by rw [upd_same]; exact ⟨hfl, .inr ⟨w.heap.size, n, ((xs.map a.eval).map (·.cells.toList)).flatten.toArray, rfl, hs.wld.base, heap_alloc_new w _, Nat.le_refl _, by unfold maxLen; omega, by rw [List.size_toArray]; exact hfl, by rw [List.take_of_length_le (by simp only [List.toList_toArray]; omega)]⟩⟩, fun i hi => ?_, fun i hi => ?_, fun i hi => ?_⟩
  · obtain ⟨c, h1, h2⟩ := hnth i hi; rw [h2]; exact (hrep i c h1).1
  · obtain ⟨c, h1, h2⟩ := hnth i hi; rw [h2]; exact (hrep i c h1).2.1
  · obtain ⟨c, h1, h2⟩ := hnth i hi
    obtain ⟨_, _, v, h3, h4⟩ := hrep i c h1
    rw [h2]
    have hch : ((((xs.map a.eval).map (·.cells.toList)).flatten).drop (i * z)).take z = v.cells.toList := by
      apply List.ext_getElem?
      intro j
      rw [List.getElem?_take]
      split
      · rename_i hj
        rw [List.getElem?_drop, flat_at _ (z := z) (fun c hc => by
          obtain ⟨v, hv, rfl⟩ := List.mem_map.1 hc
          simpa using (hcells v hv).1) i j hj]
        rw [List.getElem?_map, h3]; rfl
      · rename_i hj
        have hv : v ∈ xs.map a.eval := List.mem_of_getElem? h3
        have := (hcells v hv).1
        rw [List.getElem?_eq_none (by simp at this ⊢; omega)]
    rw [hch]
    exact h4.mono (le_renew κ S.γ sv t _)

/-- A slice of the call's own, in an element of another one, is never written again. -/
theorem wk_freeze_elem (t i j : Nat) {s g E z n E2 z2 n2 : Nat} {f f2 f2' : Nat → List D} {l0 l' : List D} (hσt : S.σ t = .arr E2 z2 n2 f2) (hne : Nat.beq t s = false) (hi : i < n2) (h0 : f2 i = l0) (hl : nth l0 j = some (.os s g)) (hg : S.γ s = g) (hσ : S.σ s = .arr E z n f) (hl' : overN l0 j [.sl z n f] = some l') (hf : ∀ k, k < n2 → f2' k = if k = i then l' else f2 k) :
    Wk X S ⟨S.ρ, S.γ, upd (upd S.σ s .none) t (.arr E2 z2 n2 f2')⟩ := fun κ sv a w hs => by
  have hle := freeze_le hs.wld s
  subst h0
  have hne : t ≠ s := fun e => by rw [e, Nat.beq_refl] at hne; cases hne
  have hW := hs.wld.freeze s (arr_new hs.wld hσ) S.ρ
  obtain ⟨hl'e, hlen⟩ := overN_eq hl'
  have hown := hW.own t
  simp only [upd_ne _ _ _ _ hne, hσt] at hown
  obtain ⟨xs, e1, e2, e3, e4⟩ := hown
  have hsim : SimW X (fun b o => if blk (S.σ s) (sv s) = some b then w.cell? ⟨b, o, none⟩ else κ b o) sv ⟨S.ρ, S.γ, upd (upd S.σ s .none) t (.arr E2 z2 n2 f2')⟩ w := by
    refine hW.rewrite t (.arr E2 z2 n2 f2') (below_grown (Below.refl _ _) _) (by
      simp only [upd_ne _ _ _ _ hne, hσt]
      cases sv t with
      | pointer a => cases a <;> rfl
      | slice a => cases a <;> rfl
      | _ => rfl) ⟨xs, e1, fun k hk => ?_, fun k hk => ?_, fun k hk => ?_⟩ _
    · rw [hf k hk]
      split
      · rename_i h; subst h; rw [hl'e]; have := e2 k hk; simp at hlen ⊢; omega
      · exact e2 k hk
    · rw [hf k hk]
      split
      · rename_i h; subst h; rw [hl'e]; exact allCell_append (allCell_append (allCell_take (e3 k hk) _) rfl) (allCell_drop (e3 k hk) _)
      · exact e3 k hk
    · rw [hf k hk]
      split
      · rename_i h
        subst h
        rw [hl'e]
        have e3' := e4 k hk
        rw [nth_eq] at hl
        obtain ⟨vj, hvj, hrj⟩ := e3'.get hl
        generalize (xs.drop (k * z2)).take z2 = cs at e3' hvj
        have hjl : j < cs.length := (List.getElem?_eq_some_iff.1 hvj).1
        have hcs : cs = cs.take j ++ [vj] ++ cs.drop (j + 1) := by
          have h3 : cs[j] = vj := by simpa [List.getElem?_eq_getElem hjl] using hvj
          rw [← h3, List.append_assoc, List.singleton_append, List.getElem_cons_drop, List.take_append_drop]
        rw [hcs]
        refine ((e3'.take j).append (.cons _ _ _ _ ?_ .nil)).append (e3'.drop _)
        have hv : vj = sv s := by
          cases hrj with
          | os _ _ _ _ hh _ => exact hh hg.symm
        rw [hv]
        exact frozen_rep hs.wld hσ hle (fun b o v hb hc => by simp [hb, hc])
      · exact e4 k hk
  exact ⟨_, sv, ⟨hs.size, hs.defers, fun i hi => (hs.slot i hi).mono hle, hsim⟩⟩

/-- A nil slice in a box's cell becomes a slice of the call's own. -/
theorem wk_nilc (t j s : Nat) (E z : Nat) (f : Nat → List D) {l l' : List D} (hσt : S.σ t = .box l) (hne : Nat.beq t s = false) (hs0 : S.σ s = .none) (hl : nth l j = some .nil) (hl' : overN l j [.os s (S.γ s + 1)] = some l') :
    Wk X S ⟨S.ρ, upd S.γ s (S.γ s + 1), upd (upd S.σ s (.arr E z 0 f)) t (.box l')⟩ := fun κ sv a w hs => by
  have hne : t ≠ s := fun e => by rw [e, Nat.beq_refl] at hne; cases hne
  obtain ⟨rfl, hlen⟩ := overN_eq hl'
  have hle := le_renew κ S.γ sv s (.slice none 0 0)
  have hW := hs.wld.renew s (.arr E z 0 f) (.slice none 0 0) (below_grown (Below.refl _ _) _) (fun b hb => by cases hb)
      ⟨[], by rw [upd_same]; exact World.ownsRow_nil _ _ _ _, fun _ h => by omega, fun _ h => by omega, fun _ h => by omega⟩ S.ρ
  refine ⟨κ, upd sv s (.slice none 0 0), ⟨hs.size, hs.defers, fun i hi => (hs.slot i hi).mono hle, ?_⟩⟩
  have hown := hW.own t
  simp only [upd_ne _ _ _ _ hne, hσt] at hown
  obtain ⟨b, Tb, cs, e1, e2, e3, e4⟩ := hown
  refine hW.rewrite t (.box _) (below_grown (Below.refl _ _) _) (by simp only [upd_ne _ _ _ _ hne, hσt] at e1 ⊢; rw [e1]; rfl) ⟨b, Tb, cs, e1, e2, ?_, ?_⟩ _
  · rw [nth_eq] at hl
    obtain ⟨vj, hvj, hrj⟩ := e3.get hl
    have hjl : j < cs.length := (List.getElem?_eq_some_iff.1 hvj).1
    have hcs : cs = cs.take j ++ [vj] ++ cs.drop (j + 1) := by
      have h3 : cs[j] = vj := by simpa [List.getElem?_eq_getElem hjl] using hvj
      rw [← h3, List.append_assoc, List.singleton_append, List.getElem_cons_drop, List.take_append_drop]
    rw [hcs]
    refine ((e3.take j).append (.cons _ _ _ _ ?_ .nil)).append (e3.drop _)
    cases hrj
    exact .os _ _ _ (by rw [upd_same]; exact Nat.le_refl _) (fun _ => by rw [upd_same]) rfl
  · exact allCell_append (allCell_append (allCell_take e4 _) rfl) (allCell_drop e4 _)
theorem f_bsl0 {ps : Array (Nat × Operand)} {t z : Nat} {E : TypeId} (f : Nat → List D) (ho : o.op = .buildSlice T 0 ps) (hd : o.dst = some t) (hps : ps = #[])
    (hr : nth X.Z.tab T = some r) (hk : Nat.beq r.k 3 = true) (hE : r.el = E) (hq : nth X.Z.tab E = some q) (hq9 : Nat.beq q.k 9 = false) (hz : q.sz = z) :
    FN X o S [t] (wB t) ⟨.os t (S.γ t + 1), S.γ t + 1, .arr E z 0 f⟩ := ⟨fun T hT hs => by
  have h := n_bsl0 (S := T) f ho hd hps hr hk hE hq hq9 hz
  have : T.owned t t (.arr E z 0 f) = T.app (wB t) ⟨.os t (S.γ t + 1), S.γ t + 1, .arr E z 0 f⟩ := by
    unfold St.owned St.app; rw [hs t (by simp)]; rfl
  rw [← this]; exact h⟩
theorem f_bslo {ps : Array (Nat × Operand)} {n z t : Nat} {xs : List Operand} {E : TypeId} {cs : List (List D)} (ho : o.op = .buildSlice T n ps) (hd : o.dst = some t) (hsq : seqP 0 ps.toList = some xs) (hn : Nat.beq xs.length n = true)
    (hr : nth X.Z.tab T = some r) (hk : Nat.beq r.k 3 = true) (hE : r.el = E) (hq : nth X.Z.tab E = some q) (hq9 : Nat.beq q.k 9 = false) (hz : q.sz = z) (hz0 : Nat.beq z 0 = false) (hn0 : Nat.beq n 0 = false) (hsm : Nat.ble (n * z) 16777216 = true) (hc : evC X S xs = cs) (hok : okC z cs = true) :
    FN X o S [t] (wB t) ⟨.os t (S.γ t + 1), S.γ t + 1, .arr E z n (nthD cs)⟩ := ⟨fun T hT hs => by
  have key : ∀ l : List Operand, (∀ x ∈ l, x ∈ o.op.operands.toList) → evC X T l = evC X S l := by
    intro l
    induction l with
    | nil => intro _; rfl
    | cons x l ih => intro h; simp only [evC]; rw [agree_ev hT (h x (List.mem_cons_self ..)), ih fun y hy => h y (List.mem_cons_of_mem _ hy)]
  have hmem : ∀ x ∈ xs, x ∈ o.op.operands.toList := by
    intro x hx
    rw [ho]
    have h1 := seqP_eq hsq
    simp only [Op.operands]
    rw [h1]
    simp only [List.map_map, List.mem_map, Function.comp_apply]
    obtain ⟨i, hi, rfl⟩ := List.getElem_of_mem hx
    exact ⟨(xs[i], i), by rw [List.mk_mem_zipIdx_iff_getElem?]; simp [hi], rfl⟩
  have h := n_bslo (S := T) ho hd hsq hn hr hk hE hq hq9 hz hz0 hn0 hsm ((key xs hmem).trans hc) hok
  have : T.owned t t (.arr E z n (nthD cs)) = T.app (wB t) ⟨.os t (S.γ t + 1), S.γ t + 1, .arr E z n (nthD cs)⟩ := by
    unfold St.owned St.app; rw [hs t (by simp)]; rfl
  rw [← this]; exact h⟩
theorem updF_same (f : Nat → List D) (i : Nat) (l : List D) : updF f i l i = l := by simp [updF]
theorem updF_ne (f : Nat → List D) {i k : Nat} (l : List D) (h : k ≠ i) : updF f i l k = f k := by simp [updF, h]
end
section
variable {X : Ctx} {S : St} {o : Oper} {x : Operand}
theorem q_mvT {l : List D} (ho : o.op = .move x) (hd : S.ev X x = .tup l) : QOp X o S (.tup l) := q_move ho hd
theorem q_asT {l : List D} (ho : o.op = .assign x) (hd : S.ev X x = .tup l) : QOp X o S (.tup l) := q_assign ho hd
theorem q_mvP {s g z i j : Nat} (ho : o.op = .move x) (hd : S.ev X x = .op s g z i j) : QOp X o S (.op s g z i j) := q_move ho hd
theorem q_asP {s g z i j : Nat} (ho : o.op = .assign x) (hd : S.ev X x = .op s g z i j) : QOp X o S (.op s g z i j) := q_assign ho hd
theorem q_mvR {l : List D} {j : Nat} (ho : o.op = .move x) (hd : S.ev X x = .rp l j) : QOp X o S (.rp l j) := q_move ho hd
theorem q_asR {l : List D} {j : Nat} (ho : o.op = .assign x) (hd : S.ev X x = .rp l j) : QOp X o S (.rp l j) := q_assign ho hd
theorem q_mvY {s : ByteArray} (ho : o.op = .move x) (hd : S.ev X x = .str s) : QOp X o S (.str s) := q_move ho hd
theorem q_asY {s : ByteArray} (ho : o.op = .assign x) (hd : S.ev X x = .str s) : QOp X o S (.str s) := q_assign ho hd
theorem q_mvF {f : FuncId} {l : List D} (ho : o.op = .move x) (hd : S.ev X x = .fn f l) : QOp X o S (.fn f l) := q_move ho hd
theorem q_asF {f : FuncId} {l : List D} (ho : o.op = .assign x) (hd : S.ev X x = .fn f l) : QOp X o S (.fn f l) := q_assign ho hd
end
section
variable {X : Ctx} {S : St} {rs : List ResultVar}
theorem rv_S {t z n : Nat} {f : Nat → List D} (h : S.ev X (.tmp t) = .sl z n f) : ResV X S (.tmp t) (.sl z n f) := h
theorem rv_Ag {t : Nat} {l : List D} (h : S.ev X (.tmp t) = .agg l) : ResV X S (.tmp t) (.agg l) := h
theorem fin_Sl {t z n n' : Nat} {f f' : Nat → List D} (hr : rs = [.tmp t]) (h : S.ev X (.tmp t) = .sl z n f) (e : n = n') (e2 : f = f') : FinQ X rs (.sl z n' f') .ret S := ⟨[.sl z n f], by rw [hr]; exact ⟨h, trivial⟩, by rw [e, e2]; rfl⟩
theorem fin_Ag {t : Nat} {l l' : List D} (hr : rs = [.tmp t]) (h : S.ev X (.tmp t) = .agg l) (e : l = l') : FinQ X rs (.agg l') .ret S := ⟨[.agg l], by rw [hr]; exact ⟨h, trivial⟩, by rw [e]; rfl⟩
end
/- A function's end may be reached by way of weakenings. -/
def FinW (X : Ctx) (rs : List ResultVar) (R : D) : Exit → St → Prop := fun e S => ∃ S', Wk X S S' ∧ FinQ X rs R e S'
section
variable {X : Ctx} {S S' : St} {rs : List ResultVar} {R : D} {e : Exit}
theorem fin_now (h : FinQ X rs R e S) : FinW X rs R e S := ⟨S, Wk.refl _ _, h⟩
theorem fin_wk (hw : Wk X S S') (h : FinW X rs R e S') : FinW X rs R e S :=
  let ⟨T, h1, h2⟩ := h
  ⟨T, hw.trans h1, h2⟩
theorem W_fin {c : Code} (h : W X c (FinW X rs R) S) : W X c (FinQ X rs R) S := fun κ sv a w hs => by
  refine wpIn_mono (h κ sv a w hs) ?_
  rintro e a' w' ⟨κ', sv', S', hs', S'', hw, hq⟩
  obtain ⟨κ2, sv2, hs2⟩ := hw κ' sv' a' w' hs'
  exact ⟨κ2, sv2, S'', hs2, hq⟩
end
theorem contract_introW {Z : Seat} {f : FuncId} {fn : Func} {c : Code} {A : List D} {R : D} (hf : Z.P.funcs[f]? = some fn) (hb : fn.body = some c) (hname : (fn.name == "runtime.NumGoroutine") = false) (hn : Nat.ble A.length fn.ntmps = true) (hA : PureL A) (hR : Pure R)
    (h : ∀ w κ, W (Ctx.plain Z fn.ntmps w κ none) c (FinW (Ctx.plain Z fn.ntmps w κ none) fn.results.toList R) (St.init A)) : Contract Z f A R :=
  contract_intro hf hb hname hn hA hR fun w κ => W_fin (h w κ)
section
variable {X : Ctx} {S : St} {o : Oper} {T : TypeId} {r q : TRow}
theorem restr_ev {h : Nat → Nat} {x : Operand} (hx : x ∈ o.op.operands.toList) : (restr S (lcOf X S o) h).ev X x = S.ev X x := ev_congr fun t e => by
  subst e
  simp only [restr]
  have h1 : memN t (lcOf X S o).rr = true := memN_iff.2 (slots_mem hx)
  rw [h1]; rfl
theorem restr_parts {h : Nat → Nat} : ∀ {l : List (Nat × Operand)}, (∀ p ∈ l, p.2 ∈ o.op.operands.toList) → partsD X (restr S (lcOf X S o) h) l = partsD X S l ∧ partsOk X (restr S (lcOf X S o) h) l = partsOk X S l
  | [], _ => ⟨rfl, rfl⟩
  | (i, x) :: l, hl => by
    obtain ⟨h1, h2⟩ := restr_parts (h := h) (l := l) fun p hp => hl p (List.mem_cons_of_mem _ hp)
    have h3 := restr_ev (S := S) (X := X) (h := h) (hl (i, x) (List.mem_cons_self ..))
    simp only at h3
    simp only [partsD, partsOk, h1, h2, h3, and_self]
theorem fq_bld {ps : Array (Nat × Operand)} {l : List D} (ho : o.op = .build T ps) (hr : nth X.Z.tab T = some r) (hk : Nat.beq r.k 1 = true) (hp : partsOk X S ps.toList = true)
    (hb : bldN (plF r.fl) (r.zs.map Zr.toD) (partsD X S ps.toList) = some l) : FQ X o S (.agg l) := fun h => by
  have hm : ∀ p ∈ ps.toList, p.2 ∈ o.op.operands.toList := fun p hp => by rw [ho]; simp only [Op.operands]; exact List.mem_map.2 ⟨p, hp, rfl⟩
  obtain ⟨h1, h2⟩ := restr_parts (X := X) (S := S) (h := h) hm
  exact q_bld ho hr hk (h2.trans hp) (by rw [h1]; exact hb)
theorem fq_blda {ps : Array (Nat × Operand)} {l : List D} {E : TypeId} (ho : o.op = .build T ps) (hr : nth X.Z.tab T = some r) (hk : Nat.beq r.k 2 = true) (hE : r.el = E) (hq : nth X.Z.tab E = some q) (hq9 : Nat.beq q.k 9 = false) (hp : partsOk X S ps.toList = true)
    (hb : bldN (fun i => some (i * q.sz, q.sz)) (r.zs.map Zr.toD) (partsD X S ps.toList) = some l) : FQ X o S (.agg l) := fun h => by
  have hm : ∀ p ∈ ps.toList, p.2 ∈ o.op.operands.toList := fun p hp => by rw [ho]; simp only [Op.operands]; exact List.mem_map.2 ⟨p, hp, rfl⟩
  obtain ⟨h1, h2⟩ := restr_parts (X := X) (S := S) (h := h) hm
  exact q_blda ho hr hk hE hq hq9 (h2.trans hp) (by rw [h1]; exact hb)
theorem fq_fn {cs : Array Operand} {f : FuncId} (ho : o.op = .makeFunc (.func f) #[] cs) : FQ X o S (.fn f (cs.toList.map (S.ev X))) := fun h => by
  have h1 : cs.toList.map (S.ev X) = cs.toList.map ((restr S (lcOf X S o) h).ev X) := List.map_congr_left fun x hx => (restr_ev (by rw [ho]; simp [Op.operands]; simpa using hx)).symm
  rw [h1]; exact q_fn ho
end
end Go.Ab

/- Ranges over functions: an iterator's contract (it may write what it has laid itself), and the rule for whoever ranges over it. -/
namespace Go.Ab
open Go Go.RowKit Go.Shelf

def growT (T : Nat → Prop) (W W' : World) : Nat → Prop := fun b => T b ∨ (W.heap.size ≤ b ∧ b < W'.heap.size)

/-- What a round keeps for the iterator. -/
structure Kept (T : Nat → Prop) (κ : Nat → Nat → Option Value) (W W' : World) : Prop where
  size : W.heap.size ≤ W'.heap.size
  mine : ∀ b, T b → W'.heap[b]? = W.heap[b]?
  cell : ∀ b o v, κ b o = some v → W'.cell? ⟨b, o, none⟩ = some v

/-- Function gf, with what it has captured, hands out vals 0, vals 1, .. to yield, n of them, or fewer if yield says no. T: the blocks that it has laid. -/
structure ItC (Z : Seat) (gf : FuncId) (cap : List D) (n : Nat) (vals : Nat → List Value) : Prop where
  body : HasBody Z.P gf
  pureC : PureL cap
  it : ∀ (w : World) (κ : Nat → Nat → Option Value) (lb : List Value), Fits κ w → GlobOk Z κ → RepL κ γ0 sv0 cap lb → ∀ (l : Nat) (J Jx : (Nat → Prop) → Nat → World → Prop),
    (∀ T k W W', J T k W → Step T W W' → J (growT T W W') k W') →
    (∀ T k W W', Jx T k W → Step T W W' → Jx (growT T W W') k W') →
    (∀ T k W, J T k W → k < n → (∀ b o v, κ b o = some v → W.cell? ⟨b, o, none⟩ = some v) → YieldAt Fence.wide 0 Z.P l (vals k).toArray W fun e W' =>
      ((e = .returned (.bool true) ∧ J T (k + 1) W') ∨ (e = .returned (.bool false) ∧ Jx T (k + 1) W')) ∧ Kept T κ W W') →
    J (fun _ => False) 0 w →
    CallsIn Fence.wide 0 Z.P gf (Value.func (.yield l) #[] #[] :: lb).toArray w fun e W' => (∃ v, e = .returned v) ∧ ((∃ T, J T n W') ∨ (∃ T k, k ≤ n ∧ Jx T k W'))

/-- The frame predicate of a round: as ever, and the blocks in T lie as they lay. -/
def protF (w0 : World) (ext : Option Nat) (T : Nat → Prop) (wT : World) (M : Nat → Prop) (w : World) : Prop :=
  (∃ M', plainF w0 ext M' w ∧ ∀ b, M b → M' b) ∧ (∀ b, M b → ¬ T b) ∧ (∀ b, T b → b < wT.heap.size ∧ w.heap[b]? = wT.heap[b]?) ∧ wT.heap.size ≤ w.heap.size
theorem prot_cl (w0 : World) (ext : Option Nat) (T : Nat → Prop) (wT : World) : ∀ M w w', protF w0 ext T wT M w → Step M w w' → protF w0 ext T wT (fun k => M k ∨ w.heap.size ≤ k) w' := by
  rintro M w w' ⟨⟨M', h1, h2⟩, h3, h4, h5⟩ hs
  refine ⟨⟨_, plain_cl w0 ext M' w w' h1 ⟨hs.os, hs.tape, hs.output, hs.size, fun k hk hm => hs.block k hk fun h => hm (h2 k h)⟩, fun b hb => hb.imp (h2 b) id⟩, fun b hb hT => ?_, fun b hT => ?_, Nat.le_trans h5 hs.size⟩
  · rcases hb with hb | hb
    · exact h3 b hb hT
    · have := (h4 b hT).1; omega
  · obtain ⟨e1, e2⟩ := h4 b hT
    exact ⟨e1, (hs.block b (by omega) (fun hm => h3 b hm hT)).trans e2⟩

section
variable {Z : Seat} {nt : Nat} {w0 : World} {κ0 κp : Nat → Nat → Option Value} {ext : Option Nat} {γp : Nat → Nat} {svp : Nat → Value} {T : Nat → Prop}

/-- Between two rounds: somebody else has written what is in T, and laid new blocks. -/
theorem SimW.other {κ : Nat → Nat → Option Value} {sv : Nat → Value} {S : St} {W W' : World} {ro : Option Nat} {cl : _} (h : SimW ⟨Z, nt, w0, κ0, ext, κp, γp, svp, T, false, ro, plainF w0 ext, cl⟩ κ sv S W) (hs : Step T W W') (hT : ∀ b, T b → w0.heap.size ≤ b) :
    SimW ⟨Z, nt, w0, κ0, ext, κp, γp, svp, growT T W W', false, ro, plainF w0 ext, cl⟩ κ sv S W' := by
  obtain ⟨h1, h2, h3, h4, h5, ⟨M, h6, h6'⟩, h7, h8, h9, h10, h11, h12, h13, h14⟩ := h
  have hlt : ∀ b o v, κ b o = some v → b < W.heap.size := fun b o v hk => by have := World.block_lt_of_cell? W _ (h1 b o v hk); simpa using this
  refine ⟨fun b o v hk => ?_, fun s => owns_mono (Le.refl _ _ _) rfl (fun b hb => hs.block b (owns_lt (h2 s) hb) (h13 s b hb)) (h2 s), h3, h4, h5, ⟨M, ?_, h6'⟩, h7, h8, h9, Nat.le_trans h10 hs.size, h11, fun b o v hk hT' => ?_, fun s b hb hT' => ?_, fun b hT' => ?_⟩
  · rw [World.cell?_of_block (hs.block b (hlt b o v hk) (h12 b o v hk))]; exact h1 b o v hk
  · refine ⟨⟨hs.os.trans h6.1.os, hs.tape.trans h6.1.tape, hs.output.trans h6.1.output, Nat.le_trans h6.1.size hs.size, fun k hk he => ?_⟩, h6.2⟩
    exact (hs.block k (Nat.lt_of_lt_of_le hk h6.1.size) (fun hm => by have := hT k hm; omega)).trans (h6.1.block k hk he)
  · rcases hT' with hT' | ⟨hT', _⟩
    · exact h12 b o v hk hT'
    · have := hlt b o v hk; omega
  · rcases hT' with hT' | ⟨hT', _⟩
    · exact h13 s b hb hT'
    · have := owns_lt (h2 s) hb; omega
  · rcases hT' with hT' | ⟨_, hT'⟩
    · exact Nat.lt_of_lt_of_le (h14 b hT') hs.size
    · exact hT'

/-- Another frame predicate, and a block that holds no cells turned. -/
theorem SimW.reframe {κ : Nat → Nat → Option Value} {sv : Nat → Value} {S : St} {W W' : World} {nd nd' : Bool} {ro ro' : Option Nat} {Φ Φ' : (Nat → Prop) → World → Prop} {cl : _} {cl' : _} {T' : Nat → Prop} {κp' : Nat → Nat → Option Value} {γp' : Nat → Nat} {svp' : Nat → Value}
    (h : SimW ⟨Z, nt, w0, κ0, ext, κp, γp, svp, T, nd, ro, Φ, cl⟩ κ sv S W) {D : Nat} (hg : W.grownBy W' (some D)) (hn : ∃ o : Obj, W.heap[D]? = some o ∧ o.isCells = false)
    (hΦ : ∀ M, Φ M W → (∀ s b, blk (S.σ s) (sv s) = some b → M b) → ∃ M', Φ' M' W' ∧ ∀ s b, blk (S.σ s) (sv s) = some b → M' b) (hT : ∀ b, T' b → T b) (hle : Le κp' κ γp' S.γ svp' sv) :
    SimW ⟨Z, nt, w0, κ0, ext, κp', γp', svp', T', nd', ro', Φ', cl'⟩ κ sv S W' := by
  obtain ⟨h1, h2, h3, h4, h5, ⟨M, h6, h6'⟩, h7, h8, h9, h10, h11, h12, h13, h14⟩ := h
  obtain ⟨o0, ho1, ho2⟩ := hn
  have hne : ∀ s b, blk (S.σ s) (sv s) = some b → W'.heap[b]? = W.heap[b]? := fun s b hb => hg.block b (owns_lt (h2 s) hb) (fun e => by
    obtain ⟨o, e1, e2⟩ := owns_cells (h2 s) hb
    simp only [Option.some.injEq] at e
    subst e
    rw [ho1] at e1; cases e1; rw [ho2] at e2; cases e2)
  exact ⟨fun b o v hk => cell_kept (h1 b o v hk) hg (fun r e => by cases e; exact ⟨o0, ho1, ho2⟩), fun s => owns_mono (Le.refl _ _ _) rfl (hne s) (h2 s), h3, h4, h5, hΦ M h6 h6', h7, h8, h9, Nat.le_trans h10 hg.size, hle,
    fun b o v hk hb => h12 b o v hk (hT b hb), fun s b hb hb' => h13 s b hb (hT b hb'), fun b hb => Nat.lt_of_lt_of_le (h14 b (hT b hb)) hg.size⟩

def setps (ρ : Nat → D) : List Nat → List D → Nat → D
  | t :: ts, d :: ds => setps (upd ρ t d) ts ds
  | _, _ => ρ
theorem slots_set {κ : Nat → Nat → Option Value} {γ : Nat → Nat} {sv : Nat → Value} : ∀ (ts : List Nat) (ds : List D) (vs : List Value) (ρ : Nat → D) (tm : Array Value), RepL κ γ sv ds vs → (∀ i, i < nt → Rep κ γ sv (ρ i) (tm.getD i Go.undef)) → tm.size = nt →
    (∀ i, i < nt → Rep κ γ sv (setps ρ ts ds i) (((ts.zip vs).foldl (fun (t : Array Value) (x : Nat × Value) => t.setIfInBounds x.1 x.2) tm).getD i Go.undef)) ∧ ((ts.zip vs).foldl (fun (t : Array Value) (x : Nat × Value) => t.setIfInBounds x.1 x.2) tm).size = nt
  | [], _, _, _, _, _, h, hz => ⟨h, hz⟩
  | t :: ts, _, _, ρ, tm, .nil, h, hz => ⟨h, hz⟩
  | t :: ts, _, _, ρ, tm, .cons d v ds vs h1 h2, h, hz => by
    simp only [setps, List.zip_cons_cons, List.foldl_cons]
    refine slots_set ts ds vs (upd ρ t d) (tm.setIfInBounds t v) h2 (fun i hi => ?_) (by simpa using hz)
    rw [getD_set]
    by_cases e : t = i
    · subst e; rw [if_pos ⟨rfl, by omega⟩, upd_same]; exact h1
    · rw [if_neg (fun h => e h.1), upd_ne _ _ _ _ (fun h => e h.symm)]; exact h i hi

/-- The state of the rounds: the slots are those ahead of the loop. -/
def rnd (S : St) (kp : List Nat) (gs : List (Nat × Nat)) (os : List (Nat × Own)) (h : Nat → Nat) : St := ⟨S.ρ, lookF h (gs ++ keepG S kp), look .none (os ++ keepO S kp)⟩
def ReachF (X : Ctx) (S S' : St) (kp : List Nat) (gs : List (Nat × Nat)) (os : List (Nat × Own)) : Prop := ∃ S'', Wk X S' S'' ∧ AllE S''.γ gs ∧ AllE S''.σ os ∧ KeepP S S'' kp
def roundX (Z : Seat) (nt : Nat) (w0 : World) (κ0 : Nat → Nat → Option Value) (ext : Option Nat) (κp : Nat → Nat → Option Value) (γp : Nat → Nat) (svp : Nat → Value) (T : Nat → Prop) (l : Nat) (Φ : (Nat → Prop) → World → Prop) (cl : ∀ M w w', Φ M w → Step M w w' → Φ (fun k => M k ∨ w.heap.size ≤ k) w') : Ctx :=
  ⟨Z, nt, w0, κ0, ext, κp, γp, svp, T, false, some l, Φ, cl⟩
/-- How a round may be left: off its end; by a return or a jump (Qx). -/
def bodyQ (X : Ctx) (S : St) (kp : List Nat) (gs : List (Nat × Nat)) (os : List (Nat × Own)) (Qx : Code → St → Prop) : Exit → St → Prop
  | .normal, S' => ReachF X S S' kp gs os
  | .ret, S' => Qx .ret S'
  | .exit i, S' => Qx (.exit i) S'
  | _, _ => False
def RoundOk (Z : Seat) (nt : Nat) (w0 : World) (κ0 : Nat → Nat → Option Value) (ext : Option Nat) (assign body : Code) (S S1 : St) (kp : List Nat) (gs' : List (Nat × Nat)) (os' : List (Nat × Own)) (Qx : Code → St → Prop) : Prop :=
  ∀ κp γp svp T l Φ cl, W (roundX Z nt w0 κ0 ext κp γp svp T l Φ cl) assign (fun e S2 => e = .normal ∧ ∀ Φ' cl', W (roundX Z nt w0 κ0 ext κp γp svp T l Φ' cl') body (bodyQ (roundX Z nt w0 κ0 ext κp γp svp T l Φ' cl') S kp gs' os' Qx) S2) S1

theorem W_rangeFunc {g : Operand} {ps : Array Nat} {assign body : Code} {S : St} {Q : Exit → St → Prop} {gf : FuncId} {cap : List D} {n : Nat} {vals : Nat → List Value}
    (hg : S.ev (Ctx.plain Z nt w0 κ0 ext) g = .fn gf cap) (hc : ItC Z gf cap n vals) (args : Nat → List D) (hv : ∀ k, k < n → scalL2 (args k) = some (vals k)) (hps : ∀ k, k < n → (vals k).length = ps.size)
    (kp : List Nat) (gs : Nat → List (Nat × Nat)) (os : Nat → List (Nat × Own)) (Qx : Code → St → Prop) (h0 : AllE S.γ (gs 0) ∧ AllE S.σ (os 0))
    (hround : ∀ k h, k < n → (∀ s, S.γ s ≤ lookF h (gs k ++ keepG S kp) s) → RoundOk Z nt w0 κ0 ext assign body S ⟨setps S.ρ ps.toList (args k), lookF h (gs k ++ keepG S kp), look .none (os k ++ keepO S kp)⟩ kp (gs (k + 1)) (os (k + 1)) Qx)
    (hdone : ∀ h, Q .normal (rnd S kp (gs n) (os n) h)) (hret : ∀ S', Qx .ret S' → Q .ret ⟨S.ρ, S'.γ, S'.σ⟩) (hexit : ∀ i S', Qx (.exit i) S' → Q (.exit i) ⟨S.ρ, S'.γ, S'.σ⟩) (hQx : ∀ c S', Qx c S' → c = .ret ∨ ∃ i, c = .exit i) :
    W (Ctx.plain Z nt w0 κ0 ext) (.rangeFunc g ps assign body) Q S := by
  intro κ sv a w hs
  have hev := hs.ev g
  rw [hg] at hev
  obtain ⟨lb, hae, hlb⟩ : ∃ lb : List Value, a.eval g = .func (.func gf) #[] lb.toArray ∧ RepL κ S.γ sv cap lb := by
    generalize a.eval g = v at hev
    cases hev with
    | fn _ _ vs hl => exact ⟨vs, rfl, hl⟩
  obtain ⟨fnb, cb, hf1, hf2, hf3⟩ := hc.body
  obtain ⟨Ds, d1, d2, d3, _⟩ := hs.defers
  refine wpIn_rangeFunc ?_
  intro fn hfn
  obtain ⟨rec, hrec⟩ : ∃ rec : LoopState → Option Code → Loop, rec = fun st pe => { state := st, pending := pe, fn, tmps := a.tmps, params := ps, assign, body, defers := w.heap.size } := ⟨_, rfl⟩
  obtain ⟨W1, hW1⟩ : ∃ W1, (w.alloc (.deferred (some []))).alloc (.loop (rec .ready none)) = W1 := ⟨_, rfl⟩
  have hsz1 : W1.heap.size = w.heap.size + 2 := by rw [← hW1]; simp
  have hL1 : W1.heap[w.heap.size + 1]? = some (.loop (rec .ready none)) := by
    rw [← hW1]; have := World.alloc_heap_new (w.alloc (.deferred (some []))) (.loop (rec .ready none)); rwa [World.size_alloc] at this
  have hK1 : W1.heap[w.heap.size]? = some (.deferred (some [])) := by
    rw [← hW1]; exact (Below.heap_alloc _ _ _ (by simp)).trans (World.alloc_heap_new w _)
  have hb1 : Below w.heap.size w W1 := by
    rw [← hW1]; exact ((Below.refl _ w).alloc (Nat.le_refl _) _).alloc (by simp) _
  have hs1 := hs.later hb1
  refine ⟨w.heap.size + 1, [mark w.heap.size], W1, { target := .fn (.func gf) lb.toArray, args := #[.func (.yield (w.heap.size + 1)) #[] #[]] }, W1, gf,
    (Value.func (.yield (w.heap.size + 1)) #[] #[] :: lb).toArray, W1, ?_, ?_, ?_, ?_, fun h => (by simp [Ctx.F, Fence.wide] at h), ?_⟩
  · rw [← hW1, hrec]; exact run_enterLoop_outer _ _ _ _ _
  · simp only [resolve, hae]
    simp [go_sem]
  · intro f' hf'; trivial
  · have eg : ∀ args w, (callFunc gf args).run (Ctx.plain Z nt w0 κ0 ext).Z.P w = .ok (.enter gf args) w := fun args w => by
      have h1 : fnb.name ≠ "runtime.NumGoroutine" := by simpa using hf3
      have hf1' : (Ctx.plain Z nt w0 κ0 ext).Z.P.funcs[gf]? = some fnb := hf1
      simp [callFunc, hf1', h1, hf2, Go.mark]
    simp [invoke, go_sem, eg]
  -- what holds between two rounds
  let XP : (Nat → Prop) → Ctx := fun T => ⟨Z, nt, w0, κ0, ext, κ, S.γ, sv, T, false, none, plainF w0 ext, plain_cl w0 ext⟩
  let others : World → Prop := fun W => ∀ (b : Nat) (o : Obj), w.heap[b]? = some o → o.isCells = false → W.heap[b]? = some o
  let J : (Nat → Prop) → Nat → World → Prop := fun T k W => (∃ κ' sv' h, SimW (XP T) κ' sv' (rnd S kp (gs k) (os k) h) W) ∧ (∀ b, T b → W1.heap.size ≤ b) ∧ W.heap[w.heap.size + 1]? = some (.loop (rec .ready none)) ∧ W.heap[w.heap.size]? = some (.deferred (some [])) ∧ others W
  let Jx : (Nat → Prop) → Nat → World → Prop := fun T _ W => ∃ c, (∃ κ' sv' S', SimW (XP T) κ' sv' S' W ∧ Qx c S') ∧ (∀ b, T b → W1.heap.size ≤ b) ∧ W.heap[w.heap.size + 1]? = some (.loop (rec .done (some c))) ∧ W.heap[w.heap.size]? = some (.deferred (some [])) ∧ others W
  have hbase := hs.wld.base
  have hbase' : w0.heap.size ≤ w.heap.size := hbase
  have stp : ∀ {T : Nat → Prop} {W W' : World} {b : Nat} {o : Obj}, Step T W W' → (∀ b, T b → W1.heap.size ≤ b) → b < W1.heap.size → W.heap[b]? = some o → W'.heap[b]? = some o := fun hst hT hb ho => by
    rw [hst.block _ (Array.getElem?_eq_some_iff.1 ho).1 (fun h => by have := hT _ h; omega)]; exact ho
  have growT_ge : ∀ {T : Nat → Prop} {W W' : World}, (∀ b, T b → W1.heap.size ≤ b) → W1.heap.size ≤ W.heap.size → ∀ b, growT T W W' b → W1.heap.size ≤ b := fun hT hW b hb => by
    rcases hb with hb | ⟨hb, _⟩
    · exact hT b hb
    · omega
  have szOf : ∀ {W : World} {o : Obj}, W.heap[w.heap.size + 1]? = some o → W1.heap.size ≤ W.heap.size := fun h => by
    have := (Array.getElem?_eq_some_iff.1 h).1; omega
  have oth_stp : ∀ {T : Nat → Prop} {W W' : World}, Step T W W' → (∀ b, T b → W1.heap.size ≤ b) → others W → others W' := fun hst hT ho b o hb hc => by
    refine stp hst hT ?_ (ho b o hb hc)
    have := (Array.getElem?_eq_some_iff.1 hb).1; omega
  have hJc : ∀ T k W W', J T k W → Step T W W' → J (growT T W W') k W' := by
    rintro T k W W' ⟨⟨κ', sv', h, hw⟩, hT, hl, hk, ho⟩ hst
    exact ⟨⟨κ', sv', h, hw.other hst (fun b hb => by have := hT b hb; omega)⟩, growT_ge hT (szOf hl), stp hst hT (by omega) hl, stp hst hT (by omega) hk, oth_stp hst hT ho⟩
  have hJxc : ∀ T k W W', Jx T k W → Step T W W' → Jx (growT T W W') k W' := by
    rintro T k W W' ⟨c, ⟨κ', sv', S', hw, hq⟩, hT, hl, hk, ho⟩ hst
    exact ⟨c, ⟨κ', sv', S', hw.other hst (fun b hb => by have := hT b hb; omega), hq⟩, growT_ge hT (szOf hl), stp hst hT (by omega) hl, stp hst hT (by omega) hk, oth_stp hst hT ho⟩
  have h00 : J (fun _ => False) 0 W1 := by
    refine ⟨⟨κ, sv, S.γ, ?_⟩, fun _ h => h.elim, hL1, hK1, fun b o hb _ => ?_⟩
    · have hm : AllE S.γ (gs 0 ++ keepG S kp) ∧ AllE S.σ (os 0 ++ keepO S kp) := ⟨allE_append h0.1 (keepG_ok S kp), allE_append h0.2 (keepO_ok S kp)⟩
      have hw := (sim_gen (S := S) (S' := rnd S kp (gs 0) (os 0) S.γ) (fun i => .inr rfl) (lookF_le (fun _ => Nat.le_refl _) hm.1) (look_ok hm.2) hs1).wld
      obtain ⟨e1, e2, e3, e4, e5, e6, e7, e8, e9, e10, e11, e12, e13, e14⟩ := hw
      exact ⟨e1, e2, e3, e4, e5, e6, e7, e8, e9, e10, ⟨fun _ _ _ h => h, lookF_le (fun _ => Nat.le_refl _) hm.1, fun _ _ => rfl⟩, fun _ _ _ _ h => h, fun _ _ _ h => h, fun _ h => h.elim⟩
    · rw [hb1.block b (Array.getElem?_eq_some_iff.1 hb).1]; exact hb
  have hfits1 : Fits κ W1 := hs1.wld.imm
  refine (calls_F (X := Ctx.plain Z nt w0 κ0 ext) (n := 0) ((callsIn_wide (n := 0)).1 (hc.it W1 κ lb hfits1 (Sim.globOk hs1.wld) (hlb.pure (fun _ _ _ h => h) hc.pureC) (w.heap.size + 1) J Jx hJc hJxc ?_ h00))).mono ?_
  · -- one round
    rintro T k W ⟨⟨κ', sv', h, hw⟩, hT, hl, hk, ho⟩ hkn hcells
    have hy := run_yield (P := Z.P) (args := (vals k).toArray) hl (by rw [hrec, List.size_toArray]; exact hps k hkn)
    rw [hrec] at hy
    refine ⟨fn, _, assign, body, hy, roundIn_of_wpIn trivial ?_⟩
    have hfold : (ps.zip (vals k).toArray).foldl (fun tmps (t, a) => tmps.setIfInBounds t a) a.tmps = (ps.toList.zip (vals k)).foldl (fun (t : Array Value) (x : Nat × Value) => t.setIfInBounds x.1 x.2) a.tmps := by
      rw [← Array.foldl_toList, Array.toList_zip]
    have hlW : w.heap.size + 1 < W.heap.size := (Array.getElem?_eq_some_iff.1 hl).1
    let Ta : Nat → Prop := fun b => (T b ∨ ∃ o : Obj, W.heap[b]? = some o ∧ o.isCells = false) ∨ ∃ o v, κ b o = some v
    have hTl : Ta (w.heap.size + 1) := .inl (.inr ⟨_, hl, rfl⟩)
    have hTlt : ∀ b, Ta b → b < W.heap.size := by
      rintro b ((hb | ⟨o, hb, _⟩) | ⟨o, v, hb⟩)
      · exact hw.aw3 b hb
      · exact (Array.getElem?_eq_some_iff.1 hb).1
      · have := World.block_lt_of_cell? W _ (hcells b o v hb); simpa using this
    have hκne : ∀ b o v, κ b o = some v → b ≠ w.heap.size + 1 := by
      intro b o v hb e
      subst e
      have := hcells _ o v hb
      simp [World.cell?, hl] at this
    -- the assignment
    have hsa : SimW (roundX Z nt w0 κ0 ext κ S.γ sv T (w.heap.size + 1) (protF w0 ext Ta W) (prot_cl w0 ext Ta W)) κ' sv' ⟨setps S.ρ ps.toList (args k), lookF h (gs k ++ keepG S kp), look .none (os k ++ keepO S kp)⟩ W := by
      have h1 : SimW (XP T) κ' sv' ⟨setps S.ρ ps.toList (args k), lookF h (gs k ++ keepG S kp), look .none (os k ++ keepO S kp)⟩ W := hw.slots rfl rfl
      refine h1.reframe (D := w.heap.size + 1) (below_grown (Below.refl _ _) _) ⟨_, hl, rfl⟩ (fun M hM1 hM2 => ⟨fun b => ∃ s, blk (look .none (os k ++ keepO S kp) s) (sv' s) = some b, ⟨⟨M, hM1, fun b ⟨s, hb⟩ => hM2 s b hb⟩, ?_, fun b hb => ⟨hTlt b hb, rfl⟩, Nat.le_refl _⟩, fun s b hb => ⟨s, hb⟩⟩) (fun _ h => h) hw.le
      rintro b ⟨s, hb⟩ ((hb2 | ⟨o, hb2, hb3⟩) | ⟨o, v, hb2⟩)
      · exact hw.aw2 s b hb hb2
      · obtain ⟨o', e1, e2⟩ := owns_cells (hw.own s) hb
        rw [e1] at hb2; cases hb2; rw [hb3] at e2; cases e2
      · have := hw.sep s b o hb
        rw [hw.le.cells b o v hb2] at this; cases this
    have hslots := slots_set ps.toList (args k) (vals k) S.ρ a.tmps (scalL2_rep (κ := κ') (γ := lookF h (gs k ++ keepG S kp)) (sv := sv') (hv k hkn)) (fun i hi => (hs.slot i hi).mono hw.le) hs.size
    have hra := hround k h hkn hw.le.gens κ S.γ sv T (w.heap.size + 1) (protF w0 ext Ta W) (prot_cl w0 ext Ta W) κ' sv' { tmps := (ps.toList.zip (vals k)).foldl (fun (t : Array Value) (x : Nat × Value) => t.setIfInBounds x.1 x.2) a.tmps, defers := [] } W
      ⟨hslots.2, Dfr.nil rfl, hslots.1, hsa⟩
    rw [hfold]
    refine wpIn_mono hra ?_
    rintro e a1 w1 ⟨κ1, sv1, S1, hs1', rfl, hbody⟩
    obtain ⟨M1, ⟨⟨M1', p1, p2⟩, p3, p4, p5⟩, hM1⟩ := hs1'.wld.frame
    have hl1 : w1.heap[w.heap.size + 1]? = some (.loop (rec .ready none)) := (p4 _ hTl).2.trans hl
    refine ⟨_, run_beginRound hl1 (by rw [hrec]), ?_⟩
    obtain ⟨w2, hw2⟩ : ∃ w2, w1.putObj (w.heap.size + 1) (.loop { rec .ready none with state := .busy }) = w2 := ⟨_, rfl⟩
    rw [hw2]
    have hg2 : w1.grownBy w2 (some (w.heap.size + 1)) := by rw [← hw2]; exact grownBy_putObj' _ _ _
    have hz2 : w2.heap.size = w1.heap.size := by rw [← hw2]; simp
    have hl2 : w2.heap[w.heap.size + 1]? = some (.loop { rec .ready none with state := .busy }) := by rw [← hw2]; exact World.putObj_heap_same (Array.getElem?_eq_some_iff.1 hl1).1
    have ho2 : ∀ b, b ≠ w.heap.size + 1 → w2.heap[b]? = w1.heap[b]? := fun b hb => by rw [← hw2]; exact World.putObj_heap_other hb
    have frm : ∀ {M : Nat → Prop} {A B : World}, plainF w0 ext M A → A.grownBy B (some (w.heap.size + 1)) → plainF w0 ext M B := fun h1 hg =>
      ⟨⟨hg.os.trans h1.1.os, hg.tape.trans h1.1.tape, hg.output.trans h1.1.output, Nat.le_trans h1.1.size hg.size, fun k hk he =>
        (hg.block k (Nat.lt_of_lt_of_le hk h1.1.size) (fun e => by simp only [Option.some.injEq] at e; omega)).trans (h1.1.block k hk he)⟩, h1.2⟩
    have hsb : SimW (roundX Z nt w0 κ0 ext κ S.γ sv T (w.heap.size + 1) (protF w0 ext Ta w2) (prot_cl w0 ext Ta w2)) κ1 sv1 S1 w2 := by
      refine hs1'.wld.reframe hg2 ⟨_, hl1, rfl⟩ (fun M hM2 hM3 => ⟨M, ?_, hM3⟩) (fun _ h => h) hs1'.wld.le
      obtain ⟨⟨M', q1, q2⟩, q3, q4, q5⟩ := hM2
      exact ⟨⟨M', frm q1 hg2, q2⟩, q3, fun b hb => ⟨by have := hTlt b hb; omega, rfl⟩, Nat.le_refl _⟩
    obtain ⟨Ds1, t1, t2, t3, t4⟩ := hs1'.defers
    have hrb := hbody (protF w0 ext Ta w2) (prot_cl w0 ext Ta w2) κ1 sv1 a1 w2 ⟨hs1'.size, ⟨Ds1, t1, t2, fun D hD => ⟨(t3 D hD).1, (ho2 D (fun e => by
      have := (t3 D hD).2
      rw [e, hl1] at this; cases this)).trans (t3 D hD).2⟩, t4⟩, hs1'.slot, hsb⟩
    refine wpIn_mono hrb ?_
    rintro e a3 w3 ⟨κ3, sv3, S3, hs3, hq⟩
    obtain ⟨M3, ⟨⟨M3', r1, r2⟩, r3, r4, r5⟩, hM3⟩ := hs3.wld.frame
    have hl3 : w3.heap[w.heap.size + 1]? = some (.loop { rec .ready none with state := .busy }) := (r4 _ hTl).2.trans hl2
    have same3 : ∀ b, Ta b → b ≠ w.heap.size + 1 → w3.heap[b]? = W.heap[b]? := fun b hb hne => (r4 b hb).2.trans ((ho2 b hne).trans (p4 b hb).2)
    have fin : ∀ (jump : Option Code), ∃ w4, (Instr.endRound (w.heap.size + 1) jump).run Z.P w3 = .ok (.bool jump.isNone) w4 ∧ w3.grownBy w4 (some (w.heap.size + 1)) ∧ w4.heap[w.heap.size + 1]? = some (.loop (rec (if jump.isNone then .ready else .done) jump)) ∧
        w4.heap[w.heap.size]? = some (.deferred (some [])) ∧ others w4 ∧ Kept T κ W w4 := fun jump => by
      have h1 := run_endRound (P := Z.P) jump hl3
      rw [hrec] at h1 ⊢
      refine ⟨_, h1, grownBy_putObj' _ _ _, World.putObj_heap_same (Array.getElem?_eq_some_iff.1 hl3).1, ?_, ?_, ?_⟩
      · rw [World.putObj_heap_other (by omega), same3 _ (.inl (.inr ⟨_, hk, rfl⟩)) (by omega)]; exact hk
      · intro b o hb hc
        have hlt := (Array.getElem?_eq_some_iff.1 hb).1
        rw [World.putObj_heap_other (by omega), same3 _ (.inl (.inr ⟨_, ho b o hb hc, hc⟩)) (by omega)]; exact ho b o hb hc
      · refine ⟨by simp; omega, fun b hb => ?_, fun b o v hb => ?_⟩
        · have := hT b hb
          rw [World.putObj_heap_other (by omega), same3 _ (.inl (.inl hb)) (by omega)]
        · have hne := hκne b o v hb
          rw [World.cell?_of_block (w := W) (by rw [World.putObj_heap_other hne, same3 _ (.inr ⟨o, v, hb⟩) hne])]
          exact hcells b o v hb
    have out : ∀ {κ4 sv4 S4 w4}, SimW (roundX Z nt w0 κ0 ext κ S.γ sv T (w.heap.size + 1) (protF w0 ext Ta w2) (prot_cl w0 ext Ta w2)) κ4 sv4 S4 w3 → w3.grownBy w4 (some (w.heap.size + 1)) → SimW (XP T) κ4 sv4 S4 w4 := fun h4 hg4 =>
      h4.reframe hg4 ⟨_, hl3, rfl⟩ (fun M hM2 hM3 => by
        obtain ⟨⟨M', q1, q2⟩, _⟩ := hM2
        exact ⟨M', frm q1 hg4, fun s b hb => q2 b (hM3 s b hb)⟩) (fun _ h => h) h4.le
    cases e with
    | normal =>
      obtain ⟨S4, hwk, m1, m2, m3⟩ := hq
      obtain ⟨κ4, sv4, hs4⟩ := hwk κ3 sv3 a3 w3 hs3
      obtain ⟨w4, f1, f2, f3, f4, f5, f6⟩ := fin none
      have hm : AllE S4.γ (gs (k + 1) ++ keepG S kp) ∧ AllE S4.σ (os (k + 1) ++ keepO S kp) := ⟨allE_append m1 (keepG_all m3), allE_append m2 (keepO_all m3)⟩
      have h5 := (sim_gen (S := S4) (S' := ⟨S4.ρ, lookF S4.γ (gs (k + 1) ++ keepG S kp), look .none (os (k + 1) ++ keepO S kp)⟩) (fun i => .inr rfl) (lookF_le (fun _ => Nat.le_refl _) hm.1) (look_ok hm.2) hs4).wld
      exact ⟨_, w4, f1, .inl ⟨rfl, ⟨κ4, sv4, S4.γ, (out h5 f2).slots rfl rfl⟩, hT, f3, f4, f5⟩, f6⟩
    | ret =>
      obtain ⟨w4, f1, f2, f3, f4, f5, f6⟩ := fin (some .ret)
      exact ⟨_, w4, f1, .inr ⟨rfl, .ret, ⟨κ3, sv3, S3, out hs3.wld f2, hq⟩, hT, f3, f4, f5⟩, f6⟩
    | exit i =>
      obtain ⟨w4, f1, f2, f3, f4, f5, f6⟩ := fin (some (.exit i))
      exact ⟨_, w4, f1, .inr ⟨rfl, .exit i, ⟨κ3, sv3, S3, out hs3.wld f2, hq⟩, hT, f3, f4, f5⟩, f6⟩
    | goto t => exact hq.elim
    | panic ch => exact hq.elim
    | outgrown => exact hq.elim
  · -- behind the iterator
    have last : ∀ {T : Nat → Prop} {κ' : Nat → Nat → Option Value} {sv' : Nat → Value} {S' : St} {W : World} {st : LoopState} {pe : Option Code}, SimW (XP T) κ' sv' S' W → W.heap[w.heap.size + 1]? = some (.loop (rec st pe)) → W.heap[w.heap.size]? = some (.deferred (some [])) → others W →
        ∀ o', Sim (Ctx.plain Z nt w0 κ0 ext) κ' sv' ⟨S.ρ, S'.γ, S'.σ⟩ { a with defers := mark w.heap.size :: a.defers } (W.putObj (w.heap.size + 1) o') := by
      intro T κ' sv' S' W st pe hw hl hk ho o'
      have hg := grownBy_putObj' W (w.heap.size + 1) o'
      refine ⟨hs.size, ⟨w.heap.size :: Ds, by rw [d1]; rfl, List.nodup_cons.2 ⟨fun hm => ?_, d2⟩, fun D hD => ?_, fun h => ?_⟩, fun i hi => (hs.slot i hi).mono hw.le, ?_⟩
      · have := (d3 _ hm).2
        rw [Array.getElem?_eq_none (by simp)] at this; cases this
      · rcases List.mem_cons.1 hD with rfl | hD
        · exact ⟨hbase', (World.putObj_heap_other (by omega)).trans hk⟩
        · obtain ⟨e1, e2⟩ := d3 D hD
          have hlt := (Array.getElem?_eq_some_iff.1 e2).1
          exact ⟨e1, (World.putObj_heap_other (by omega)).trans (ho D _ e2 rfl)⟩
      · rename_i h; cases h
      · have h1 : SimW (XP T) κ' sv' ⟨S.ρ, S'.γ, S'.σ⟩ W := hw.slots rfl rfl
        refine h1.reframe hg ⟨_, hl, rfl⟩ (fun M hM2 hM3 => ⟨M, ?_, hM3⟩) (fun _ h => h.elim) (hs.wld.le.trans hw.le)
        exact ⟨⟨hg.os.trans hM2.1.os, hg.tape.trans hM2.1.tape, hg.output.trans hM2.1.output, Nat.le_trans hM2.1.size hg.size, fun k hk he =>
          (hg.block k (Nat.lt_of_lt_of_le hk hM2.1.size) (fun e => by simp only [Option.some.injEq] at e; omega)).trans (hM2.1.block k hk he)⟩, hM2.2⟩
    rintro e W2 ⟨⟨v, rfl⟩, (⟨T, ⟨κ', sv', h, hw⟩, hT, hl, hk, ho⟩ | ⟨T, k, _, c, ⟨κ', sv', S', hw, hq⟩, hT, hl, hk, ho⟩)⟩
    · exact ⟨none, _, by have := run_endLoop (P := Z.P) hl (by rw [hrec]; simp); rw [hrec] at this; exact this, κ', sv', _, last hw hl hk ho _, hdone h⟩
    · refine ⟨some c, _, by have := run_endLoop (P := Z.P) hl (by rw [hrec]; simp); rw [hrec] at this; exact this, ?_⟩
      rcases hQx c S' hq with rfl | ⟨i, rfl⟩
      · exact wpIn_ret ⟨κ', sv', _, last hw hl hk ho _, hret S' hq⟩
      · exact wpIn_exit ⟨κ', sv', _, last hw hl hk ho _, hexit i S' hq⟩


theorem keepP_look {S S' : St} : ∀ {kp : List Nat}, KeepP S S' kp → AllE S'.γ (keepG S kp) ∧ AllE S'.σ (keepO S kp) := fun h => ⟨keepG_all h, keepO_all h⟩
end
end Go.Ab

/- The walk of an iterator: walks between the calls of yield, and what a call of yield does. -/
namespace Go.Ab
open Go Go.RowKit

def itF (w : World) (J : (Nat → Prop) → World → Prop) (U : Nat → Prop) (M : Nat → Prop) (W : World) : Prop := ∃ T, J T W ∧ (∀ b, b < W.heap.size → M b → T b) ∧ (∀ b, w.heap.size ≤ b → b < W.heap.size → ¬ U b → T b)
theorem itF_cl {w : World} {J : (Nat → Prop) → World → Prop} {U : Nat → Prop} (hJ : ∀ T W W', J T W → Step T W W' → J (growT T W W') W') : ∀ M W W', itF w J U M W → Step M W W' → itF w J U (fun k => M k ∨ W.heap.size ≤ k) W' := by
  rintro M W W' ⟨T, h1, h2, h3⟩ hs
  refine ⟨growT T W W', hJ T W W' h1 ⟨hs.os, hs.tape, hs.output, hs.size, fun k hk hT => hs.block k hk (fun hm => hT (h2 k hk hm))⟩, fun b hb hM => ?_, fun b h4 h5 h6 => ?_⟩
  · by_cases e : b < W.heap.size
    · rcases hM with hM | hM
      · exact .inl (h2 b e hM)
      · omega
    · exact .inr ⟨by omega, hb⟩
  · by_cases e : b < W.heap.size
    · exact .inl (h3 b h4 e h6)
    · exact .inr ⟨by omega, h5⟩

structure Env where
  Z : Seat
  nt : Nat
  w : World
  κ : Nat → Nat → Option Value
  l : Nat
  n : Nat
  vals : Nat → List Value
  J : (Nat → Prop) → Nat → World → Prop
  Jx : (Nat → Prop) → Nat → World → Prop
  hJ : ∀ T k W W', J T k W → Step T W W' → J (growT T W W') k W'
  hJx : ∀ T k W W', Jx T k W → Step T W W' → Jx (growT T W W') k W'
  hY : ∀ T k W, J T k W → k < n → (∀ b o v, κ b o = some v → W.cell? ⟨b, o, none⟩ = some v) → YieldAt Fence.wide 0 Z.P l (vals k).toArray W fun e W' =>
      ((e = .returned (.bool true) ∧ J T (k + 1) W') ∨ (e = .returned (.bool false) ∧ Jx T (k + 1) W')) ∧ Kept T κ W W'
def Env.K (E : Env) (k : Nat) (s : Bool) (T : Nat → Prop) (W : World) : Prop := match s with | true => E.Jx T k W | false => E.J T k W
theorem Env.hK (E : Env) (k : Nat) (s : Bool) : ∀ T W W', E.K k s T W → Step T W W' → E.K k s (growT T W W') W' := by
  cases s
  · exact fun T W W' => E.hJ T k W W'
  · exact fun T W W' => E.hJx T k W W'
def Env.X (E : Env) (k : Nat) (s : Bool) (U : Nat → Prop) : Ctx := ⟨E.Z, E.nt, E.w, E.κ, none, E.κ, fun _ => 0, fun _ => Go.undef, U, true, none, itF E.w (E.K k s) U, itF_cl (E.hK k s)⟩

def liftI (E : Env) (Q : Nat → Bool → Exit → St → Prop) : Exit → Act → World → Prop := fun e a W => ∃ k s U κ sv S, Sim (E.X k s U) κ sv S a W ∧ Q k s e S
def WI (E : Env) (c : Code) (Q : Nat → Bool → Exit → St → Prop) (k : Nat) (s : Bool) (S : St) : Prop := ∀ U κ sv a W, Sim (E.X k s U) κ sv S a W → c.wpIn Fence.wide 0 E.Z.P (liftI E Q) a W
def WIL (E : Env) (ops : Array Oper) (l : List Oper) (Q : Nat → Bool → Exit → St → Prop) (k : Nat) (s : Bool) (S : St) : Prop := ∀ U κ sv a W, Sim (E.X k s U) κ sv S a W → wpListIn Fence.wide 0 E.Z.P ops (liftI E Q) l a W
section
variable {E : Env} {Q : Nat → Bool → Exit → St → Prop} {k : Nat} {s : Bool} {S S1 : St}
theorem WI_of {c : Code} (h : ∀ U, W (E.X k s U) c (Q k s) S) : WI E c Q k s S := fun U κ sv a W hs => by
  refine wpIn_mono (h U κ sv a W hs) ?_
  rintro e a' W' ⟨κ', sv', S', h1, h2⟩
  exact ⟨k, s, U, κ', sv', S', h1, h2⟩
def thenI (E : Env) (y : Code) (Q : Nat → Bool → Exit → St → Prop) : Nat → Bool → Exit → St → Prop
  | k, s, .normal, S => WI E y Q k s S
  | k, s, e, S => Q k s e S
def blockI (id : Nat) (Q : Nat → Bool → Exit → St → Prop) : Nat → Bool → Exit → St → Prop
  | k, s, .exit i, S => bif Nat.beq i id then Q k s .normal S else Q k s (.exit i) S
  | k, s, e, S => Q k s e S
theorem WI_seq {x y : Code} (h : WI E x (thenI E y Q) k s S) : WI E (.seq x y) Q k s S := fun U κ sv a W hs => by
  refine wpIn_seq (wpIn_mono (h U κ sv a W hs) ?_)
  rintro e a' W' ⟨k', s', U', κ', sv', S', h1, h2⟩
  cases e <;> first | exact h2 U' κ' sv' a' W' h1 | exact ⟨k', s', U', κ', sv', S', h1, h2⟩
theorem WI_block {id : Nat} {c : Code} (h : WI E c (blockI id Q) k s S) : WI E (.block id c) Q k s S := fun U κ sv a W hs => by
  refine wpIn_block (wpIn_mono (h U κ sv a W hs) ?_)
  rintro e a' W' ⟨k', s', U', κ', sv', S', h1, h2⟩
  cases e with
  | exit i =>
    simp only [Exit.inBlock]
    simp only [blockI] at h2
    split
    · rename_i e; subst e; rw [Nat.beq_refl] at h2; exact ⟨k', s', U', κ', sv', S', h1, h2⟩
    · rename_i e
      have : Nat.beq i id = false := by
        cases hb : Nat.beq i id
        · rfl
        · exact absurd (Nat.eq_of_beq_eq_true hb) e
      rw [this] at h2; exact ⟨k', s', U', κ', sv', S', h1, h2⟩
  | _ => exact ⟨k', s', U', κ', sv', S', h1, h2⟩
theorem WI_loop {c : Code} {α : Type} (F : α → Nat × Bool × St) (inv : α → Prop) (μ : α → Nat) (x0 : α) (h0 : inv x0) (hs : (F x0).1 = k ∧ (F x0).2.1 = s ∧ ∀ U, Wk (E.X k s U) S (F x0).2.2)
    (round : ∀ x, inv x → WI E c (fun k' s' e S' => match e with | .normal => ∃ x', inv x' ∧ μ x' < μ x ∧ (F x').1 = k' ∧ (F x').2.1 = s' ∧ ∀ U, Wk (E.X k' s' U) S' (F x').2.2 | e => Q k' s' e S') (F x).1 (F x).2.1 (F x).2.2) : WI E (.loop c) Q k s S := by
  intro U κ sv a W hsim
  have key : ∀ m x U κ sv a W, inv x → μ x < m → Sim (E.X (F x).1 (F x).2.1 U) κ sv (F x).2.2 a W → Code.roundsIn Fence.wide 0 E.Z.P c (liftI E Q) m a W := by
    intro m
    induction m with
    | zero => intro x U κ sv a W _ h; omega
    | succ m ih =>
      intro x U κ sv a W hi hm hx
      rw [roundsIn_succ]
      refine wpIn_mono (round x hi U κ sv a W hx) ?_
      rintro e a' W' ⟨k', s', U', κ', sv', S', h1, h2⟩
      cases e with
      | normal =>
        obtain ⟨x', hi', hm', rfl, rfl, hw⟩ := h2
        obtain ⟨κ2, sv2, hx'⟩ := hw U' κ' sv' a' W' h1
        exact ih x' U' κ2 sv2 a' W' hi' (by omega) hx'
      | _ => exact ⟨k', s', U', κ', sv', S', h1, h2⟩
  obtain ⟨e1, e2, e3⟩ := hs
  obtain ⟨κ1, sv1, hx⟩ := e3 U κ sv a W hsim
  subst e1 e2
  exact wpIn_loop_rounds (μ x0 + 1) (key _ x0 U κ1 sv1 a W h0 (Nat.lt_succ_self _) hx)
theorem WI_wk {c : Code} {S' : St} (hw : ∀ U, Wk (E.X k s U) S S') (h : WI E c Q k s S') : WI E c Q k s S := fun U κ sv a W hs =>
  let ⟨κ', sv', hs'⟩ := hw U κ sv a W hs
  h U κ' sv' a W hs'

/-- A list of operations in two parts. -/
theorem opIn_mono {F : Fence} {n : Nat} {P : Program} {o : Oper} {a : Act} {w : World} {K K' : Act → World → Prop} {Q1 Q2 : Exit → Act → World → Prop} (h : ∀ a w, K a w → K' a w) (hq : ∀ e a w, e ≠ .normal → Q1 e a w → Q2 e a w)
    (hh : o.wpIn F n P a w K Q1) : o.wpIn F n P a w K' Q2 := by
  unfold Oper.wpIn at *
  refine ⟨hh.1, ?_⟩
  have hh := hh.2
  generalize (o.semAt F.round a.eval).run P w = r at *
  have lo : LetsOut Q1 → LetsOut Q2 := fun ⟨a, w, h⟩ => ⟨a, w, hq _ _ _ (by simp) h⟩
  cases r with
  | ok x w' =>
    cases x <;> simp only [Oper.uponIn] at hh ⊢ <;>
      first
        | exact h _ _ hh
        | exact ⟨hh.1, CallsIn.mono hh.2 (fun e w'' he => by cases e <;> first | exact h _ _ he | exact hq _ _ _ (by simp) he | exact lo he)⟩
        | exact ⟨hh.1, RowsIn.mono hh.2 (fun _ _ he => h _ _ he)⟩
        | exact ⟨hh.1, RoundIn.mono hh.2 (fun e w'' he => by cases e <;> first | exact h _ _ he | exact hq _ _ _ (by simp) he | exact lo he)⟩
  | halt x w' => cases x <;> simp only [Oper.uponIn] at hh ⊢ <;> first | exact hq _ _ _ (by simp) hh | exact hh
theorem wpListIn_append {F : Fence} {n : Nat} {P : Program} {ops : Array Oper} {Q1 Q2 : Exit → Act → World → Prop} {l2 : List Oper} (hn : ∀ a w, Q1 .normal a w → wpListIn F n P ops Q2 l2 a w) (hq : ∀ e a w, e ≠ .normal → Q1 e a w → Q2 e a w) :
    ∀ (l1 : List Oper) (a : Act) (w : World), wpListIn F n P ops Q1 l1 a w → wpListIn F n P ops Q2 (l1 ++ l2) a w
  | [], a, w, h => hn a w h
  | o :: l1, a, w, h => by
    simp only [List.cons_append, wpListIn] at h ⊢
    split
    · rename_i hw
      rw [if_pos hw] at h
      exact opIn_mono (fun a w h => wpListIn_append hn hq l1 a w h) hq h
    · rename_i hw
      rw [if_neg hw] at h
      exact ⟨h.1, wpListIn_append hn hq l1 _ _ h.2⟩

theorem WI_region {id : Nat} {l : List Oper} (h : WIL E l.toArray l Q k s S) : WI E (.region id l.toArray false) Q k s S := fun U κ sv a W hs => wpIn_region_lit (h U κ sv a W hs)
theorem WIL_of {ops : Array Oper} {l : List Oper} (h : ∀ U, WL (E.X k s U) ops l (Q k s) S) : WIL E ops l Q k s S := fun U κ sv a W hs => by
  have := wpListIn_append (l2 := []) (Q2 := liftI E Q) (fun a w ⟨κ', sv', S', h1, h2⟩ => ⟨k, s, U, κ', sv', S', h1, h2⟩) (fun e a w _ ⟨κ', sv', S', h1, h2⟩ => ⟨k, s, U, κ', sv', S', h1, h2⟩) l a W (h U κ sv a W hs)
  rwa [List.append_nil] at this
/-- First a part that calls no yield. -/
theorem WIL_part {ops : Array Oper} (l1 l2 : List Oper) (h1 : ∀ U, WL (E.X k s U) ops l1 (fun e S' => e = .normal ∧ WIL E ops l2 Q k s S') S) : WIL E ops (l1 ++ l2) Q k s S := fun U κ sv a W hs =>
  wpListIn_append (fun a w ⟨κ', sv', S', h, _, h2⟩ => h2 U κ' sv' a w h) (fun e a w hne ⟨_, _, _, _, h, _⟩ => absurd h hne) l1 a W (h1 U κ sv a W hs)

/-- A call of yield. -/
theorem WIL_yield {ops : Array Oper} {o : Oper} {rest : List Oper} {x : Operand} {xs : Array Operand} {ts : Array TypeId} {d : Nat} {A : List D} (ho : o.op = .call { callee := .value x, args := xs, argTypes := ts }) (hg : o.guard = none) (hd : o.dst = some d)
    (hx : S.ev (E.X k false fun _ => False) x = .yl E.l) (hA : xs.toList.map (S.ev (E.X k false fun _ => False)) = A) (hv : scalL2 A = some (E.vals k)) (hk : k < E.n)
    (hT : WIL E ops rest Q (k + 1) false (S.set d (.bool true))) (hF : WIL E ops rest Q (k + 1) true (S.set d (.bool false))) : WIL E ops (o :: rest) Q k false S := fun U κ' sv a W hs => by
  obtain ⟨M, ⟨T, t1, t2, t3⟩, hown⟩ := hs.wld.frame
  have hκ : ∀ b o v, E.κ b o = some v → W.cell? ⟨b, o, none⟩ = some v := fun b o v hb => hs.wld.imm b o v (hs.wld.le.cells b o v hb)
  obtain ⟨fn, tmps, assign, body, y1, y2⟩ := E.hY T k W t1 hk hκ
  have hxv : a.eval x = .func (.yield E.l) #[] #[] := by
    have := hs.ev x
    have h2 : S.ev (E.X k false U) x = .yl E.l := hx
    rw [h2] at this
    generalize a.eval x = v at this
    cases this; rfl
  have hav : (xs.map a.eval) = (E.vals k).toArray := by
    have h1 := evs_rep hs xs.toList
    have h2 : xs.toList.map (S.ev (E.X k false U)) = A := hA
    rw [h2] at h1
    have h3 := scalL2_eq hv h1
    rw [← h3]; simp [← Array.toList_map]
  have hrun : (execOp a.eval o).run E.Z.P W = .ok (.round E.l fn tmps assign body) W := by
    have h4 : execOp a.eval o = Instr.yield E.l (xs.map a.eval) := by
      unfold execOp; rw [ho]; simp [resolve, Deferred.ofValue, hxv, invoke]
    rw [h4, hav]; exact y1
  refine wpListIn_plain hg fun K hK => ⟨fun _ _ => trivial, ?_⟩
  rw [show Fence.wide.round = none from rfl, Oper.semAt_none, hrun]
  refine ⟨fun h => (by simp [Fence.wide] at h), y2.mono ?_⟩
  rintro e W' ⟨hor, hkept⟩
  let U' : Nat → Prop := fun b => U b ∨ (W.heap.size ≤ b ∧ b < W'.heap.size)
  have hlt : ∀ b o v, κ' b o = some v → b < W.heap.size := fun b o v hb => by have := World.block_lt_of_cell? W _ (hs.wld.imm b o v hb); simpa using this
  have same : ∀ b o v, κ' b o = some v → W'.cell? ⟨b, o, none⟩ = some v := by
    intro b o v hb
    by_cases e : b < E.w.heap.size
    · exact hkept.cell b o v (hs.wld.old b o v e hb)
    · have hT : T b := t3 b (by omega) (hlt b o v hb) (hs.wld.aw1 b o v hb)
      rw [World.cell?_of_block (hkept.mine b hT)]; exact hs.wld.imm b o v hb
  have goon : ∀ (s' : Bool), E.K (k + 1) s' T W' → SimW (E.X (k + 1) s' U') κ' sv S W' := fun s' hK' => by
    obtain ⟨h1, h2, h3, h4, h5, _, h7, h8, h9, h10, h11, h12, h13, h14⟩ := hs.wld
    refine ⟨same, fun t => owns_mono (Le.refl _ _ _) rfl (fun b hb => hkept.mine b (t2 b (owns_lt (h2 t) hb) (hown t b hb))) (h2 t), h3, h4, h5,
      ⟨fun b => M b ∧ b < W.heap.size, ⟨T, hK', fun b _ hM => t2 b hM.2 hM.1, fun b e1 e2 e3 => ?_⟩, fun t b hb => ⟨hown t b hb, owns_lt (h2 t) hb⟩⟩, h7, h8, h9, Nat.le_trans h10 hkept.size, h11, fun b o v hb hU => ?_, fun t b hb hU => ?_, fun b hU => ?_⟩
    · by_cases e : b < W.heap.size
      · exact t3 b e1 e (fun h => e3 (.inl h))
      · exact absurd (.inr ⟨by omega, e2⟩) e3
    · rcases hU with hU | ⟨hU, _⟩
      · exact h12 b o v hb hU
      · have := hlt b o v hb; omega
    · rcases hU with hU | ⟨hU, _⟩
      · exact h13 t b hb hU
      · have := owns_lt (h2 t) hb; omega
    · rcases hU with hU | ⟨_, hU⟩
      · exact Nat.lt_of_lt_of_le (h14 b hU) hkept.size
      · exact hU
  have dfr : ∀ s', Dfr (E.X (k + 1) s' U').nd (E.X (k + 1) s' U').w0.heap.size a W' := fun s' => by
    obtain ⟨Ds, e1, e2, e3, e4⟩ := hs.defers
    have : Ds = [] := e4 rfl
    subst this
    exact .nil (by simpa using e1)
  rcases hor with ⟨rfl, hJ⟩ | ⟨rfl, hJ⟩
  · show K (a.put o.dst (.bool true)) W'
    rw [hd]
    have h1 : Sim (E.X (k + 1) false U') κ' sv S a W' := ⟨hs.size, dfr false, hs.slot, goon false hJ⟩
    exact hK _ _ (hT U' κ' sv _ W' (h1.put (some d) (.bool true)))
  · show K (a.put o.dst (.bool false)) W'
    rw [hd]
    have h1 : Sim (E.X (k + 1) true U') κ' sv S a W' := ⟨hs.size, dfr true, hs.slot, goon true hJ⟩
    exact hK _ _ (hF U' κ' sv _ W' (h1.put (some d) (.bool false)))
end

/-- An iterator's contract, out of its walk. -/
theorem itC_intro {Z : Seat} {f : FuncId} {fn : Func} {c : Code} {cap : List D} {n : Nat} {vals : Nat → List Value} (hf : Z.P.funcs[f]? = some fn) (hb : fn.body = some c) (hname : (fn.name == "runtime.NumGoroutine") = false) (hn : Nat.ble (cap.length + 1) fn.ntmps = true) (hA : PureL cap) (hres : fn.results = #[])
    (h : ∀ E : Env, E.Z = Z → E.nt = fn.ntmps → E.n = n → E.vals = vals → WI E c (fun k s e _ => (e = .normal ∨ e = .ret) ∧ (s = false → k = n) ∧ k ≤ n) 0 false (St.init (.yl E.l :: cap))) : ItC Z f cap n vals := by
  refine ⟨⟨fn, c, hf, hb, hname⟩, hA, fun w κ lb hκ hglob hrep l J Jx hJ hJx hY h0 => ?_⟩
  refine callsIn_of_wp_marks hf hb trivial ?_ rfl
  have hlen : cap.length + 1 ≤ fn.ntmps := Nat.le_of_ble_eq_true hn
  have hal := hrep.length
  let E : Env := ⟨Z, fn.ntmps, w, κ, l, n, vals, J, Jx, hJ, hJx, hY⟩
  have hrep' : RepL κ γ0 sv0 (.yl l :: cap) (Value.func (.yield l) #[] #[] :: lb) := .cons _ _ _ _ (.yl _) hrep
  have hsim : Sim (E.X 0 false fun _ => False) κ sv0 (St.init (.yl l :: cap)) { tmps := (Value.func (.yield l) #[] #[] :: lb).toArray ++ Array.replicate (fn.ntmps - (Value.func (.yield l) #[] #[] :: lb).toArray.size) Go.undef, defers := [] } w := by
    refine ⟨by simp [Env.X, E]; omega, Dfr.nil rfl, fun i _ => slot_init hrep' _ i, ?_⟩
    exact ⟨hκ, fun _ => trivial, (fun s t b hs => by cases hs), (fun s b o hs => by cases hs), (fun s b hs => by cases hs), ⟨fun _ => False, ⟨fun _ => False, h0, fun _ _ h => h, fun b h1 h2 _ => by have h1 : w.heap.size ≤ b := h1; omega⟩, fun s b hs => by cases hs⟩, hglob, fun b o v _ hk => hk, (fun b hb => by cases hb), Nat.le_refl _,
      ⟨fun _ _ _ h => h, fun _ => Nat.zero_le _, fun _ _ => rfl⟩, fun _ _ _ _ h => h, fun _ _ _ h => h, fun _ h => h.elim⟩
  refine wpIn_mono (h E rfl rfl rfl rfl _ κ sv0 _ w hsim) ?_
  rintro e a' W' ⟨k, s, U, κ', sv', S', hs, he, hk, hk2⟩
  obtain ⟨Ds, e1, _, _, e4⟩ := hs.defers
  have : Ds = [] := e4 rfl
  subst this
  have hd : a'.defers = [] := by simpa using e1
  obtain ⟨M, ⟨T, t1, _⟩, _⟩ := hs.wld.frame
  have fin : LeavesInM Fence.wide 0 Z.P fn a'.tmps (fun e W' => (∃ v, e = .returned v) ∧ ((∃ T, J T n W') ∨ (∃ T k, k ≤ n ∧ Jx T k W'))) a'.defers .returning W' := by
    rw [hd]
    refine ⟨.tuple #[], by simp [results, hres], ⟨_, rfl⟩, ?_⟩
    cases s with
    | false => rw [← hk rfl]; exact .inl ⟨T, t1⟩
    | true => exact .inr ⟨T, k, hk2, t1⟩
  rcases he with rfl | rfl <;> exact fin
section
variable {E : Env} {Q : Nat → Bool → Exit → St → Prop} {k : Nat} {s : Bool} {S : St}
theorem WI_ofR {id : Nat} {ops : Array Oper} {b : Bool} (h : ∀ U, W (E.X k s U) (.region id ops b) (Q k s) S) : WI E (.region id ops b) Q k s S := WI_of h
theorem WI_ofC {c : Operand} {x y : Code} (h : ∀ U, W (E.X k s U) (.cond c x y) (Q k s) S) : WI E (.cond c x y) Q k s S := WI_of h
theorem TI_normal {y : Code} (h : WI E y Q k s S) : thenI E y Q k s .normal S := h
theorem TI_exit {y : Code} {i : Nat} (h : Q k s (.exit i) S) : thenI E y Q k s (.exit i) S := h
theorem TI_ret {y : Code} (h : Q k s .ret S) : thenI E y Q k s .ret S := h
theorem BI_normal {id : Nat} (h : Q k s .normal S) : blockI id Q k s .normal S := h
theorem BI_ret {id : Nat} (h : Q k s .ret S) : blockI id Q k s .ret S := h
theorem BI_exit_eq {id : Nat} (h : Q k s .normal S) : blockI id Q k s (.exit id) S := by
  show (bif Nat.beq id id then Q k s .normal S else Q k s (.exit id) S)
  rw [Nat.beq_refl]; exact h
theorem BI_exit_ne {id i : Nat} (hn : Nat.beq i id = false) (h : Q k s (.exit i) S) : blockI id Q k s (.exit i) S := by
  show (bif Nat.beq i id then Q k s .normal S else Q k s (.exit i) S)
  rw [hn]; exact h
theorem WIL_split {ops : Array Oper} {l : List Oper} (n : Nat) (h1 : ∀ U, WL (E.X k s U) ops (l.take n) (fun e S' => e = .normal ∧ WIL E ops (l.drop n) Q k s S') S) : WIL E ops l Q k s S := by
  have := WIL_part (l.take n) (l.drop n) h1
  rwa [List.take_append_drop] at this
theorem WI_skip (h : Q k s .normal S) : WI E .skip Q k s S := fun U κ sv _ _ hs => wpIn_skip ⟨k, s, U, κ, sv, S, hs, h⟩
theorem WI_exit {id : Nat} (h : Q k s (.exit id) S) : WI E (.exit id) Q k s S := fun U κ sv _ _ hs => wpIn_exit ⟨k, s, U, κ, sv, S, hs, h⟩
theorem WI_ret (h : Q k s .ret S) : WI E .ret Q k s S := fun U κ sv _ _ hs => wpIn_ret ⟨k, s, U, κ, sv, S, hs, h⟩
/-- A loop of which only what varies is written. -/
theorem WI_loopK {c : Code} {α : Type} (kr kp : List Nat) (ki : α → Nat × Bool) (rs : α → List (Nat × D)) (gs : α → List (Nat × Nat)) (os : α → List (Nat × Own)) (inv : α → Prop) (μ : α → Nat) (x0 : α) (h0 : inv x0) (hk : ki x0 = (k, s)) (hs : AllE S.ρ (rs x0) ∧ AllE S.γ (gs x0) ∧ AllE S.σ (os x0))
    (round : ∀ x h, inv x → WI E c (fun k' s' e S' => match e with | .normal => ∃ x', inv x' ∧ μ x' < μ x ∧ ki x' = (k', s') ∧ ∀ U, ReachK (E.X k' s' U) S S' kr kp (rs x') (gs x') (os x') | e => Q k' s' e S') (ki x).1 (ki x).2 (mkK S kr kp (rs x) (gs x) (os x) h)) : WI E (.loop c) Q k s S := by
  refine WI_loop (α := α × (Nat → Nat)) (fun x => ((ki x.1).1, (ki x.1).2, mkK S kr kp (rs x.1) (gs x.1) (os x.1) x.2)) (fun x => inv x.1) (fun x => μ x.1) (x0, S.γ) h0
    ⟨by rw [hk], by rw [hk], fun U => wk_mk ⟨allE_append hs.1 (keepR_ok S kr), allE_append hs.2.1 (keepG_ok S kp), allE_append hs.2.2 (keepO_ok S kp)⟩⟩ (fun x hi => ?_)
  intro U κ sv a W hsim
  refine wpIn_mono (round x.1 x.2 hi U κ sv a W hsim) ?_
  rintro e a' W' ⟨k', s', U', κ', sv', S', h1, h2⟩
  cases e with
  | normal =>
    obtain ⟨x', i1, i2, i3, i4⟩ := h2
    obtain ⟨S'', w1, w2⟩ := i4 U'
    obtain ⟨κ2, sv2, h3⟩ := w1 κ' sv' a' W' h1
    exact ⟨k', s', U', κ2, sv2, S'', h3, (x', S''.γ), i1, i2, by rw [i3], by rw [i3], fun U2 => wk_mk (matchK_match w2)⟩
  | _ => exact ⟨k', s', U', κ', sv', S', h1, h2⟩
end
section
variable {X : Ctx} {S : St}
theorem bq_now {S' : St} {kp : List Nat} {gs : List (Nat × Nat)} {os : List (Nat × Own)} {Qx : Code → St → Prop} (h : AllE S'.γ gs ∧ AllE S'.σ os ∧ KeepP S S' kp) : bodyQ X S kp gs os Qx .normal S' := ⟨S', Wk.refl _ _, h.1, h.2.1, h.2.2⟩
theorem bq_wk {S' S'' : St} {kp : List Nat} {gs : List (Nat × Nat)} {os : List (Nat × Own)} {Qx : Code → St → Prop} (hw : Wk X S' S'') (h : bodyQ X S kp gs os Qx .normal S'') : bodyQ X S kp gs os Qx .normal S' :=
  let ⟨T, h1, h2⟩ := h
  ⟨T, hw.trans h1, h2⟩
theorem q_asU {o : Oper} {x : Operand} (ho : o.op = .assign x) (hd : S.ev X x = .undef) : QOp X o S .undef := q_assign ho hd
theorem q_mvU {o : Oper} {x : Operand} (ho : o.op = .move x) (hd : S.ev X x = .undef) : QOp X o S .undef := q_move ho hd
theorem fin_Fn {rs : List ResultVar} {t : Nat} {f : FuncId} {c c' : List D} (hr : rs = [.tmp t]) (h : S.ev X (.tmp t) = .fn f c) (e : c = c') : FinQ X rs (.fn f c') .ret S := ⟨[.fn f c], by rw [hr]; exact ⟨h, trivial⟩, by rw [e]; rfl⟩
theorem q_mvYl {o : Oper} {x : Operand} {l : Nat} (ho : o.op = .move x) (hd : S.ev X x = .yl l) : QOp X o S (.yl l) := q_move ho hd
/-- A box that a function value has captured is never written again. -/
theorem wk_freeze_cap (i j : Nat) {s g o : Nat} {f : FuncId} {c c' l : List D} (hX : X.ext = none) (h : S.ρ i = .fn f c) (hj : nth c j = some (.bx s g o)) (hg : S.γ s = g) (hσ : S.σ s = .box l) (hc' : overN c j [.rp l o] = some c') :
    Wk X S ⟨upd S.ρ i (.fn f c'), S.γ, upd S.σ s .none⟩ := fun κ sv a w hs => by
  have hle := freeze_le hs.wld s
  obtain ⟨rfl, hlen⟩ := overN_eq hc'
  have hnew : ∀ b, blk (S.σ s) (sv s) = some b → X.w0.heap.size ≤ b := fun b hb => (hs.wld.frsh s b hb).resolve_right (by rw [hX]; simp)
  refine ⟨_, sv, ⟨hs.size, hs.defers, fun k hk => ?_, hs.wld.freeze s hnew _⟩⟩
  by_cases e : k = i
  · subst e
    simp only [upd_same]
    have h1 := hs.slot k hk
    rw [h] at h1
    generalize a.tmps.getD k Go.undef = v at h1
    cases h1 with
    | fn _ _ vs hl =>
      rw [nth_eq] at hj
      obtain ⟨vj, hvj, hrj⟩ := hl.get hj
      have hjl : j < vs.length := (List.getElem?_eq_some_iff.1 hvj).1
      have hvs : vs = vs.take j ++ [vj] ++ vs.drop (j + 1) := by
        have h3 : vs[j] = vj := by simpa [List.getElem?_eq_getElem hjl] using hvj
        rw [← h3, List.append_assoc, List.singleton_append, List.getElem_cons_drop, List.take_append_drop]
      rw [hvs]
      refine .fn _ _ _ ((((hl.take j).mono hle).append (.cons _ _ _ _ ?_ .nil)).append ((hl.drop _).mono hle))
      have hown := hs.wld.own s
      rw [hσ] at hown
      obtain ⟨b, T, cs, e1, e2, e3, e4⟩ := hown
      cases hrj with
      | bx _ _ _ _ _ hh _ =>
        obtain ⟨b', h5, h6⟩ := hh hg.symm
        rw [e1] at h5
        simp only [Value.pointer.injEq, Option.some.injEq, Addr.mk.injEq, and_true] at h5
        subst h5
        rw [h6]
        have := Rep.rp (κ := fun b o => if blk (S.σ s) (sv s) = some b then w.cell? ⟨b, o, none⟩ else κ b o) (γ := S.γ) (sv := sv) l o b 0 cs e4 (e3.mono hle) (fun j v hj => by
          have hb : blk (S.σ s) (sv s) = some b := by rw [hσ, e1]; rfl
          simp only [hb, if_true]
          rw [cell_of_row w b _ _ _ _ e2, Nat.zero_add]; simpa using hj)
        simpa using this
  · simp only [upd_ne _ _ _ _ e]; exact (hs.slot k hk).mono hle
end
end Go.Ab

/- Calls of function values. -/
namespace Go.Ab
open Go Go.RowKit
section
variable {X : Ctx} {Q : Exit → St → Prop} {S T S0 : St} {ops : Array Oper} {o : Oper} {rest : List Oper} {E : List Ent} {V : List Vl}
theorem run_callv {P : Program} {f : FuncId} (h : HasBody P f) {a : Act} {w : World} {x : Operand} {xs : Array Operand} {ts : Array TypeId} {lb : List Value} (ho : o.op = .call { callee := .value x, args := xs, argTypes := ts }) (hx : a.eval x = .func (.func f) #[] lb.toArray) :
    (execOp a.eval o).run P w = .ok (.enter f (xs.toList.map a.eval ++ lb).toArray) w := by
  obtain ⟨fn, c, h1, h2, h3⟩ := h
  have h4 : execOp a.eval o = callFunc f (#[] ++ xs.map a.eval ++ lb.toArray) := by
    unfold execOp; rw [ho]; simp [resolve, Deferred.ofValue, hx, invoke]
  rw [h4]
  have h5 : (#[] ++ xs.map a.eval ++ lb.toArray) = (xs.toList.map a.eval ++ lb).toArray := by simp [← Array.toList_map]
  rw [h5]
  have h6 : ¬ fn.name = "runtime.NumGoroutine" := by simpa using h3
  simp [callFunc, h1, h2, h6]
theorem ev_fn {κ : Nat → Nat → Option Value} {sv : Nat → Value} {a : Act} {w : World} (hs : Sim X κ sv S a w) {x : Operand} {f : FuncId} {c : List D} (h : S.ev X x = .fn f c) : ∃ lb : List Value, a.eval x = .func (.func f) #[] lb.toArray ∧ RepL κ S.γ sv c lb := by
  have h1 := hs.ev x
  rw [h] at h1
  generalize a.eval x = v at h1
  cases h1 with
  | fn _ _ vs hl => exact ⟨vs, rfl, hl⟩
theorem call_scalL {κ : Nat → Nat → Option Value} {sv : Nat → Value} {a : Act} {w : World} (hs : Sim X κ sv S a w) {f : FuncId} {L A : List D} {vs : List Value} {R : D} {v0 : Value} (hc : Contract X.Z f A R) (hr : RepL κ S.γ sv L vs) (hA : FzL S L A) (hR : scal R = some v0) :
    Calls X.Z.P f vs.toArray w fun e w'' => e = .returned v0 ∧ Below w.heap.size w w'' := by
  let κ' : Nat → Nat → Option Value := fun b o => w.cell? ⟨b, o, none⟩
  have hle : Le κ κ' S.γ S.γ sv sv := ⟨fun b o v hk => hs.wld.imm b o v hk, fun _ => Nat.le_refl _, fun _ _ => rfl⟩
  have hr2 := hA.rep hs.wld hle (fun b o v h => h) hr
  refine (hc.calls w κ' _ (fun b o v h => h) (fun g l hg => ?_) (hr2.pure (fun _ _ _ h => h) hc.pureA)).mono ?_
  · obtain ⟨h1, u, h2, h3⟩ := Sim.globOk hs.wld g l hg
    exact ⟨h1, u, h2.mono ⟨fun b o v hk => hs.wld.imm b o v hk, fun _ => Nat.le_refl _, fun _ _ => rfl⟩, fun j v hj => hs.wld.imm _ _ _ (h3 j v hj)⟩
  · rintro e w'' ⟨v, rfl, hv, hb2⟩
    rw [scal_eq hR hv]
    exact ⟨rfl, hb2⟩
theorem WL_callv {x : Operand} {f : FuncId} {c : List D} {xs : Array Operand} {ts : Array TypeId} {A : List D} {R : D} {v0 : Value} (hg : o.guard = none) (ho : o.op = .call { callee := .value x, args := xs, argTypes := ts }) (hx : S.ev X x = .fn f c) (hc : Contract X.Z f A R) (hA : FzL S (xs.toList.map (S.ev X) ++ c) A) (hR : scal R = some v0)
    {t : Nat} (hd : o.dst = some t) (hk : WL X ops rest Q (S.set t R)) : WL X ops (o :: rest) Q S := fun κ sv a w hs => by
  obtain ⟨lb, h1, h2⟩ := ev_fn hs hx
  refine wpListIn_plain hg fun K hK => op_call (run_callv hc.body ho h1) (call_scalL hs hc ((evs_rep hs xs.toList).append h2) hA hR) ?_
  rintro e w' ⟨rfl, hb⟩
  refine ⟨v0, rfl, ?_⟩
  rw [hd]
  exact hK _ _ (hk κ sv _ w' ((hs.later hb).put (some t) (scal_rep hR)))
theorem WG_callv {x : Operand} {f : FuncId} {c : List D} {xs : Array Operand} {ts : Array TypeId} {A : List D} {R : D} {v0 : Value} {t : Nat} {gs : List Nat} (hw : Want X S ops o gs) (ho : o.op = .call { callee := .value x, args := xs, argTypes := ts }) (hd : o.dst = some t) (hx : S.ev X x = .fn f c) (hc : Contract X.Z f A R) (hA : FzL S (xs.toList.map (S.ev X) ++ c) A) (hR : scal R = some v0)
    (hk : WG X Q ops S0 (E ++ [(⟨gs ++ slotsOf (x :: xs.toList), plL (xs.toList.map (S.ev X) ++ c), plL (xs.toList.map (S.ev X) ++ c)⟩, ⟨some t, none, none⟩)]) (V ++ [⟨R, 0, .none⟩]) rest (S.set t R)) : WG X Q ops S0 E V (o :: rest) S := by
  refine WG_step rfl (fun hoi T hT κ sv a w hs => ?_) hk
  have hm : xs.toList.map (T.ev X) = xs.toList.map (S.ev X) := List.map_congr_left fun y hy => ev_congr fun t e => by subst e; exact hT.rr t (List.mem_append_right _ (slots_mem (List.mem_cons_of_mem _ hy)))
  have hxT : T.ev X x = .fn f c := (ev_congr fun t e => by subst e; exact hT.rr t (List.mem_append_right _ (slots_mem (List.mem_cons_self ..)))).trans hx
  have hA' : FzL T (xs.toList.map (T.ev X) ++ c) A := by
    rw [hm]
    exact fzL_agree hA (fun s hs => hT.rg s hs) (fun s hs => hT.ro s hs)
  unfold wpOpIn
  rw [hoi]
  simp only
  rw [if_pos (want_at hw (fun t ht => hT.rr t (List.mem_append_left _ ht)) hs)]
  obtain ⟨lb, h1, h2⟩ := ev_fn hs hxT
  refine op_call (run_callv hc.body ho h1) (call_scalL hs hc ((evs_rep hs xs.toList).append h2) hA' hR) ?_
  rintro e w' ⟨rfl, hb⟩
  refine ⟨v0, rfl, ?_⟩
  rw [hd]
  exact ⟨κ, sv, (hs.later hb).put (some t) (scal_rep hR)⟩
theorem toArr {x : Ab.Own} {E z n : Nat} {f f' : Nat → List D} (h : x = .arr E z n f) (e : ∀ i, f i = f' i) : x = .arr E z n f' := by rw [h, show f = f' from funext e]
/-- A panic that cannot come: the case is closed elsewhere. -/
theorem W_absurd {c : Code} (h : False) : W X c Q S := h.elim
end
/- Methods bound to a value. -/
section
variable {X : Ctx} {Q : Exit → St → Prop} {S T S0 : St} {ops : Array Oper} {o : Oper} {rest : List Oper} {E : List Ent} {V : List Vl} {x y : Operand}
theorem q_mf {cs : Array Operand} {f : FuncId} (ho : o.op = .makeFunc (.func f) cs #[]) : QOp X o S (.mf f (cs.toList.map (S.ev X))) := fun κ sv a w hs => by
  refine ⟨.func (.func f) (cs.map a.eval) #[], ?_, fun w' _ => by simp [execOp, ho, Instr.makeFunc]⟩
  have := Rep.mf (κ := κ) (γ := S.γ) (sv := sv) f _ _ (evs_rep hs cs.toList)
  have e : (cs.toList.map a.eval).toArray = cs.map a.eval := by simp [← Array.toList_map]
  rwa [e] at this
theorem fq_mf {cs : Array Operand} {f : FuncId} (ho : o.op = .makeFunc (.func f) cs #[]) : FQ X o S (.mf f (cs.toList.map (S.ev X))) := fun h => by
  have h1 : cs.toList.map (S.ev X) = cs.toList.map ((restr S (lcOf X S o) h).ev X) := List.map_congr_left fun x hx => (restr_ev (by rw [ho]; simp [Op.operands]; simpa using hx)).symm
  rw [h1]; exact q_mf ho
theorem q_mvMf {f : FuncId} {l : List D} (ho : o.op = .move x) (hd : S.ev X x = .mf f l) : QOp X o S (.mf f l) := q_move ho hd
theorem q_asMf {f : FuncId} {l : List D} (ho : o.op = .assign x) (hd : S.ev X x = .mf f l) : QOp X o S (.mf f l) := q_assign ho hd
theorem run_callm {P : Program} {f : FuncId} (h : HasBody P f) {a : Act} {w : World} {xs : Array Operand} {ts : Array TypeId} {lb : List Value} (ho : o.op = .call { callee := .value x, args := xs, argTypes := ts }) (hx : a.eval x = .func (.func f) lb.toArray #[]) :
    (execOp a.eval o).run P w = .ok (.enter f (lb ++ xs.toList.map a.eval).toArray) w := by
  obtain ⟨fn, c, h1, h2, h3⟩ := h
  have h4 : execOp a.eval o = callFunc f (lb.toArray ++ xs.map a.eval ++ #[]) := by
    unfold execOp; rw [ho]; simp [resolve, Deferred.ofValue, hx, invoke]
  rw [h4]
  have h5 : (lb.toArray ++ xs.map a.eval ++ #[]) = (lb ++ xs.toList.map a.eval).toArray := by simp [← Array.toList_map]
  rw [h5]
  have h6 : ¬ fn.name = "runtime.NumGoroutine" := by simpa using h3
  simp [callFunc, h1, h2, h6]
theorem ev_mf {κ : Nat → Nat → Option Value} {sv : Nat → Value} {a : Act} {w : World} (hs : Sim X κ sv S a w) {f : FuncId} {c : List D} (h : S.ev X x = .mf f c) : ∃ lb : List Value, a.eval x = .func (.func f) lb.toArray #[] ∧ RepL κ S.γ sv c lb := by
  have h1 := hs.ev x
  rw [h] at h1
  generalize a.eval x = v at h1
  cases h1 with
  | mf _ _ vs hl => exact ⟨vs, rfl, hl⟩
theorem WL_callm {f : FuncId} {c : List D} {xs : Array Operand} {ts : Array TypeId} {A : List D} {R : D} {v0 : Value} (hg : o.guard = none) (ho : o.op = .call { callee := .value x, args := xs, argTypes := ts }) (hx : S.ev X x = .mf f c) (hc : Contract X.Z f A R) (hA : FzL S (c ++ xs.toList.map (S.ev X)) A) (hR : scal R = some v0)
    {t : Nat} (hd : o.dst = some t) (hk : WL X ops rest Q (S.set t R)) : WL X ops (o :: rest) Q S := fun κ sv a w hs => by
  obtain ⟨lb, h1, h2⟩ := ev_mf hs hx
  refine wpListIn_plain hg fun K hK => op_call (run_callm hc.body ho h1) (call_scalL hs hc (h2.append (evs_rep hs xs.toList)) hA hR) ?_
  rintro e w' ⟨rfl, hb⟩
  refine ⟨v0, rfl, ?_⟩
  rw [hd]
  exact hK _ _ (hk κ sv _ w' ((hs.later hb).put (some t) (scal_rep hR)))
theorem WG_callm {f : FuncId} {c : List D} {xs : Array Operand} {ts : Array TypeId} {A : List D} {R : D} {v0 : Value} {t : Nat} {gs : List Nat} (hw : Want X S ops o gs) (ho : o.op = .call { callee := .value x, args := xs, argTypes := ts }) (hd : o.dst = some t) (hx : S.ev X x = .mf f c) (hc : Contract X.Z f A R) (hA : FzL S (c ++ xs.toList.map (S.ev X)) A) (hR : scal R = some v0)
    (hk : WG X Q ops S0 (E ++ [(⟨gs ++ slotsOf (x :: xs.toList), plL (c ++ xs.toList.map (S.ev X)), plL (c ++ xs.toList.map (S.ev X))⟩, ⟨some t, none, none⟩)]) (V ++ [⟨R, 0, .none⟩]) rest (S.set t R)) : WG X Q ops S0 E V (o :: rest) S := by
  refine WG_step rfl (fun hoi T hT κ sv a w hs => ?_) hk
  have hm : xs.toList.map (T.ev X) = xs.toList.map (S.ev X) := List.map_congr_left fun y hy => ev_congr fun t e => by subst e; exact hT.rr t (List.mem_append_right _ (slots_mem (List.mem_cons_of_mem _ hy)))
  have hxT : T.ev X x = .mf f c := (ev_congr fun t e => by subst e; exact hT.rr t (List.mem_append_right _ (slots_mem (List.mem_cons_self ..)))).trans hx
  have hA' : FzL T (c ++ xs.toList.map (T.ev X)) A := by
    rw [hm]
    exact fzL_agree hA (fun s hs => hT.rg s hs) (fun s hs => hT.ro s hs)
  unfold wpOpIn
  rw [hoi]
  simp only
  rw [if_pos (want_at hw (fun t ht => hT.rr t (List.mem_append_left _ ht)) hs)]
  obtain ⟨lb, h1, h2⟩ := ev_mf hs hxT
  refine op_call (run_callm hc.body ho h1) (call_scalL hs hc (h2.append (evs_rep hs xs.toList)) hA' hR) ?_
  rintro e w' ⟨rfl, hb⟩
  refine ⟨v0, rfl, ?_⟩
  rw [hd]
  exact ⟨κ, sv, (hs.later hb).put (some t) (scal_rep hR)⟩

/- Arrays. -/
theorem array_row {P : Program} {T : TypeId} {r : TRow} (hok : rowOk P T r = true) (hk : Nat.beq r.k 2 = true) : P.underlying T = some (.array r.ln r.el) := by
  obtain ⟨i, d, _, hd, _, _, _, h4⟩ := row_info hok
  have hk2 := Nat.eq_of_beq_eq_true hk
  cases d <;> try (simp only at h4; omega)
  obtain ⟨_, h5, h6⟩ := h4
  rw [hd, h5, h6]
theorem q_iab {T : TypeId} {r q : TRow} {s g j : Nat} {k : Int} (ho : o.op = .indexAddr T x y) (hx : S.ev X x = .bx s g j) (hg : S.γ s = g) (hy : S.ev X y = .int .i64 k) (h0 : 0 ≤ k)
    (hr : nth X.Z.tab T = some r) (hk : Nat.beq r.k 2 = true) (h1 : k < r.ln) (hq : nth X.Z.tab r.el = some q) (hq9 : Nat.beq q.k 9 = false) : QOp X o S (.bx s g (j + k.toNat * q.sz)) := fun κ sv a w hs => by
  have hok := X.Z.tabOk _ _ hr (by intro e; rw [e] at hk; cases hk)
  have hokq := X.Z.tabOk _ _ hq (by intro e; rw [e] at hq9; cases hq9)
  have hyv := rep_int (hy ▸ hs.ev y)
  obtain ⟨b, e1, e2⟩ := live_bx hs hx hg
  exact ⟨.pointer (some ⟨b, j + k.toNat * q.sz, none⟩), .bx _ _ _ _ (by omega) (fun _ => ⟨b, e1, rfl⟩) rfl, fun w' _ => by
    simp [execOp, ho, e2, hyv, Instr.indexAt, asIntOf, run_underlying (array_row hok hk), Instr.sureAddr, h0, h1, run_size_row hokq, addr_add]⟩
theorem q_idx {T : TypeId} {r q : TRow} {l m : List D} {k : Int} (ho : o.op = .index T x y) (hx : S.ev X x = .agg l) (hy : S.ev X y = .int .i64 k) (h0 : 0 ≤ k)
    (hr : nth X.Z.tab T = some r) (hk : Nat.beq r.k 2 = true) (h1 : k < r.ln) (hq : nth X.Z.tab r.el = some q) (hqk : (Nat.beq q.k 1 || Nat.beq q.k 2) = true) (hm : takeN q.sz (dropN (k.toNat * q.sz) l) = some m) : QOp X o S (.agg m) := fun κ sv a w hs => by
  have hok := X.Z.tabOk _ _ hr (by intro e; rw [e] at hk; cases hk)
  have hokq := X.Z.tabOk _ _ hq (by intro e; rw [e] at hqk; simp at hqk)
  have hyv := rep_int (hy ▸ hs.ev y)
  obtain ⟨vs, e1, hl⟩ := ev_agg hs hx
  obtain ⟨rfl, hlen⟩ := takeN_eq hm
  rw [dropN_eq] at hlen ⊢
  obtain ⟨iq, dq, hiq, hdq, hsq, _⟩ := row_info hokq
  refine ⟨.agg ((vs.drop (k.toNat * q.sz)).take q.sz).toArray, .agg _ _ ((hl.drop _).take _), fun w' _ => ?_⟩
  have hagg : (isAgg r.el).run X.Z.P w' = .ok true w' := by rw [run_isAgg hdq, aggOf_k hokq, hqk]
  have hext : vs.toArray.extract (k.toNat * q.sz) (k.toNat * q.sz + q.sz) = ((vs.drop (k.toNat * q.sz)).take q.sz).toArray := by
    simp [List.extract_eq_drop_take]
  simp [execOp, ho, e1, hyv, Instr.index, asIntOf, run_underlying (array_row hok hk), h0, h1, run_size_row hokq, part, hagg, hext]
end
end Go.Ab

/- Functions that hand back a slice of their own, which the caller may write. -/
namespace Go.Ab
open Go Go.RowKit

/- The slice that is handed back stands as .os 0 1. -/
mutual
def renO (p g : Nat) : D → D
  | .os _ _ => .os p g
  | .agg l => .agg (renL p g l)
  | d => d
def renL (p g : Nat) : List D → List D
  | [] => []
  | d :: l => renO p g d :: renL p g l
end
mutual
inductive PO : D → Prop
  | pure (d : D) : Pure d → PO d
  | os (s g : Nat) : PO (.os s g)
  | agg (l : List D) : POL l → PO (.agg l)
inductive POL : List D → Prop
  | nil : POL []
  | cons (d : D) (l : List D) : PO d → POL l → POL (d :: l)
end
theorem renO_pure : ∀ {d : D} {p g : Nat}, (∀ l, d ≠ .agg l) → (∀ s g, d ≠ .os s g) → renO p g d = d := by
  intro d p g h1 h2
  cases d <;> first | rfl | exact absurd rfl (h1 _) | exact absurd rfl (h2 _ _)
section
variable {κ κ' : Nat → Nat → Option Value} {γ γ' : Nat → Nat} {sv sv' : Nat → Value}
mutual
theorem rep_ren (hκ : ∀ b o v, κ b o = some v → κ' b o = some v) {p g p' g' : Nat} (hg : γ p = g) (hg' : γ' p' = g') (hv : sv' p' = sv p) : ∀ {d : D} {v : Value}, PO d → Rep κ γ sv (renO p g d) v → Rep κ' γ' sv' (renO p' g' d) v
  | .os s0 g0, v, _, hr => by
    simp only [renO] at hr ⊢
    cases hr with
    | os _ _ _ h1 h2 h3 => exact .os _ _ _ (Nat.le_of_eq hg'.symm) (fun _ => by rw [hv]; exact h2 hg.symm) h3
  | .agg l, v, hp, hr => by
    simp only [renO] at hr ⊢
    cases hr with
    | agg _ vs hl => exact .agg _ _ (repL_ren hκ hg hg' hv (by
        cases hp with
        | pure _ hp => exact pol_of (by cases hp; assumption)
        | agg _ hp => exact hp) hl)
  | .int k n, v, hp, hr => by cases hr; exact .int _ _
  | .bool b, v, hp, hr => by cases hr; exact .bool _
  | .str s, v, hp, hr => by cases hr; exact .str _
  | .tup l, v, hp, hr => by cases hp with | pure _ hp => exact Rep.pure hκ hr hp
  | .sl z n f, v, hp, hr => by cases hp with | pure _ hp => exact Rep.pure hκ hr hp
  | .nil, v, hp, hr => by cases hr; exact .nil
  | .rp l o, v, hp, hr => by cases hp with | pure _ hp => exact Rep.pure hκ hr hp
  | .bx s g o, v, hp, hr => by cases hp with | pure _ hp => cases hp
  | .op s g z i o, v, hp, hr => by cases hp with | pure _ hp => cases hp
  | .fn f c, v, hp, hr => by cases hp with | pure _ hp => exact Rep.pure hκ hr hp
  | .yl l, v, hp, hr => by cases hr; exact .yl _
  | .mf f c, v, hp, hr => by cases hp with | pure _ hp => exact Rep.pure hκ hr hp
  | .undef, v, _, _ => .undef v
theorem repL_ren (hκ : ∀ b o v, κ b o = some v → κ' b o = some v) {p g p' g' : Nat} (hg : γ p = g) (hg' : γ' p' = g') (hv : sv' p' = sv p) : ∀ {l : List D} {vs : List Value}, POL l → RepL κ γ sv (renL p g l) vs → RepL κ' γ' sv' (renL p' g' l) vs
  | [], vs, _, hr => by simp only [renL] at hr ⊢; cases hr; exact .nil
  | d :: l, vs, hp, hr => by
    simp only [renL] at hr ⊢
    cases hr with
    | cons _ v _ vs h1 h2 =>
      cases hp with
      | cons _ _ p1 p2 => exact .cons _ _ _ _ (rep_ren hκ hg hg' hv p1 h1) (repL_ren hκ hg hg' hv p2 h2)
theorem pol_of : ∀ {l : List D}, (∀ d ∈ l, Pure d) → POL l
  | [], _ => .nil
  | d :: l, h => .cons d l (.pure d (h d (List.mem_cons_self ..))) (pol_of fun x hx => h x (List.mem_cons_of_mem _ hx))
end
end

structure ContractO (Z : Seat) (f : FuncId) (A : List D) (R : D) (E z n : Nat) (el : Nat → List D) : Prop where
  pureA : PureL A
  poR : PO R
  pureE : ∀ i, i < n → PureL (el i)
  body : HasBody Z.P f
  calls : ∀ (w : World) (κ : Nat → Nat → Option Value) (args : List Value), Fits κ w → GlobOk Z κ → RepL κ γ0 sv0 A args →
    Calls Z.P f args.toArray w fun e w' => ∃ v sl κ', e = .returned v ∧ Rep κ' (fun _ => 1) (fun _ => sl) (renO 0 1 R) v ∧ (∀ b o u, κ b o = some u → κ' b o = some u) ∧ (∀ b o u, b < w.heap.size → κ' b o = some u → κ b o = some u) ∧
      (∀ b o u, κ' b o = some u → w'.cell? ⟨b, o, none⟩ = some u) ∧ sl.oneCell' = true ∧ Owns w.heap.size κ' (fun _ => 1) (fun _ => sl) w' 0 (.arr E z n el) ∧ (∀ b, blk (.arr E z n el) sl = some b → ∀ o, κ' b o = none) ∧ Below w.heap.size w w'

def FinO (X : Ctx) (rs : List ResultVar) (R : D) (E z n : Nat) (el : Nat → List D) : Exit → St → Prop
  | .normal, S | .ret, S => ∃ s g, S.γ s = g ∧ S.σ s = .arr E z n el ∧ ∃ ds, ResL X S rs ds ∧ tupOf ds = renO s g R
  | _, _ => False
theorem contractO_intro {Z : Seat} {f : FuncId} {fn : Func} {c : Code} {A : List D} {R : D} {E z n : Nat} {el : Nat → List D} (hf : Z.P.funcs[f]? = some fn) (hb : fn.body = some c) (hname : (fn.name == "runtime.NumGoroutine") = false) (hn : Nat.ble A.length fn.ntmps = true) (hA : PureL A) (hR : PO R) (hE : ∀ i, i < n → PureL (el i))
    (h : ∀ w κ, W (Ctx.plain Z fn.ntmps w κ none) c (FinO (Ctx.plain Z fn.ntmps w κ none) fn.results.toList R E z n el) (St.init A)) : ContractO Z f A R E z n el := by
  refine ⟨hA, hR, hE, ⟨fn, c, hf, hb, hname⟩, fun w κ args hκ hglob hrep => ?_⟩
  refine (callsIn_wide (n := 0)).1 (callsIn_of_wp_marks hf hb trivial ?_ rfl)
  have hlen : A.length ≤ fn.ntmps := Nat.le_of_ble_eq_true hn
  have hal := hrep.length
  have hsim : Sim (Ctx.plain Z fn.ntmps w κ none) κ sv0 (St.init A) { tmps := args.toArray ++ Array.replicate (fn.ntmps - args.toArray.size) Go.undef, defers := [] } w := by
    refine ⟨by simp [Ctx.plain]; omega, Dfr.nil rfl, fun i _ => slot_init hrep _ i, ?_⟩
    exact ⟨hκ, fun _ => trivial, (fun s t b hs => by cases hs), (fun s b o hs => by cases hs), (fun s b hs => by cases hs), ⟨fun _ => False, ⟨Frame.refl _ _, fun _ h => h.elim⟩, fun s b hs => by cases hs⟩, hglob, fun b o v _ hk => hk, (fun b hb => by cases hb), Nat.le_refl _, ⟨fun _ _ _ h => (by cases h), fun _ => Nat.zero_le _, fun _ _ => rfl⟩, fun _ _ _ _ h => h, fun _ _ _ h => h, fun _ h => h.elim⟩
  refine wpIn_mono (h w κ κ sv0 _ w hsim) ?_
  rintro e a' w' ⟨κ', sv', S', hs, hq⟩
  cases e <;> first | exact hq.elim | skip
  all_goals
    obtain ⟨s, g, hg, hσ, ds, hd, hren⟩ := hq
    obtain ⟨Ds, d1, d2, d3, _⟩ := hs.defers
    show LeavesInM _ _ _ _ _ _ a'.defers _ _
    rw [d1]
    refine leaves_of rfl rfl hd (fun a w' v hs h2 => ?_) Ds a' w' hs d1 d2 d3
    rw [hren] at h2
    obtain ⟨M, h1, _⟩ := hs.wld.frame
    have hown := hs.wld.own s
    rw [hσ] at hown
    have hk : ∀ b o u, κ' b o = some u → (fun b o => if b < w.heap.size then κ b o else κ' b o) b o = some u := fun b o u hu => by
      simp only
      split
      · exact hs.wld.old b o u (by assumption) hu
      · exact hu
    have hsl : (sv' s).oneCell' = true := by
      obtain ⟨xs, e1, _⟩ := hown
      rcases e1.2 with ⟨hv, _⟩ | ⟨b, cap, cur, hv, _⟩ <;> rw [hv] <;> rfl
    refine ⟨v, sv' s, fun b o => if b < w.heap.size then κ b o else κ' b o, rfl, rep_ren (p := s) (g := g) (p' := 0) (g' := 1) (γ' := fun _ => 1) (sv' := fun _ => sv' s) hk hg rfl rfl hR h2, fun b o u hu => ?_, fun b o u hb hu => ?_, fun b o u hu => ?_, hsl, ?_, fun b hb o => ?_, h1.1.below⟩
    · have : b < w.heap.size := by have := World.block_lt_of_cell? w _ (hκ b o u hu); simpa using this
      simp only; rw [if_pos this]; exact hu
    · simp only at hu; rw [if_pos hb] at hu; exact hu
    · simp only at hu
      split at hu
      · rename_i hb
        have h3 := hκ b o u hu
        rw [h1.1.below.cell (by simpa using hb)]; exact h3
      · exact hs.wld.imm b o u hu
    · obtain ⟨xs, e1, e2, e3, e4⟩ := hown
      exact ⟨xs, e1, e2, e3, fun i hi => (e4 i hi).pure hk (hE i hi)⟩
    · have hbk : blk (S'.σ s) (sv' s) = some b := by rw [hσ]; exact hb
      have h3 := hs.wld.frsh s b hbk
      have h4 : w.heap.size ≤ b := h3.resolve_right (fun h => by cases h)
      simp only; rw [if_neg (by omega)]
      exact hs.wld.sep s b o hbk

section
variable {X : Ctx} {κ κ' : Nat → Nat → Option Value} {sv : Nat → Value} {S : St} {w w' : World}
/-- What a callee has handed back becomes the caller's own. -/
theorem SimW.adopt (h : SimW X κ sv S w) (hb : Below w.heap.size w w') (k1 : ∀ b o u, κ b o = some u → κ' b o = some u) (k2 : ∀ b o u, b < w.heap.size → κ' b o = some u → κ b o = some u) (k3 : ∀ b o u, κ' b o = some u → w'.cell? ⟨b, o, none⟩ = some u)
    (p : Nat) (ow : Own) (sl : Value) (hnew : ∀ b, blk ow sl = some b → w.heap.size ≤ b ∧ b < w'.heap.size ∧ ∀ o, κ' b o = none) (ho : Owns X.w0.heap.size κ' (upd S.γ p (S.γ p + 1)) (upd sv p sl) w' p ow) (ρ' : Nat → D) :
    SimW X κ' (upd sv p sl) ⟨ρ', upd S.γ p (S.γ p + 1), upd S.σ p ow⟩ w' := by
  have hle : Le κ κ' S.γ (upd S.γ p (S.γ p + 1)) sv (upd sv p sl) := by
    obtain ⟨a, b, c⟩ := le_renew κ S.γ sv p sl
    exact ⟨k1, b, c⟩
  have hbk : ∀ t b, blk (upd S.σ p ow t) (upd sv p sl t) = some b → (t = p ∧ blk ow sl = some b) ∨ (t ≠ p ∧ blk (S.σ t) (sv t) = some b) := by
    intro t b hb
    by_cases e : t = p
    · subst e; rw [upd_same, upd_same] at hb; exact .inl ⟨rfl, hb⟩
    · rw [upd_ne _ _ _ _ e, upd_ne _ _ _ _ e] at hb; exact .inr ⟨e, hb⟩
  obtain ⟨h1, h2, h3, h4, h5, ⟨M, h6, h6'⟩, h7, h8, h9, h10, h11, h12, h13, h14⟩ := h
  refine ⟨k3, fun t => ?_, fun t u b ht hu => ?_, fun t b o ht => ?_, fun t b ht => ?_, ⟨_, X.cl M w w' h6 ⟨hb.os, hb.tape, hb.output, hb.size, fun k hk _ => hb.block k hk⟩, fun t b ht => ?_⟩, fun g l hgl => ?_, fun b o v hlt hk => ?_, fun b hb' => ?_, Nat.le_trans h10 hb.size, h11.trans hle, fun b o v hk hT => ?_, fun t b ht hT => ?_, fun b hT => Nat.lt_of_lt_of_le (h14 b hT) hb.size⟩
  · by_cases e : t = p
    · subst e; simp only [upd_same]; exact ho
    · simp only [upd_ne _ _ _ _ e]
      exact owns_mono hle (upd_ne _ _ _ _ e) (fun b hb' => hb.block b (owns_lt (h2 t) hb')) (h2 t)
  · simp only at ht hu
    rcases hbk t b ht with ⟨rfl, a1⟩ | ⟨e1, a1⟩ <;> rcases hbk u b hu with ⟨rfl, a2⟩ | ⟨e2, a2⟩
    · rfl
    · have := owns_lt (h2 u) a2; have := (hnew b a1).1; omega
    · have := owns_lt (h2 t) a1; have := (hnew b a2).1; omega
    · exact h3 t u b a1 a2
  · simp only at ht
    rcases hbk t b ht with ⟨rfl, a1⟩ | ⟨e1, a1⟩
    · exact (hnew b a1).2.2 o
    · cases hk : κ' b o with
      | none => rfl
      | some v => have h20 := k2 b o v (owns_lt (h2 t) a1) hk; rw [h4 t b o a1] at h20; cases h20
  · simp only at ht
    rcases hbk t b ht with ⟨rfl, a1⟩ | ⟨e1, a1⟩
    · exact .inl (Nat.le_trans h10 (hnew b a1).1)
    · exact h5 t b a1
  · simp only at ht
    rcases hbk t b ht with ⟨rfl, a1⟩ | ⟨e1, a1⟩
    · exact .inr (hnew b a1).1
    · exact .inl (h6' t b a1)
  · obtain ⟨hc, u, hu, hk⟩ := h7 g l hgl
    exact ⟨hc, u, hu.mono hle, fun j v hj => k1 _ _ _ (hk j v hj)⟩
  · exact h8 b o v hlt (k2 b o v (Nat.lt_of_lt_of_le hlt h10) hk)
  · obtain ⟨e1, e2⟩ := h9 b hb'
    by_cases e : 0 = p
    · subst e; simp only [upd_same]; exact ⟨by omega, fun e => by omega⟩
    · simp only [upd_ne _ _ _ _ e]; exact ⟨e1, e2⟩
  · by_cases e : b < w.heap.size
    · exact h12 b o v (k2 b o v e hk) hT
    · have := h14 b hT; omega
  · simp only at ht
    rcases hbk t b ht with ⟨rfl, a1⟩ | ⟨e1, a1⟩
    · have := h14 b hT; have := (hnew b a1).1; omega
    · exact h13 t b a1 hT
end

section
variable {X : Ctx} {Q : Exit → St → Prop} {S : St} {ops : Array Oper} {o : Oper} {rest : List Oper}
/-- A call that hands back a slice of the callee's own: it becomes place p. -/
theorem WL_callo (p : Nat) {f : FuncId} {xs : Array Operand} {ts : Array TypeId} {A : List D} {R : D} {E z n : Nat} {el : Nat → List D} (hg : o.guard = none) (ho : o.op = .call { callee := .value (.func f), args := xs, argTypes := ts }) (hc : ContractO X.Z f A R E z n el) (hA : xs.toList.map (S.ev X) = A)
    {t : Nat} (hd : o.dst = some t) {R' : D} (hR : renO p (S.γ p + 1) R = R') (hk : WL X ops rest Q ⟨upd S.ρ t R', upd S.γ p (S.γ p + 1), upd S.σ p (.arr E z n el)⟩) : WL X ops (o :: rest) Q S := fun κ sv a w hs => by
  subst hR
  have hr := evs_rep hs xs.toList
  rw [hA] at hr
  refine wpListIn_plain hg fun K hK => op_call (run_call hc.body ho) (hc.calls w κ _ (Sim.fits hs.wld) (Sim.globOk hs.wld) (hr.pure (fun _ _ _ h => h) hc.pureA)) ?_
  rintro e w' ⟨v, sl, κ', rfl, hv, k1, k2, k3, hsl, hown, hsep, hb⟩
  refine ⟨v, rfl, ?_⟩
  rw [hd]
  have hle : Le κ κ' S.γ (upd S.γ p (S.γ p + 1)) sv (upd sv p sl) := by
    obtain ⟨a, b, c⟩ := le_renew κ S.γ sv p sl
    exact ⟨k1, b, c⟩
  have hW := hs.wld.adopt hb k1 k2 k3 p (.arr E z n el) sl (fun b hbk => by
    obtain ⟨xs, e1, _⟩ := hown
    rcases e1.2 with ⟨hv, _⟩ | ⟨b', cap, cur, hv, hbase, hh, _⟩
    · simp only at hv; rw [hv] at hbk; cases hbk
    · simp only at hv
      rw [hv] at hbk; simp only [blk, Option.some.injEq] at hbk; subst hbk
      exact ⟨hbase, (Array.getElem?_eq_some_iff.1 hh).1, hsep b' (by rw [hv]; rfl)⟩) (by
    obtain ⟨xs, e1, e2, e3, e4⟩ := hown
    exact ⟨xs, by rw [upd_same]; exact owns_base e1 hs.wld.base, e2, e3, fun i hi => (e4 i hi).pure (fun _ _ _ h => h) (hc.pureE i hi)⟩) S.ρ
  have hs' : Sim X κ' (upd sv p sl) ⟨S.ρ, upd S.γ p (S.γ p + 1), upd S.σ p (.arr E z n el)⟩ a w' := ⟨hs.size, hs.defers.later hb, fun i hi => (hs.slot i hi).mono hle, hW⟩
  exact hK _ _ (hk κ' _ _ w' (hs'.put (some t) (rep_ren (p := 0) (g := 1) (fun _ _ _ h => h) rfl (upd_same _ _ _) (upd_same _ _ _) hc.poR hv)))
end
section
variable {X : Ctx} {S : St}
/-- The elements told anew: none is an empty slice; beyond the length nothing is said. -/
theorem wk_arrN (s : Nat) {E z n : Nat} {f : Nat → List D} (f' : Nat → List D) (hσ : S.σ s = .arr E z n f) (h : ∀ i, i < n → NilL (f i) (f' i)) : Wk X S ⟨S.ρ, S.γ, upd S.σ s (.arr E z n f')⟩ := fun κ sv a w hs => by
  have hown := hs.wld.own s
  rw [hσ] at hown
  obtain ⟨xs, e1, e2, e3, e4⟩ := hown
  have nl : ∀ {l l' : List D}, NilL l l' → l'.length = l.length := by
    intro l
    induction l with
    | nil => intro l' h; cases l' <;> first | rfl | exact h.elim
    | cons d l ih => intro l' h; cases l' with
      | nil => exact h.elim
      | cons d' l' => simp [ih h.2]
  refine ⟨κ, sv, ⟨hs.size, hs.defers, hs.slot, ?_⟩⟩
  refine hs.wld.rewrite s (.arr E z n f') (below_grown (Below.refl _ _) _) (by
    rw [hσ]
    cases sv s with
    | pointer a => cases a <;> rfl
    | slice a => cases a <;> rfl
    | _ => rfl) ⟨xs, e1, fun i hi => by rw [nl (h i hi)]; exact e2 i hi, fun i hi => nilL_cell (h i hi) (e3 i hi), fun i hi => nilL_rep (h i hi) (e4 i hi)⟩ _
theorem n_wk {o : Oper} {S1 S2 : St} (h : NOp X o S S1) (hw : Wk X S1 S2) : NOp X o S S2 := fun κ sv a w hs => by
  obtain ⟨v, w', κ', sv', h1, h2⟩ := h κ sv a w hs
  obtain ⟨κ2, sv2, h3⟩ := hw κ' sv' _ w' h2
  exact ⟨v, w', κ2, sv2, h1, h3⟩
theorem wk_slf (t : Nat) {z n : Nat} {f : Nat → List D} (f' : Nat → List D) (h : S.ρ t = .sl z n f) (hf : ∀ i, i < n → f i = f' i) : Wk X S (S.set t (.sl z n f')) := fun κ sv a w hs => by
  refine ⟨κ, sv, ⟨hs.size, hs.defers, fun i hi => ?_, hs.wld.slots rfl rfl⟩⟩
  by_cases e : i = t
  · subst e
    simp only [St.set, upd_same]
    have h1 := hs.slot i hi
    rw [h] at h1
    generalize a.tmps.getD i Go.undef = v at h1
    cases h1 with
    | sl _ _ _ b off cap u h1 h2 h5 h3 h4 => exact .sl z n f' b off cap u h1 (fun i hi => by rw [← hf i hi]; exact h2 i hi) (fun i hi => by rw [← hf i hi]; exact h5 i hi) (fun i hi => by rw [← hf i hi]; exact h3 i hi) h4
    | sl0 => exact .sl0 _ _
    | slE => exact .slE _ _ _ _
  · simp only [St.set, upd_ne _ _ _ _ e]; exact hs.slot i hi
theorem nilL_refl : ∀ l : List D, NilL l l
  | [] => trivial
  | _ :: l => ⟨.inl rfl, nilL_refl l⟩
end
section
variable {X : Ctx} {Q : Exit → St → Prop} {S S0 : St} {ops : Array Oper} {o : Oper} {rest : List Oper} {E : List Ent} {V : List Vl}
theorem G_tS {j t : Nat} {b : Bool} {m : Int} (hg : o.guard = some (j, b)) (hj : (ops[j]?).bind (·.dst) = some t) (hc : S.ev X (.tmp t) = .bool (m == m)) (ht : WG X Q ops S0 E V (o :: rest) (S.set t (.bool true))) : WG X Q ops S0 E V (o :: rest) S :=
  WG_tell hg hj hc (fun _ => ht) (fun h => by simp at h)
theorem L_tS {j t : Nat} {b : Bool} {m : Int} (hg : o.guard = some (j, b)) (hj : (ops[j]?).bind (·.dst) = some t) (hc : S.ev X (.tmp t) = .bool (m == m)) (ht : WL X ops (o :: rest) Q (S.set t (.bool true))) : WL X ops (o :: rest) Q S :=
  WL_tell hg hj hc (fun _ => ht) (fun h => by simp at h)
end
end Go.Ab

/- The data of the convoys, as plain Lean; how they stand in memory. -/
namespace Go.Proofs.YtafnhieaeejlcaaDoor
open Go Go.Ab
structure Hold where
  a : Int
  u : Int
  deriving DecidableEq
instance : Inhabited Hold := ⟨⟨0, 0⟩⟩
structure Span where
  lo : Int
  hi : Int
  deriving DecidableEq
instance : Inhabited Span := ⟨⟨0, 0⟩⟩
structure Truck where
  way : Int
  start : Int
  lo : Int
  hi : Int
  holds : List Hold
  deriving DecidableEq
instance : Inhabited Truck := ⟨⟨0, 0, 0, 0, []⟩⟩
structure Convoy where
  len : Int
  gap : Int
  fails : Int
  trucks : List Truck
  deriving DecidableEq
instance : Inhabited Convoy := ⟨⟨0, 0, 0, []⟩⟩
def encHold (h : Hold) : List D := [.int .i64 h.a, .int .i64 h.u]
def encSpan (h : Span) : List D := [.int .i64 h.lo, .int .i64 h.hi]
def encTruck (t : Truck) : List D := [.int .i64 t.way, .int .i64 t.start, .int .i64 t.lo, .int .i64 t.hi, slOf 2 encHold t.holds]
def encConvoy (c : Convoy) : List D := [.int .i64 c.len, .int .i64 c.gap, .int .i64 c.fails, slOf 5 encTruck c.trucks]
theorem pure_hold (h : Hold) : PureL (encHold h) := PureL.cons (.int _ _) (PureL.cons (.int _ _) PureL.nil)
theorem pure_span (h : Span) : PureL (encSpan h) := PureL.cons (.int _ _) (PureL.cons (.int _ _) PureL.nil)
theorem pure_truck (t : Truck) : PureL (encTruck t) := PureL.cons (.int _ _) (PureL.cons (.int _ _) (PureL.cons (.int _ _) (PureL.cons (.int _ _) (PureL.cons (pure_slOf pure_hold) PureL.nil))))
theorem pure_convoy (c : Convoy) : PureL (encConvoy c) := PureL.cons (.int _ _) (PureL.cons (.int _ _) (PureL.cons (.int _ _) (PureL.cons (pure_slOf pure_truck) PureL.nil)))
/-- A ride: a truck and the road's length. -/
def encRide (t : Truck) (len : Int) : List D := encTruck t ++ [.int .i64 len]
theorem pure_ride (t : Truck) (len : Int) : PureL (encRide t len) := fun d hd => by
  rcases List.mem_append.1 hd with h | h
  · exact pure_truck t d h
  · simp at h; subst h; exact .int _ _
end Go.Proofs.YtafnhieaeejlcaaDoor

/- How the arguments of a law are read as plain data of Lean, what the table of the four cases holds, and what a law that writes nothing older than itself leaves: its arguments read as they did. -/
namespace Go.Proofs.YtafnhieaeejlcaaDoor
open Go Go.Ab Go.ChangeShapes Go.WideShapes Go.ChangeAt Go.RowKit
set_option maxRecDepth 100000

/-- All that a world's memory holds. -/
def allK (w : World) : Nat → Nat → Option Value := fun b o => w.cell? ⟨b, o, none⟩
theorem allK_fits (w : World) : Fits (allK w) w := fun _ _ _ h => h

theorem cells3 : Tryd.prog.cellsOf 3 = 1 := by kernel_rfl
theorem cells22 : Tryd.prog.cellsOf 22 = 1 := by kernel_rfl
theorem cells24 : Tryd.prog.cellsOf 24 = 4 := by kernel_rfl
theorem cells31 : Tryd.prog.cellsOf 31 = 1 := by kernel_rfl
theorem cells47 : Tryd.prog.cellsOf 47 = 2 := by kernel_rfl
theorem cells48 : Tryd.prog.cellsOf 48 = 1 := by kernel_rfl
theorem cells50 : Tryd.prog.cellsOf 50 = 5 := by kernel_rfl
theorem cells89 : Tryd.prog.cellsOf 89 = 2 := by kernel_rfl
theorem cells102 : Tryd.prog.cellsOf 102 = 2 := by kernel_rfl
theorem cells103 : Tryd.prog.cellsOf 103 = 8 := by kernel_rfl

section
variable {H : Type} {enc : TypeId × Value → H} {W : World}

/-- Whatever reads as the type, stands for a datum of Lean. -/
def Rd {α : Type} (enc : TypeId × Value → H) (W : World) (t : TypeId) (ec : α → List D) : Prop :=
  ∀ n cs x, DataW.trod enc Tryd.prog W 0 (fun _ => true) true n t cs = some x → ∃ a : α, RepL (allK W) γ0 sv0 (ec a) cs

theorem fld {fs : Array Field} {xs : List (DataW H × List MemPlace)} {cs : List Value} {n : Nat}
    (hf : ∀ (i : Nat) (f : Field), fs[i]? = some f → DataW.trod enc Tryd.prog W 0 (fun _ => true) true n f.type ((cs.drop f.offset).take (Tryd.prog.cellsOf f.type)) = xs[i]?)
    (hl : xs.length = fs.size) (i : Nat) (f : Field) (hi : fs[i]? = some f) : ∃ y, DataW.trod enc Tryd.prog W 0 (fun _ => true) true n f.type ((cs.drop f.offset).take (Tryd.prog.cellsOf f.type)) = some y := by
  have h1 := (Array.getElem?_eq_some_iff.1 hi).1
  rw [← hl] at h1
  exact ⟨xs[i], by rw [hf i f hi]; exact List.getElem?_eq_getElem h1⟩

theorem rd_hold : Rd enc W 89 encHold := by
  intro n cs x h
  obtain ⟨xs, m, rfl, rfl, hlen, hxl, hf⟩ := DataW.trod_struct Tryd.underlying89 h
  obtain ⟨y0, h0⟩ := fld hf hxl 0 _ rfl
  obtain ⟨y1, h1⟩ := fld hf hxl 1 _ rfl
  obtain ⟨a0, e0, _⟩ := DataW.trod_int Tryd.underlying3 h0
  obtain ⟨a1, e1, _⟩ := DataW.trod_int Tryd.underlying3 h1
  rw [cells89] at hlen
  rcases cs with _ | ⟨c0, _ | ⟨c1, _ | ⟨c2, cs⟩⟩⟩ <;> simp at hlen
  simp [cells3] at e0 e1
  subst e0 e1
  exact ⟨⟨a0, a1⟩, .cons _ _ _ _ (.int _ _) (.cons _ _ _ _ (.int _ _) .nil)⟩

theorem rd_int : Rd enc W 3 encI := by
  intro n cs x h
  obtain ⟨a, rfl, _⟩ := DataW.trod_int Tryd.underlying3 h
  exact ⟨a, .cons _ _ _ _ (.int _ _) .nil⟩

theorem rd_span : Rd enc W 47 encSpan := by
  intro n cs x h
  obtain ⟨xs, m, rfl, rfl, hlen, hxl, hf⟩ := DataW.trod_struct Tryd.underlying47 h
  obtain ⟨y0, h0⟩ := fld hf hxl 0 _ rfl
  obtain ⟨y1, h1⟩ := fld hf hxl 1 _ rfl
  obtain ⟨a0, e0, _⟩ := DataW.trod_int Tryd.underlying3 h0
  obtain ⟨a1, e1, _⟩ := DataW.trod_int Tryd.underlying3 h1
  rw [cells47] at hlen
  rcases cs with _ | ⟨c0, _ | ⟨c1, _ | ⟨c2, cs⟩⟩⟩ <;> simp at hlen
  simp [cells3] at e0 e1
  subst e0 e1
  exact ⟨⟨a0, a1⟩, .cons _ _ _ _ (.int _ _) (.cons _ _ _ _ (.int _ _) .nil)⟩

theorem rd_slice {α : Type} [Inhabited α] {t e z : Nat} {ec : α → List D} (ht : Tryd.prog.underlying t = some (.slice e)) (hz : Tryd.prog.cellsOf e = z) (hz0 : 0 < z) (hl : ∀ a, (ec a).length = z)
    (hc : ∀ a, allCell (ec a) = true) (hr : Rd enc W e ec) : Rd enc W t (fun l : List α => [slOf z ec l]) := by
  intro n cs x h
  rcases Deep.open_slice ht h with ⟨rfl, rfl⟩ | ⟨a, len, cap, m, n', D, Pl, rfl, _, hlc, _, hm, rfl, hx⟩
  · exact ⟨[], .cons _ _ _ _ (.sl0 _ _) .nil⟩
  · simp only [if_true] at hm
    subst hm
    rw [hz] at hx
    rcases Nat.eq_zero_or_pos len with rfl | hpos
    · exact ⟨[], .cons _ _ _ _ (.slE _ _ _ _) .nil⟩
    · have hx' : ∀ i, i < len → ∃ p : α × List Value, W.cells? 0 (a.add (i * z)) z = some p.2 ∧ RepL (allK W) γ0 sv0 (ec p.1) p.2 := fun i hi => by
        obtain ⟨cs', h1, h2⟩ := hx i (by omega)
        obtain ⟨b, hb⟩ := hr _ _ _ h2
        exact ⟨(b, cs'), h1, hb⟩
      obtain ⟨F, hF⟩ := Deep.choose_lt hx'
      have hsp : a.spot = none := by
        obtain ⟨_, h1, h2⟩ := World.cells?_some (hF 0 hpos).1
        have h3 := h2 0 hz0
        rw [List.getElem?_eq_getElem (by omega)] at h3
        simpa [Addr.add] using World.cell?_spot h3
      obtain ⟨b, off, sp⟩ := a
      simp only at hsp
      subst hsp
      refine ⟨(List.range len).map (fun i => (F i).1), .cons _ _ _ _ ?_ .nil⟩
      have hlen : ((List.range len).map (fun i => (F i).1)).length = len := by simp
      have hg : ∀ i, i < len → ((List.range len).map (fun i => (F i).1)).getD i default = (F i).1 := fun i hi => by simp [List.getD, hi]
      unfold slOf
      rw [hlen]
      refine .sl z len _ b off m (fun i => (F i).2) hlc (fun i _ => hl _) (fun i _ => hc _) (fun i hi => by rw [hg i hi]; exact (hF i hi).2) (fun i j v hi hj => ?_)
      obtain ⟨_, h1, h2⟩ := World.cells?_some (hF i hi).1
      have hjl := (List.getElem?_eq_some_iff.1 hj).1
      have h3 := h2 j (by omega)
      rw [add_plain, add_plain, hj] at h3
      exact h3

theorem rd_truck : Rd enc W 50 encTruck := by
  intro n cs x h
  obtain ⟨xs, m, rfl, rfl, hlen, hxl, hf⟩ := DataW.trod_struct Tryd.underlying50 h
  obtain ⟨y0, h0⟩ := fld hf hxl 0 _ rfl
  obtain ⟨y1, h1⟩ := fld hf hxl 1 _ rfl
  obtain ⟨y2, h2⟩ := fld hf hxl 2 _ rfl
  obtain ⟨y3, h3⟩ := fld hf hxl 3 _ rfl
  obtain ⟨a0, e0, _⟩ := DataW.trod_int Tryd.underlying3 h0
  obtain ⟨a1, e1, _⟩ := DataW.trod_int Tryd.underlying3 h1
  obtain ⟨s, e2⟩ := rd_span _ _ _ h2
  obtain ⟨l, e3⟩ := rd_slice (ec := encHold) Tryd.underlying48 cells89 (by decide) (fun _ => rfl) (fun _ => rfl) rd_hold _ _ _ h3
  rw [cells50] at hlen
  rcases cs with _ | ⟨c0, _ | ⟨c1, _ | ⟨c2, _ | ⟨c3, _ | ⟨c4, _ | ⟨c5, cs⟩⟩⟩⟩⟩⟩ <;> simp at hlen
  simp [cells3, cells47, cells48, cells22] at e0 e1 e2 e3
  subst e0 e1
  cases e2 with
  | cons _ _ _ _ k2 r2 =>
    cases r2 with
    | cons _ _ _ _ k3 _ =>
      cases e3 with
      | cons _ _ _ _ k4 _ => exact ⟨⟨a0, a1, s.lo, s.hi, l⟩, .cons _ _ _ _ (.int _ _) (.cons _ _ _ _ (.int _ _) (.cons _ _ _ _ k2 (.cons _ _ _ _ k3 (.cons _ _ _ _ k4 .nil))))⟩

theorem rd_convoy : Rd enc W 24 encConvoy := by
  intro n cs x h
  obtain ⟨xs, m, rfl, rfl, hlen, hxl, hf⟩ := DataW.trod_struct Tryd.underlying24 h
  obtain ⟨y0, h0⟩ := fld hf hxl 0 _ rfl
  obtain ⟨y1, h1⟩ := fld hf hxl 1 _ rfl
  obtain ⟨y2, h2⟩ := fld hf hxl 2 _ rfl
  obtain ⟨y3, h3⟩ := fld hf hxl 3 _ rfl
  obtain ⟨a0, e0, _⟩ := DataW.trod_int Tryd.underlying3 h0
  obtain ⟨a1, e1, _⟩ := DataW.trod_int Tryd.underlying3 h1
  obtain ⟨a2, e2, _⟩ := DataW.trod_int Tryd.underlying3 h2
  obtain ⟨l, e3⟩ := rd_slice (ec := encTruck) Tryd.underlying22 cells50 (by decide) (fun _ => rfl) (fun _ => rfl) rd_truck _ _ _ h3
  rw [cells24] at hlen
  rcases cs with _ | ⟨c0, _ | ⟨c1, _ | ⟨c2, _ | ⟨c3, _ | ⟨c4, cs⟩⟩⟩⟩⟩ <;> simp at hlen
  simp [cells3, cells47, cells48, cells22] at e0 e1 e2 e3
  subst e0 e1 e2
  cases e3 with
  | cons _ _ _ _ k3 _ => exact ⟨⟨a0, a1, a2, l⟩, .cons _ _ _ _ (.int _ _) (.cons _ _ _ _ (.int _ _) (.cons _ _ _ _ (.int _ _) (.cons _ _ _ _ k3 .nil)))⟩

/-- An argument that is a convoy. -/
theorem arg_convoy {v : Value} {d : DataW H} {ps : List MemPlace} {base : Nat} (hv : Value.okWide Tryd.prog W .any base 24 v) (h : DataW.Trod enc Tryd.prog W 0 (fun _ => true) true 24 v d ps) :
    ∃ c : Convoy, Rep (allK W) γ0 sv0 (.agg (encConvoy c)) v := by
  simp only [Value.okWide, Tryd.underlying24] at hv
  obtain ⟨cs, rfl, _⟩ := hv
  obtain ⟨n, hn⟩ := h
  obtain ⟨c, hc⟩ := rd_convoy _ _ _ hn
  have := Rep.agg _ _ hc
  simp [Value.cells] at this
  exact ⟨c, this⟩
/-- An argument that is a list of numbers. -/
theorem arg_ints {v : Value} {d : DataW H} {ps : List MemPlace} {base : Nat} (hv : Value.okWide Tryd.prog W .any base 31 v) (h : DataW.Trod enc Tryd.prog W 0 (fun _ => true) true 31 v d ps) :
    ∃ l : List Int, Rep (allK W) γ0 sv0 (slOf 1 encI l) v := by
  obtain ⟨n, hn⟩ := h
  obtain ⟨l, hl⟩ := rd_slice (ec := encI) Tryd.underlying31 cells3 (by decide) (fun _ => rfl) (fun _ => rfl) rd_int _ _ _ hn
  obtain ⟨a0, len, cap, rfl⟩ := okWide_slice Tryd.underlying31 hv
  cases hl with
  | cons _ _ _ _ k _ => exact ⟨l, k⟩
end

/-- What the row's list gives: the cells of the table. -/
theorem glob_of {W : World} (h : laidMetH Tryd.prog [("sastrugi/convoy.cases", Rows.laid_sastrugi_convoy_cases)] W) : GlobOk seat (allK W) := by
  have h' : laidMet Tryd.prog [("sastrugi/convoy.cases", Rows.laid_sastrugi_convoy_cases)] W := h
  obtain ⟨ps, ⟨g, t, cs, fuel, p, q, hg, ht, hvar, hd, _, _⟩, _⟩ := h'
  have hg0 : Tryd.prog.globalNamed "sastrugi/convoy.cases" = some 0 := by kernel_rfl
  have ht0 : (Tryd.prog.globals[0]?).map (·.type) = some 103 := by kernel_rfl
  obtain rfl := Option.some.inj (hg0.symm.trans hg)
  obtain rfl := Option.some.inj (ht0.symm.trans ht)
  obtain ⟨xs, m, rfl, hx, hlen, hxl, he⟩ := DataW.trod_array Tryd.underlying103 hd
  have hx1 := congrArg Prod.fst hx
  simp only [Rows.laid_sastrugi_convoy_cases, DataW.agg.injEq] at hx1
  rw [cells103] at hlen
  rw [cells102] at he
  have row : ∀ i a b, i < 4 → (xs.map (·.1))[i]? = some (.agg [.lit (.int .i64 a), .lit (.int .i64 b)]) → (cs.toList.drop (i * 2)).take 2 = [Value.int .i64 a, Value.int .i64 b] := fun i a b hi hi2 => by
    rw [List.getElem?_map] at hi2
    obtain ⟨y, hy, hy2⟩ := Option.map_eq_some_iff.1 hi2
    have h1 := he i hi
    rw [hy] at h1
    obtain ⟨d, p'⟩ := y
    simp only at hy2
    subst hy2
    exact Lib.cells_of_tab (zs := [a, b]) Tryd.underlying102 Tryd.underlying3 cells3 cells102 h1
  rw [← hx1] at row
  have r0 := row 0 0 0 (by decide) rfl
  have r1 := row 1 1 0 (by decide) rfl
  have r2 := row 2 0 1 (by decide) rfl
  have r3 := row 3 1 1 (by decide) rfl
  have hcell : ∀ j, W.cell? ⟨0, j, none⟩ = cs.toList[j]? := fun j => by rw [World.var?_cell hg hvar j]; simp
  generalize cs.toList = l at hlen r0 r1 r2 r3 hcell
  rcases l with _ | ⟨c0, _ | ⟨c1, _ | ⟨c2, _ | ⟨c3, _ | ⟨c4, _ | ⟨c5, _ | ⟨c6, _ | ⟨c7, _ | ⟨c8, l⟩⟩⟩⟩⟩⟩⟩⟩⟩ <;> simp at hlen
  simp at r0 r1 r2 r3
  obtain ⟨rfl, rfl⟩ := r0
  obtain ⟨rfl, rfl⟩ := r1
  obtain ⟨rfl, rfl⟩ := r2
  obtain ⟨rfl, rfl⟩ := r3
  intro g l hl
  show _
  have hl' : globs g = some l := hl
  unfold globs at hl'
  split at hl'
  · simp only [Option.some.injEq] at hl'
    subst hl'
    refine ⟨rfl, _, ?_, fun j v hj => by rw [show allK W 0 j = _ from hcell j]; exact hj⟩
    exact .cons _ _ _ _ (.int _ _) (.cons _ _ _ _ (.int _ _) (.cons _ _ _ _ (.int _ _) (.cons _ _ _ _ (.int _ _) (.cons _ _ _ _ (.int _ _) (.cons _ _ _ _ (.int _ _) (.cons _ _ _ _ (.int _ _) (.cons _ _ _ _ (.int _ _) .nil)))))))
  · cases hl'

theorem laidOut : laidOutB Tryd.prog = true := by kernel_rfl
theorem own : ownKnob Tryd.prog.godebug = none := by kernel_rfl

theorem trodAll_stays {H : Type} {enc : TypeId × Value → H} {W W' : World} {sp' : Nat → Bool} (hb : Below W.heap.size W W') : ∀ {ts : List TypeId} {vs : List Value} {ds : List (DataW H)} {ps : List MemPlace},
    (∀ t ∈ ts, Tryd.prog.readableRec t = true ∧ t < Tryd.prog.types.size) → DataW.TrodAll enc Tryd.prog W 0 (fun _ => true) true ts vs ds ps → (∀ p ∈ ps, p.block < W.heap.size) → (∀ p ∈ ps, sp' p.block = true) →
    DataW.TrodAll enc Tryd.prog W' 0 sp' true ts vs ds ps
  | [], [], [], _, _, h, _, _ => h
  | _ :: _, _ :: _, _ :: _, _, hT, ⟨p, q, h1, h2, e⟩, hlt, hs => ⟨p, q,
      WideElems.Trod_stays laidOut (hT _ (List.mem_cons_self ..)).1 (hT _ (List.mem_cons_self ..)).2 h1 (fun x hx => hb.same (hlt x (by rw [e]; exact List.mem_append_left _ hx))) (fun x hx => hs x (by rw [e]; exact List.mem_append_left _ hx)),
      trodAll_stays hb (fun t ht => hT t (List.mem_cons_of_mem _ ht)) h2 (fun x hx => hlt x (by rw [e]; exact List.mem_append_right _ hx)) (fun x hx => hs x (by rw [e]; exact List.mem_append_right _ hx)), e⟩

/-- A law that says yes and writes nothing older than itself. -/
theorem post_yes {H : Type} {enc : TypeId × Value → H} {f : Func} {s : ChangeSpec} {W W' : World} {args : Array Value} {ds gs : List (DataW H)} {before : List MemPlace}
    (hW : DataW.Whole enc Tryd.prog f.params.toList s.vars false W args.toList ds gs before) (hv : s.vars = []) (hb : Below W.heap.size W W')
    (hT : ∀ t ∈ f.params.toList, Tryd.prog.readableRec t = true ∧ t < Tryd.prog.types.size) (hrt : f.resultTypes = #[4])
    (hr : (s.fn H (ds ++ gs)).results = [.lit (.bool true)]) (ha : (s.fn H (ds ++ gs)).args = ds) (hvs : (s.fn H (ds ++ gs)).vars = []) :
    s.post enc Tryd.prog f false true false false W args (.bool true) W' := by
  have hlt := hW.lt
  have hW2 := hW
  obtain ⟨p, q, hA, hV, rfl, _, _⟩ := hW
  rw [hv] at hV
  obtain ⟨rfl, rfl⟩ := trodVars_none hV
  refine ⟨ds, [], p ++ [], [], p, [], hW2, ?_, ?_, ?_, hb.frame _, fun h => by cases h⟩
  · rw [hr, hrt]
    exact trodAll_mk1 (shut_bool Tryd.underlying4 _)
  · rw [ha]
    exact trodAll_stays hb hT hA (fun x hx => hlt x (by simpa using hx)) (fun x hx => by simpa using hlt x (by simpa using hx))
  · rw [hvs, hv]; rfl

/-- A world for the witness: the settled one, the table holding what its initialiser lays. -/
noncomputable def laidWorld (os : Os) : World :=
  { World.holding Tryd.prog os ⟨#[], #[], []⟩ with heap := (World.holding Tryd.prog os ⟨#[], #[], []⟩).heap.modify 0 fun
      | .cells _ t frozen => .cells #[.int .i64 0, .int .i64 0, .int .i64 1, .int .i64 0, .int .i64 0, .int .i64 1, .int .i64 1, .int .i64 1] t frozen
      | o => o }
/-- The empty convoy. -/
def cv0 : Value := .agg #[.int .i64 0, .int .i64 0, .int .i64 0, .slice none 0 0]
end Go.Proofs.YtafnhieaeejlcaaDoor

namespace Go.Proofs.YtafnhieaeejlcaaDoor
open Go Go.Ab
set_option maxRecDepth 100000
set_option maxHeartbeats 4000000
attribute [local irreducible] W WL QOp NOp thenQ blockQ FinQ FinR WG FQ Want FinW WI WIL thenI blockI
theorem c64 (a b c : Int) : Contract seat 64 [.int .i64 a, .int .i64 b, .int .i64 c] (.bool (decide (b ≤ a ∧ a ≤ c))) := by
  refine contract_intro (fn := Tryd.f64) Tryd.func64 rfl (by kernel_rfl) rfl ?_ ?_ ?_
  · repeat' first | exact PureL.nil | refine PureL.cons (.int _ _) ?_
  · exact .bool _
  intro w κ
  repeat' (first
    | (apply WL_q; apply Eq.refl; apply Eq.refl; (first | (apply q_mvI <;> apply Eq.refl) | (apply q_cmp <;> apply Eq.refl) | (apply q_mvB <;> apply Eq.refl) | (apply q_asB <;> apply Eq.refl) | (apply q_pkT <;> apply Eq.refl) | (apply q_pkF <;> apply Eq.refl)))
    | apply W_seq
    | apply W_region
    | apply T_normal
    | apply WL_nil
    | apply W_ret
    | (apply WL_yes; apply Eq.refl; apply Eq.refl; apply Eq.refl)
    | (apply WL_no; apply Eq.refl; apply Eq.refl; apply Eq.refl; apply Eq.refl; apply Eq.refl)
    | (apply L_tD; apply Eq.refl; apply Eq.refl; apply Eq.refl; intro _; rotate_left 1; intro _; rotate_left 1))
  all_goals (refine fin_B rfl rfl ?_; simp; try omega)

/-- How far along its way a metre is. -/
def alongI (way len m : Int) : Int := if way = 2 then len - m else m
theorem c107 (t : Truck) (len m : Int) (h0 : -2305843009213693952 ≤ m) (h1 : m ≤ 2305843009213693952) (h2 : -2305843009213693952 ≤ len) (h3 : len ≤ 2305843009213693952) :
    Contract seat 107 [.agg (encRide t len), .int .i64 m] (.int .i64 (alongI t.way len m)) := by
  refine contract_intro (fn := Tryd.f107) Tryd.func107 rfl (by kernel_rfl) rfl ?_ ?_ ?_
  · exact PureL.cons (.agg _ (pure_ride t len)) (PureL.cons (.int _ _) PureL.nil)
  · exact .int _ _
  intro w κ
  repeat' (first
    | (apply WL_q; apply Eq.refl; apply Eq.refl; (first | (apply q_mvI <;> apply Eq.refl) | (apply q_asI <;> apply Eq.refl) | (apply q_ldb <;> apply Eq.refl) | (apply q_fab <;> apply Eq.refl) | (apply q_cmp <;> apply Eq.refl) | (apply q_arith <;> (first | apply Eq.refl | omega))))
    | apply W_seq
    | apply W_region
    | apply T_normal
    | apply WL_nil
    | apply T_ret
    | apply W_skip
    | apply W_ret
    | (apply WL_n; apply Eq.refl; (first | (apply n_boxa <;> apply Eq.refl)))
    | (apply W_cD; apply Eq.refl; intro _; rotate_left 1; intro _; rotate_left 1))
  all_goals (refine fin_I rfl rfl ?_; simp_all [alongI])

def chkHolds (way len : Int) : Option Int → List Hold → Int
  | _, [] => 0
  | p, h :: hs => if ¬ (1 ≤ h.a ∧ h.a ≤ len - 1) ∨ ¬ (0 ≤ h.u ∧ h.u ≤ 10000) then 2 else
    match p with
    | some q => if alongI way len h.a ≤ q then 11 else chkHolds way len (some (alongI way len h.a)) hs
    | none => chkHolds way len (some (alongI way len h.a)) hs
def chkTruck (c : Convoy) (t : Truck) : Int :=
  if ¬ (1 ≤ t.way ∧ t.way ≤ 2) then 4
  else if ¬ (0 ≤ t.start ∧ t.start ≤ 10000) ∨ ¬ (1 ≤ t.lo ∧ t.lo ≤ 1000) ∨ ¬ (1 ≤ t.hi ∧ t.hi ≤ 1000) then 2
  else if t.lo > t.hi then 11
  else if c.len > 1000 * t.lo then 13
  else if c.gap < 2 * t.hi then 12
  else if t.holds.length > 8 then 8
  else chkHolds t.way c.len none t.holds

theorem chkHolds_cons (way len : Int) (p : Option Int) (h : Hold) (hs : List Hold) : chkHolds way len p (h :: hs) = if ¬ (1 ≤ h.a ∧ h.a ≤ len - 1) ∨ ¬ (0 ≤ h.u ∧ h.u ≤ 10000) then 2 else
    match p with
    | some q => if alongI way len h.a ≤ q then 11 else chkHolds way len (some (alongI way len h.a)) hs
    | none => chkHolds way len (some (alongI way len h.a)) hs := by cases p <;> rfl
theorem drop_getD {α : Type} [Inhabited α] (l : List α) (k : Nat) (h : k < l.length) : l.drop k = l.getD k default :: l.drop (k + 1) := by
  rw [List.drop_eq_getElem_cons h]; simp [List.getD, h]
def chkPrev (way len : Int) (hs : List Hold) (k : Nat) : Option Int := if k = 0 then none else some (alongI way len (hs.getD (k - 1) default).a)
def chkInv (way len : Int) (hs : List Hold) (k : Nat) : Prop := k ≤ hs.length ∧ chkHolds way len (chkPrev way len hs k) (hs.drop k) = chkHolds way len none hs ∧
  (0 < k → 1 ≤ (hs.getD (k - 1) default).a ∧ (hs.getD (k - 1) default).a ≤ len - 1)
theorem chkInv_zero (way len : Int) (hs : List Hold) : chkInv way len hs 0 := ⟨Nat.zero_le _, by simp [chkPrev], fun h => by omega⟩
section
variable {way len : Int} {hs : List Hold} {k : Nat}
theorem chk_end (hi : chkInv way len hs k) (h : ¬ k < hs.length) : 0 = chkHolds way len none hs := by
  obtain ⟨h1, h2, _⟩ := hi
  rw [List.drop_eq_nil_of_le (by omega)] at h2
  simpa [chkHolds] using h2
theorem chk_2 (hi : chkInv way len hs k) (h : k < hs.length) (hb : ¬ (1 ≤ (hs.getD k default).a ∧ (hs.getD k default).a ≤ len - 1) ∨ ¬ (0 ≤ (hs.getD k default).u ∧ (hs.getD k default).u ≤ 10000)) : 2 = chkHolds way len none hs := by
  obtain ⟨h1, h2, _⟩ := hi
  rw [drop_getD _ _ h] at h2
  rw [chkHolds_cons] at h2
  rw [if_pos hb] at h2
  exact h2
theorem chk_11 (hi : chkInv way len hs k) (h : k < hs.length) (ha : 1 ≤ (hs.getD k default).a ∧ (hs.getD k default).a ≤ len - 1) (hu : 0 ≤ (hs.getD k default).u ∧ (hs.getD k default).u ≤ 10000) (h0 : 0 < k)
    (hle : alongI way len (hs.getD k default).a ≤ alongI way len (hs.getD (k - 1) default).a) : 11 = chkHolds way len none hs := by
  obtain ⟨h1, h2, _⟩ := hi
  rw [drop_getD _ _ h] at h2
  rw [chkHolds_cons] at h2
  rw [if_neg (by simp only [not_or, Classical.not_not]; exact ⟨ha, hu⟩)] at h2
  simp only [chkPrev, if_neg (show ¬ k = 0 by omega)] at h2
  rw [if_pos hle] at h2
  exact h2
theorem chk_next (hi : chkInv way len hs k) (h : k < hs.length) (ha : 1 ≤ (hs.getD k default).a ∧ (hs.getD k default).a ≤ len - 1) (hu : 0 ≤ (hs.getD k default).u ∧ (hs.getD k default).u ≤ 10000)
    (hle : 0 < k → ¬ alongI way len (hs.getD k default).a ≤ alongI way len (hs.getD (k - 1) default).a) : chkInv way len hs (k + 1) := by
  obtain ⟨h1, h2, _⟩ := hi
  rw [drop_getD _ _ h] at h2
  rw [chkHolds_cons] at h2
  rw [if_neg (by simp only [not_or, Classical.not_not]; exact ⟨ha, hu⟩)] at h2
  refine ⟨h, ?_, fun _ => by simpa using ha⟩
  rw [← h2]
  by_cases e : k = 0
  · subst e; simp [chkPrev]
  · simp only [chkPrev, if_neg e, if_neg (hle (by omega))]; simp
end
theorem c65 (c : Convoy) (t : Truck) (hl : 1 ≤ c.len) (hl2 : c.len ≤ 100000) : Contract seat 65 [.agg (encConvoy c), .agg (encTruck t)] (.int .i64 (chkTruck c t)) := by
  refine contract_intro (fn := Tryd.f65) Tryd.func65 rfl (by kernel_rfl) rfl ?_ ?_ ?_
  · exact PureL.cons (.agg _ (pure_convoy c)) (PureL.cons (.agg _ (pure_truck t)) PureL.nil)
  · exact .int _ _
  intro w κ
  repeat' (first
    | (apply WL_q; apply Eq.refl; apply Eq.refl; (first | (apply q_mvI <;> apply Eq.refl) | (apply q_asI <;> apply Eq.refl) | (apply q_ldb <;> apply Eq.refl) | (apply q_fab <;> apply Eq.refl) | (apply q_cmp <;> apply Eq.refl) | (apply q_mvB <;> apply Eq.refl) | (apply q_asB <;> apply Eq.refl) | (apply q_not <;> apply Eq.refl) | (apply q_ldr <;> apply Eq.refl) | (apply q_far <;> apply Eq.refl) | (apply q_arith <;> (first | apply Eq.refl | omega)) | (apply q_len <;> apply Eq.refl) | (apply q_pkT <;> apply Eq.refl) | (apply q_pkF <;> apply Eq.refl) | (apply q_ia <;> (first | apply Eq.refl | omega)) | (apply q_ldba <;> apply Eq.refl) | (apply q_ldra <;> apply Eq.refl) | (apply q_bld <;> apply Eq.refl)))
    | apply W_seq
    | apply W_region
    | apply T_normal
    | apply WL_nil
    | apply T_exit
    | apply T_ret
    | apply B_normal
    | apply B_ret
    | apply B_exit_eq
    | apply W_skip
    | apply W_exit
    | apply W_ret
    | apply W_block
    | (apply W_condT; apply Eq.refl)
    | (apply W_condF; apply Eq.refl)
    | (apply WL_call; apply Eq.refl; apply Eq.refl; rotate_left 1; apply Eq.refl; rotate_right 1; exact (c64 _ _ _); apply Eq.refl)
    | (apply WL_n; apply Eq.refl; (first | (apply n_boxa <;> apply Eq.refl) | (apply n_alloc <;> apply Eq.refl) | (apply n_stb <;> apply Eq.refl)))
    | (apply WL_yes; apply Eq.refl; apply Eq.refl; apply Eq.refl)
    | (apply WL_no; apply Eq.refl; apply Eq.refl; apply Eq.refl; apply Eq.refl; apply Eq.refl)
    | (apply L_tND; apply Eq.refl; apply Eq.refl; apply Eq.refl; intro _; rotate_left 1; intro _; rotate_left 1)
    | apply W_regionG
    | (apply WG_nil; kernel_rfl)
    | (apply WG_q; (first | (apply want_none; apply Eq.refl) | (apply want_some; apply Eq.refl; apply Eq.refl; apply Eq.refl)); apply Eq.refl; first | (apply fq_bld <;> apply Eq.refl) | (apply fq_blda <;> apply Eq.refl) | (apply fq_fn; apply Eq.refl) | (apply fq_mf; apply Eq.refl) | (apply FQ_intro; intro _; (first | (apply q_mvI <;> apply Eq.refl) | (apply q_asI <;> apply Eq.refl) | (apply q_ldb <;> apply Eq.refl) | (apply q_fab <;> apply Eq.refl) | (apply q_cmp <;> apply Eq.refl) | (apply q_mvB <;> apply Eq.refl) | (apply q_asB <;> apply Eq.refl) | (apply q_not <;> apply Eq.refl) | (apply q_ldr <;> apply Eq.refl) | (apply q_far <;> apply Eq.refl) | (apply q_arith <;> (first | apply Eq.refl | omega)) | (apply q_len <;> apply Eq.refl) | (apply q_pkT <;> apply Eq.refl) | (apply q_pkF <;> apply Eq.refl) | (apply q_ia <;> (first | apply Eq.refl | omega)) | (apply q_ldba <;> apply Eq.refl) | (apply q_ldra <;> apply Eq.refl) | (apply q_bld <;> apply Eq.refl))))
    | (apply WG_call; (first | (apply want_none; apply Eq.refl) | (apply want_some; apply Eq.refl; apply Eq.refl; apply Eq.refl)); apply Eq.refl; apply Eq.refl; apply Eq.refl; exact (c64 _ _ _))
    | (apply WG_no; apply Eq.refl; apply Eq.refl; apply Eq.refl; apply Eq.refl; apply Eq.refl)
    | (apply G_tD; apply Eq.refl; apply Eq.refl; apply Eq.refl; intro _; rotate_left 1; intro _; rotate_left 1)
    | (apply W_cD; apply Eq.refl; intro _; rotate_left 1; intro _; rotate_left 1)
    | (apply W_cND; apply Eq.refl; intro _; rotate_left 1; intro _; rotate_left 1))
  all_goals try (refine fin_I rfl rfl ?_; simp [chkTruck]; omega)
  rename_i h1 h2 h3 h4 h5 h6 h7 h8
  have hspec : chkTruck c t = chkHolds t.way c.len none t.holds := by simp [chkTruck]; omega
  rw [hspec]
  clear hspec
  refine W_loopM (α := Nat) (fun k => [(2, .bx 2 1 0), (3, .bx 3 1 0), (5, .bx 5 1 0), (66, slOf 2 encHold t.holds), (67, .int .i64 t.holds.length), (68, .int .i64 k)]) (fun _ => [(2, 1), (3, 1), (5, 1)])
    (fun _ => [(2, .box (encConvoy c)), (3, .box (encTruck t)), (5, .box (encRide t c.len))]) (chkInv t.way c.len t.holds) (fun k => t.holds.length - k) 0 (chkInv_zero _ _ _) (by refine ⟨?_, ?_, ?_⟩ <;> repeat' (first | exact trivial | apply And.intro | apply Eq.refl)) (fun k h hi => ?_)
  have hk := hi.1
  have hp := hi.2.2
  have e1 : 0 < k → ((k : Int) - 1).toNat = k - 1 := fun h => by omega
  have hp' : 0 < k → 1 ≤ (t.holds.getD ((k : Int) - 1).toNat default).a ∧ (t.holds.getD ((k : Int) - 1).toNat default).a ≤ c.len - 1 := fun h => by rw [e1 h]; exact hp h
  repeat' (first
    | (apply WL_q; apply Eq.refl; apply Eq.refl; (first | (apply q_mvI <;> apply Eq.refl) | (apply q_asI <;> apply Eq.refl) | (apply q_ldb <;> apply Eq.refl) | (apply q_fab <;> apply Eq.refl) | (apply q_cmp <;> apply Eq.refl) | (apply q_mvB <;> apply Eq.refl) | (apply q_asB <;> apply Eq.refl) | (apply q_not <;> apply Eq.refl) | (apply q_ldr <;> apply Eq.refl) | (apply q_far <;> apply Eq.refl) | (apply q_arith <;> (first | apply Eq.refl | omega)) | (apply q_len <;> apply Eq.refl) | (apply q_pkT <;> apply Eq.refl) | (apply q_pkF <;> apply Eq.refl) | (apply q_ia <;> (first | apply Eq.refl | omega)) | (apply q_ldba <;> apply Eq.refl) | (apply q_ldra <;> apply Eq.refl) | (apply q_bld <;> apply Eq.refl)))
    | apply W_seq
    | apply W_region
    | apply T_normal
    | apply WL_nil
    | apply T_exit
    | apply T_ret
    | apply B_normal
    | apply B_ret
    | apply B_exit_eq
    | apply W_skip
    | apply W_exit
    | apply W_ret
    | apply W_block
    | (apply W_condT; apply Eq.refl)
    | (apply W_condF; apply Eq.refl)
    | (apply WL_call; apply Eq.refl; apply Eq.refl; rotate_left 1; apply Eq.refl; rotate_right 1; exact (c64 _ _ _); apply Eq.refl)
    | (apply WL_call; apply Eq.refl; apply Eq.refl; rotate_left 1; apply Eq.refl; rotate_right 1; exact (c107 _ _ _ (by omega) (by omega) (by omega) (by omega)); apply Eq.refl)
    | (apply WL_n; apply Eq.refl; (first | (apply n_boxa <;> apply Eq.refl) | (apply n_alloc <;> apply Eq.refl) | (apply n_stb <;> apply Eq.refl)))
    | (apply WL_yes; apply Eq.refl; apply Eq.refl; apply Eq.refl)
    | (apply WL_no; apply Eq.refl; apply Eq.refl; apply Eq.refl; apply Eq.refl; apply Eq.refl)
    | (apply L_tND; apply Eq.refl; apply Eq.refl; apply Eq.refl; intro _; rotate_left 1; intro _; rotate_left 1)
    | apply W_regionG
    | (apply WG_nil; kernel_rfl)
    | (apply WG_q; (first | (apply want_none; apply Eq.refl) | (apply want_some; apply Eq.refl; apply Eq.refl; apply Eq.refl)); apply Eq.refl; first | (apply fq_bld <;> apply Eq.refl) | (apply fq_blda <;> apply Eq.refl) | (apply fq_fn; apply Eq.refl) | (apply fq_mf; apply Eq.refl) | (apply FQ_intro; intro _; (first | (apply q_mvI <;> apply Eq.refl) | (apply q_asI <;> apply Eq.refl) | (apply q_ldb <;> apply Eq.refl) | (apply q_fab <;> apply Eq.refl) | (apply q_cmp <;> apply Eq.refl) | (apply q_mvB <;> apply Eq.refl) | (apply q_asB <;> apply Eq.refl) | (apply q_not <;> apply Eq.refl) | (apply q_ldr <;> apply Eq.refl) | (apply q_far <;> apply Eq.refl) | (apply q_arith <;> (first | apply Eq.refl | omega)) | (apply q_len <;> apply Eq.refl) | (apply q_pkT <;> apply Eq.refl) | (apply q_pkF <;> apply Eq.refl) | (apply q_ia <;> (first | apply Eq.refl | omega)) | (apply q_ldba <;> apply Eq.refl) | (apply q_ldra <;> apply Eq.refl) | (apply q_bld <;> apply Eq.refl))))
    | (apply WG_call; (first | (apply want_none; apply Eq.refl) | (apply want_some; apply Eq.refl; apply Eq.refl; apply Eq.refl)); apply Eq.refl; apply Eq.refl; apply Eq.refl; exact (c64 _ _ _))
    | (apply WG_call; (first | (apply want_none; apply Eq.refl) | (apply want_some; apply Eq.refl; apply Eq.refl; apply Eq.refl)); apply Eq.refl; apply Eq.refl; apply Eq.refl; exact (c107 _ _ _ (by omega) (by omega) (by omega) (by omega)))
    | (apply WG_no; apply Eq.refl; apply Eq.refl; apply Eq.refl; apply Eq.refl; apply Eq.refl)
    | (apply G_tD; apply Eq.refl; apply Eq.refl; apply Eq.refl; intro _; rotate_left 1; intro _; rotate_left 1)
    | (apply W_cD; apply Eq.refl; intro _; rotate_left 1; intro _; rotate_left 1)
    | (apply W_cND; apply Eq.refl; intro _; rotate_left 1; intro _; rotate_left 1))
  all_goals try simp only [Int.toNat_natCast] at *
  all_goals first
    | (refine fin_I rfl rfl (chk_2 hi (by omega) (by first | (left; assumption) | (right; assumption))); done)
    | (refine fin_I rfl rfl (chk_11 hi (by omega) (by assumption) (by assumption) (by omega) (by rw [← e1 (by omega)]; assumption)); done)
    | (refine fin_I rfl rfl (chk_end hi (by omega)); done)
    | (refine ⟨k + 1, chk_next hi (by omega) (by assumption) (by assumption) (fun h => by first | (rw [← e1 h]; assumption) | omega), by omega, (by refine ⟨?_, ?_, ?_⟩ <;> repeat' (first | exact trivial | apply And.intro | apply Eq.refl))⟩; done)
end Go.Proofs.YtafnhieaeejlcaaDoor


namespace Go.Proofs.YtafnhieaeejlcaaDoor
open Go Go.Ab
set_option maxRecDepth 100000
set_option maxHeartbeats 4000000
attribute [local irreducible] W WL QOp NOp thenQ blockQ FinQ FinR WG FQ Want FinW WI WIL thenI blockI
theorem c66 (a b c : Int) : Contract seat 66 [.int .i64 a, .int .i64 b, .int .i64 c] (.bool (decide (b ≤ a ∧ a ≤ c))) := by
  refine contract_intro (fn := Tryd.f66) Tryd.func66 rfl (by kernel_rfl) rfl ?_ ?_ ?_
  · repeat' first | exact PureL.nil | refine PureL.cons (.int _ _) ?_
  · exact .bool _
  intro w κ
  repeat' (first
    | (apply WL_q; apply Eq.refl; apply Eq.refl; (first | (apply q_mvI <;> apply Eq.refl) | (apply q_cmp <;> apply Eq.refl) | (apply q_mvB <;> apply Eq.refl) | (apply q_asB <;> apply Eq.refl) | (apply q_pkT <;> apply Eq.refl) | (apply q_pkF <;> apply Eq.refl)))
    | apply W_seq
    | apply W_region
    | apply T_normal
    | apply WL_nil
    | apply W_ret
    | (apply WL_yes; apply Eq.refl; apply Eq.refl; apply Eq.refl)
    | (apply WL_no; apply Eq.refl; apply Eq.refl; apply Eq.refl; apply Eq.refl; apply Eq.refl)
    | (apply L_tD; apply Eq.refl; apply Eq.refl; apply Eq.refl; intro _; rotate_left 1; intro _; rotate_left 1))
  all_goals (refine fin_B rfl rfl ?_; simp; try omega)

theorem c108 (c : Convoy) (t : Truck) (h : Hold) (h0 : -2305843009213693952 ≤ h.a) (h1 : h.a ≤ 2305843009213693952) (h2 : -2305843009213693952 ≤ c.len) (h3 : c.len ≤ 2305843009213693952) :
    Contract seat 108 [.agg (encConvoy c), .agg (encTruck t), .agg (encHold h)] (.int .i64 (alongI t.way c.len h.a)) := by
  refine contract_intro (fn := Tryd.f108) Tryd.func108 rfl (by kernel_rfl) rfl ?_ ?_ ?_
  · exact PureL.cons (.agg _ (pure_convoy c)) (PureL.cons (.agg _ (pure_truck t)) (PureL.cons (.agg _ (pure_hold h)) PureL.nil))
  · exact .int _ _
  intro w κ
  repeat' (first
    | (apply WL_q; apply Eq.refl; apply Eq.refl; (first | (apply q_asI <;> apply Eq.refl) | (apply q_ldb <;> apply Eq.refl) | (apply q_fab <;> apply Eq.refl) | (apply q_cmp <;> apply Eq.refl) | (apply q_arith <;> (first | apply Eq.refl | omega))))
    | apply W_seq
    | apply W_region
    | apply T_normal
    | apply WL_nil
    | apply T_ret
    | apply W_skip
    | apply W_ret
    | (apply WL_n; apply Eq.refl; (first | (apply n_boxa <;> apply Eq.refl)))
    | (apply W_cD; apply Eq.refl; intro _; rotate_left 1; intro _; rotate_left 1))
  all_goals (refine fin_I rfl rfl ?_; simp_all [alongI])

theorem c67 (c : Convoy) (t : Truck) (hl : 1 ≤ c.len) (hl2 : c.len ≤ 100000) : Contract seat 67 [.agg (encConvoy c), .agg (encTruck t)] (.int .i64 (chkTruck c t)) := by
  refine contract_intro (fn := Tryd.f67) Tryd.func67 rfl (by kernel_rfl) rfl ?_ ?_ ?_
  · exact PureL.cons (.agg _ (pure_convoy c)) (PureL.cons (.agg _ (pure_truck t)) PureL.nil)
  · exact .int _ _
  intro w κ
  repeat' (first
    | (apply WL_q; apply Eq.refl; apply Eq.refl; (first | (apply q_mvI <;> apply Eq.refl) | (apply q_asI <;> apply Eq.refl) | (apply q_ldb <;> apply Eq.refl) | (apply q_fab <;> apply Eq.refl) | (apply q_cmp <;> apply Eq.refl) | (apply q_mvB <;> apply Eq.refl) | (apply q_asB <;> apply Eq.refl) | (apply q_not <;> apply Eq.refl) | (apply q_arith <;> (first | apply Eq.refl | omega)) | (apply q_len <;> apply Eq.refl) | (apply q_pkT <;> apply Eq.refl) | (apply q_pkF <;> apply Eq.refl) | (apply q_ia <;> (first | apply Eq.refl | omega)) | (apply q_ldba <;> apply Eq.refl) | (apply q_ldra <;> apply Eq.refl)))
    | apply W_seq
    | apply W_region
    | apply T_normal
    | apply WL_nil
    | apply T_exit
    | apply T_ret
    | apply B_normal
    | apply B_ret
    | apply B_exit_eq
    | apply W_skip
    | apply W_exit
    | apply W_ret
    | apply W_block
    | (apply W_condT; apply Eq.refl)
    | (apply W_condF; apply Eq.refl)
    | (apply WL_call; apply Eq.refl; apply Eq.refl; rotate_left 1; apply Eq.refl; rotate_right 1; exact (c66 _ _ _); apply Eq.refl)
    | (apply WL_n; apply Eq.refl; (first | (apply n_boxa <;> apply Eq.refl) | (apply n_alloc <;> apply Eq.refl) | (apply n_stb <;> apply Eq.refl)))
    | (apply WL_yes; apply Eq.refl; apply Eq.refl; apply Eq.refl)
    | (apply WL_no; apply Eq.refl; apply Eq.refl; apply Eq.refl; apply Eq.refl; apply Eq.refl)
    | (apply L_tND; apply Eq.refl; apply Eq.refl; apply Eq.refl; intro _; rotate_left 1; intro _; rotate_left 1)
    | apply W_regionG
    | (apply WG_nil; kernel_rfl)
    | (apply WG_q; (first | (apply want_none; apply Eq.refl) | (apply want_some; apply Eq.refl; apply Eq.refl; apply Eq.refl)); apply Eq.refl; first | (apply fq_bld <;> apply Eq.refl) | (apply fq_blda <;> apply Eq.refl) | (apply fq_fn; apply Eq.refl) | (apply fq_mf; apply Eq.refl) | (apply FQ_intro; intro _; (first | (apply q_mvI <;> apply Eq.refl) | (apply q_asI <;> apply Eq.refl) | (apply q_ldb <;> apply Eq.refl) | (apply q_fab <;> apply Eq.refl) | (apply q_cmp <;> apply Eq.refl) | (apply q_mvB <;> apply Eq.refl) | (apply q_asB <;> apply Eq.refl) | (apply q_not <;> apply Eq.refl) | (apply q_arith <;> (first | apply Eq.refl | omega)) | (apply q_len <;> apply Eq.refl) | (apply q_pkT <;> apply Eq.refl) | (apply q_pkF <;> apply Eq.refl) | (apply q_ia <;> (first | apply Eq.refl | omega)) | (apply q_ldba <;> apply Eq.refl) | (apply q_ldra <;> apply Eq.refl))))
    | (apply WG_call; (first | (apply want_none; apply Eq.refl) | (apply want_some; apply Eq.refl; apply Eq.refl; apply Eq.refl)); apply Eq.refl; apply Eq.refl; apply Eq.refl; exact (c66 _ _ _))
    | (apply WG_no; apply Eq.refl; apply Eq.refl; apply Eq.refl; apply Eq.refl; apply Eq.refl)
    | (apply G_tD; apply Eq.refl; apply Eq.refl; apply Eq.refl; intro _; rotate_left 1; intro _; rotate_left 1)
    | (apply W_cD; apply Eq.refl; intro _; rotate_left 1; intro _; rotate_left 1)
    | (apply W_cND; apply Eq.refl; intro _; rotate_left 1; intro _; rotate_left 1))
  all_goals try (refine fin_I rfl rfl ?_; simp [chkTruck]; omega)
  all_goals
    have hspec : chkTruck c t = chkHolds t.way c.len none t.holds := by simp [chkTruck]; omega
    rw [hspec]
    clear hspec
    refine W_loopM (α := Nat) (fun k => [(2, .bx 2 1 0), (3, .bx 3 1 0), (5, .int .i64 k)]) (fun _ => [(2, 1), (3, 1)])
      (fun _ => [(2, .box (encConvoy c)), (3, .box (encTruck t))]) (chkInv t.way c.len t.holds) (fun k => t.holds.length - k) 0 (chkInv_zero _ _ _) (by refine ⟨?_, ?_, ?_⟩ <;> repeat' (first | exact trivial | apply And.intro | apply Eq.refl)) (fun k h hi => ?_)
    have hk := hi.1
    have hp := hi.2.2
    have e1 : 0 < k → ((k : Int) - 1).toNat = k - 1 := fun h => by omega
    have hp' : 0 < k → 1 ≤ (t.holds.getD ((k : Int) - 1).toNat default).a ∧ (t.holds.getD ((k : Int) - 1).toNat default).a ≤ c.len - 1 := fun h => by rw [e1 h]; exact hp h
    repeat' (first
    | (apply WL_q; apply Eq.refl; apply Eq.refl; (first | (apply q_mvI <;> apply Eq.refl) | (apply q_asI <;> apply Eq.refl) | (apply q_ldb <;> apply Eq.refl) | (apply q_fab <;> apply Eq.refl) | (apply q_cmp <;> apply Eq.refl) | (apply q_mvB <;> apply Eq.refl) | (apply q_asB <;> apply Eq.refl) | (apply q_not <;> apply Eq.refl) | (apply q_arith <;> (first | apply Eq.refl | omega)) | (apply q_len <;> apply Eq.refl) | (apply q_pkT <;> apply Eq.refl) | (apply q_pkF <;> apply Eq.refl) | (apply q_ia <;> (first | apply Eq.refl | omega)) | (apply q_ldba <;> apply Eq.refl) | (apply q_ldra <;> apply Eq.refl)))
    | apply W_seq
    | apply W_region
    | apply T_normal
    | apply WL_nil
    | apply T_exit
    | apply T_ret
    | apply B_normal
    | apply B_ret
    | apply B_exit_eq
    | apply W_skip
    | apply W_exit
    | apply W_ret
    | apply W_block
    | (apply W_condT; apply Eq.refl)
    | (apply W_condF; apply Eq.refl)
    | (apply WL_call; apply Eq.refl; apply Eq.refl; rotate_left 1; apply Eq.refl; rotate_right 1; exact (c66 _ _ _); apply Eq.refl)
    | (apply WL_call; apply Eq.refl; apply Eq.refl; rotate_left 1; apply Eq.refl; rotate_right 1; exact (c108 c t (t.holds.getD (k : Int).toNat default) (by omega) (by omega) (by omega) (by omega)); apply Eq.refl)
    | (apply WL_call; apply Eq.refl; apply Eq.refl; rotate_left 1; apply Eq.refl; rotate_right 1; exact (c108 c t (t.holds.getD ((k : Int) - 1).toNat default) (by omega) (by omega) (by omega) (by omega)); apply Eq.refl)
    | (apply WL_n; apply Eq.refl; (first | (apply n_boxa <;> apply Eq.refl) | (apply n_alloc <;> apply Eq.refl) | (apply n_stb <;> apply Eq.refl)))
    | (apply WL_yes; apply Eq.refl; apply Eq.refl; apply Eq.refl)
    | (apply WL_no; apply Eq.refl; apply Eq.refl; apply Eq.refl; apply Eq.refl; apply Eq.refl)
    | (apply L_tND; apply Eq.refl; apply Eq.refl; apply Eq.refl; intro _; rotate_left 1; intro _; rotate_left 1)
    | apply W_regionG
    | (apply WG_nil; kernel_rfl)
    | (apply WG_q; (first | (apply want_none; apply Eq.refl) | (apply want_some; apply Eq.refl; apply Eq.refl; apply Eq.refl)); apply Eq.refl; first | (apply fq_bld <;> apply Eq.refl) | (apply fq_blda <;> apply Eq.refl) | (apply fq_fn; apply Eq.refl) | (apply fq_mf; apply Eq.refl) | (apply FQ_intro; intro _; (first | (apply q_mvI <;> apply Eq.refl) | (apply q_asI <;> apply Eq.refl) | (apply q_ldb <;> apply Eq.refl) | (apply q_fab <;> apply Eq.refl) | (apply q_cmp <;> apply Eq.refl) | (apply q_mvB <;> apply Eq.refl) | (apply q_asB <;> apply Eq.refl) | (apply q_not <;> apply Eq.refl) | (apply q_arith <;> (first | apply Eq.refl | omega)) | (apply q_len <;> apply Eq.refl) | (apply q_pkT <;> apply Eq.refl) | (apply q_pkF <;> apply Eq.refl) | (apply q_ia <;> (first | apply Eq.refl | omega)) | (apply q_ldba <;> apply Eq.refl) | (apply q_ldra <;> apply Eq.refl))))
    | (apply WG_call; (first | (apply want_none; apply Eq.refl) | (apply want_some; apply Eq.refl; apply Eq.refl; apply Eq.refl)); apply Eq.refl; apply Eq.refl; apply Eq.refl; exact (c66 _ _ _))
    | (apply WG_call; (first | (apply want_none; apply Eq.refl) | (apply want_some; apply Eq.refl; apply Eq.refl; apply Eq.refl)); apply Eq.refl; apply Eq.refl; apply Eq.refl; exact (c108 c t (t.holds.getD (k : Int).toNat default) (by omega) (by omega) (by omega) (by omega)))
    | (apply WG_call; (first | (apply want_none; apply Eq.refl) | (apply want_some; apply Eq.refl; apply Eq.refl; apply Eq.refl)); apply Eq.refl; apply Eq.refl; apply Eq.refl; exact (c108 c t (t.holds.getD ((k : Int) - 1).toNat default) (by omega) (by omega) (by omega) (by omega)))
    | (apply WG_no; apply Eq.refl; apply Eq.refl; apply Eq.refl; apply Eq.refl; apply Eq.refl)
    | (apply G_tD; apply Eq.refl; apply Eq.refl; apply Eq.refl; intro _; rotate_left 1; intro _; rotate_left 1)
    | (apply W_cD; apply Eq.refl; intro _; rotate_left 1; intro _; rotate_left 1)
    | (apply W_cND; apply Eq.refl; intro _; rotate_left 1; intro _; rotate_left 1))
    all_goals try simp only [Int.toNat_natCast] at *
    all_goals first
      | (refine fin_I rfl rfl (chk_2 hi (by omega) (by first | (left; assumption) | (right; assumption))); done)
      | (refine fin_I rfl rfl (chk_11 hi (by omega) (by assumption) (by assumption) (by omega) (by rw [← e1 (by omega)]; assumption)); done)
      | (refine fin_I rfl rfl (chk_end hi (by omega)); done)
      | (refine ⟨k + 1, chk_next hi (by omega) (by assumption) (by assumption) (fun h => by first | (rw [← e1 h]; assumption) | omega), by omega, (by refine ⟨?_, ?_, ?_⟩ <;> repeat' (first | exact trivial | apply And.intro | apply Eq.refl))⟩; done)
      | skip

def chkTrucks (c : Convoy) : List Truck → Int
  | [] => 0
  | t :: ts => if chkTruck c t ≠ 0 then chkTruck c t else chkTrucks c ts
def chkConvoy (c : Convoy) : Int :=
  if ¬ (1 ≤ c.len ∧ c.len ≤ 100000) ∨ ¬ (1 ≤ c.gap ∧ c.gap ≤ 100000) ∨ ¬ (0 ≤ c.fails ∧ c.fails ≤ 20) then 2
  else if c.trucks.length > 20 then 8
  else chkTrucks c c.trucks
def ckInv (c : Convoy) (k : Nat) : Prop := k ≤ c.trucks.length ∧ chkTrucks c (c.trucks.drop k) = chkTrucks c c.trucks
theorem ck_end {c : Convoy} {k : Nat} (hi : ckInv c k) (h : ¬ k < c.trucks.length) : 0 = chkTrucks c c.trucks := by
  rw [← hi.2, List.drop_eq_nil_of_le (by omega)]; rfl
theorem ck_err {c : Convoy} {k : Nat} (hi : ckInv c k) (h : k < c.trucks.length) (he : chkTruck c (c.trucks.getD k default) ≠ 0) : chkTruck c (c.trucks.getD k default) = chkTrucks c c.trucks := by
  rw [← hi.2, drop_getD _ _ h, chkTrucks, if_pos he]
theorem ck_next {c : Convoy} {k : Nat} (hi : ckInv c k) (h : k < c.trucks.length) (he : chkTruck c (c.trucks.getD k default) = 0) : ckInv c (k + 1) :=
  ⟨h, by rw [← hi.2, drop_getD _ _ h, chkTrucks, if_neg (fun h => h he)]⟩

theorem c21 (c : Convoy) : Contract seat 21 [.agg (encConvoy c)] (.int .i64 (chkConvoy c)) := by
  refine contract_intro (fn := Tryd.f21) Tryd.func21 rfl (by kernel_rfl) rfl ?_ ?_ ?_
  · exact PureL.cons (.agg _ (pure_convoy c)) PureL.nil
  · exact .int _ _
  intro w κ
  repeat' (first
    | (apply WL_q; apply Eq.refl; apply Eq.refl; (first | (apply q_mvI <;> apply Eq.refl) | (apply q_asI <;> apply Eq.refl) | (apply q_ldb <;> apply Eq.refl) | (apply q_fab <;> apply Eq.refl) | (apply q_cmp <;> apply Eq.refl) | (apply q_mvB <;> apply Eq.refl) | (apply q_asB <;> apply Eq.refl) | (apply q_not <;> apply Eq.refl) | (apply q_arith <;> (first | apply Eq.refl | omega)) | (apply q_len <;> apply Eq.refl) | (apply q_pkT <;> apply Eq.refl) | (apply q_pkF <;> apply Eq.refl) | (apply q_ia <;> (first | apply Eq.refl | omega)) | (apply q_ldba <;> apply Eq.refl) | (apply q_ldra <;> apply Eq.refl)))
    | apply W_seq
    | apply W_region
    | apply T_normal
    | apply WL_nil
    | apply T_exit
    | apply T_ret
    | apply B_normal
    | apply B_ret
    | apply B_exit_eq
    | apply W_skip
    | apply W_exit
    | apply W_ret
    | apply W_block
    | (apply W_condT; apply Eq.refl)
    | (apply WL_call; apply Eq.refl; apply Eq.refl; rotate_left 1; apply Eq.refl; rotate_right 1; exact (c64 _ _ _); apply Eq.refl)
    | (apply WL_n; apply Eq.refl; (first | (apply n_boxa <;> apply Eq.refl) | (apply n_alloc <;> apply Eq.refl) | (apply n_stb <;> apply Eq.refl)))
    | (apply WL_yes; apply Eq.refl; apply Eq.refl; apply Eq.refl)
    | (apply WL_no; apply Eq.refl; apply Eq.refl; apply Eq.refl; apply Eq.refl; apply Eq.refl)
    | (apply L_tND; apply Eq.refl; apply Eq.refl; apply Eq.refl; intro _; rotate_left 1; intro _; rotate_left 1)
    | (apply W_cD; apply Eq.refl; intro _; rotate_left 1; intro _; rotate_left 1)
    | (apply W_cND; apply Eq.refl; intro _; rotate_left 1; intro _; rotate_left 1))
  all_goals try (refine fin_I rfl rfl ?_; simp [chkConvoy]; omega)
  all_goals
    have hspec : chkConvoy c = chkTrucks c c.trucks := by simp [chkConvoy]; omega
    rw [hspec]
    clear hspec
    refine W_loopM (α := Nat) (fun k => [(1, .bx 1 1 0), (29, slOf 5 encTruck c.trucks), (30, .int .i64 c.trucks.length), (31, .int .i64 k)]) (fun _ => [(1, 1)])
      (fun _ => [(1, .box (encConvoy c))]) (ckInv c) (fun k => c.trucks.length - k) 0 ⟨Nat.zero_le _, rfl⟩ (by refine ⟨?_, ?_, ?_⟩ <;> repeat' (first | exact trivial | apply And.intro | apply Eq.refl)) (fun k h hi => ?_)
    have hk := hi.1
    repeat' (first
    | (apply WL_q; apply Eq.refl; apply Eq.refl; (first | (apply q_mvI <;> apply Eq.refl) | (apply q_asI <;> apply Eq.refl) | (apply q_ldb <;> apply Eq.refl) | (apply q_fab <;> apply Eq.refl) | (apply q_cmp <;> apply Eq.refl) | (apply q_mvB <;> apply Eq.refl) | (apply q_asB <;> apply Eq.refl) | (apply q_not <;> apply Eq.refl) | (apply q_arith <;> (first | apply Eq.refl | omega)) | (apply q_len <;> apply Eq.refl) | (apply q_pkT <;> apply Eq.refl) | (apply q_pkF <;> apply Eq.refl) | (apply q_ia <;> (first | apply Eq.refl | omega)) | (apply q_ldba <;> apply Eq.refl) | (apply q_ldra <;> apply Eq.refl)))
    | apply W_seq
    | apply W_region
    | apply T_normal
    | apply WL_nil
    | apply T_exit
    | apply T_ret
    | apply B_normal
    | apply B_ret
    | apply B_exit_eq
    | apply W_skip
    | apply W_exit
    | apply W_ret
    | apply W_block
    | (apply W_condT; apply Eq.refl)
    | (apply WL_call; apply Eq.refl; apply Eq.refl; rotate_left 1; apply Eq.refl; rotate_right 1; exact (c65 c (c.trucks.getD k default) (by omega) (by omega)); apply Eq.refl)
    | (apply WL_n; apply Eq.refl; (first | (apply n_boxa <;> apply Eq.refl) | (apply n_alloc <;> apply Eq.refl) | (apply n_stb <;> apply Eq.refl)))
    | (apply WL_yes; apply Eq.refl; apply Eq.refl; apply Eq.refl)
    | (apply WL_no; apply Eq.refl; apply Eq.refl; apply Eq.refl; apply Eq.refl; apply Eq.refl)
    | (apply L_tND; apply Eq.refl; apply Eq.refl; apply Eq.refl; intro _; rotate_left 1; intro _; rotate_left 1)
    | (apply W_cD; apply Eq.refl; intro _; rotate_left 1; intro _; rotate_left 1)
    | (apply W_cND; apply Eq.refl; intro _; rotate_left 1; intro _; rotate_left 1))
    all_goals first
      | (refine fin_I rfl rfl (ck_err hi (by omega) (by assumption)); done)
      | (refine fin_I rfl rfl (ck_end hi (by omega)); done)
      | (refine ⟨k + 1, ck_next hi (by omega) (by assumption), by omega, (by refine ⟨?_, ?_, ?_⟩ <;> repeat' (first | exact trivial | apply And.intro | apply Eq.refl))⟩; done)
      | skip

theorem c22 (c : Convoy) : Contract seat 22 [.agg (encConvoy c)] (.int .i64 (chkConvoy c)) := by
  refine contract_intro (fn := Tryd.f22) Tryd.func22 rfl (by kernel_rfl) rfl ?_ ?_ ?_
  · exact PureL.cons (.agg _ (pure_convoy c)) PureL.nil
  · exact .int _ _
  intro w κ
  repeat' (first
    | (apply WL_q; apply Eq.refl; apply Eq.refl; (first | (apply q_mvI <;> apply Eq.refl) | (apply q_asI <;> apply Eq.refl) | (apply q_ldb <;> apply Eq.refl) | (apply q_fab <;> apply Eq.refl) | (apply q_cmp <;> apply Eq.refl) | (apply q_mvB <;> apply Eq.refl) | (apply q_not <;> apply Eq.refl) | (apply q_arith <;> (first | apply Eq.refl | omega)) | (apply q_len <;> apply Eq.refl) | (apply q_pkT <;> apply Eq.refl) | (apply q_pkF <;> apply Eq.refl) | (apply q_ia <;> (first | apply Eq.refl | omega)) | (apply q_ldba <;> apply Eq.refl) | (apply q_ldra <;> apply Eq.refl)))
    | apply W_seq
    | apply W_region
    | apply T_normal
    | apply WL_nil
    | apply T_exit
    | apply T_ret
    | apply B_normal
    | apply B_ret
    | apply B_exit_eq
    | apply W_skip
    | apply W_exit
    | apply W_ret
    | apply W_block
    | (apply W_condT; apply Eq.refl)
    | (apply WL_call; apply Eq.refl; apply Eq.refl; rotate_left 1; apply Eq.refl; rotate_right 1; exact (c66 _ _ _); apply Eq.refl)
    | (apply WL_n; apply Eq.refl; (first | (apply n_boxa <;> apply Eq.refl)))
    | (apply WL_yes; apply Eq.refl; apply Eq.refl; apply Eq.refl)
    | (apply WL_no; apply Eq.refl; apply Eq.refl; apply Eq.refl; apply Eq.refl; apply Eq.refl)
    | (apply L_tND; apply Eq.refl; apply Eq.refl; apply Eq.refl; intro _; rotate_left 1; intro _; rotate_left 1)
    | apply W_regionG
    | (apply WG_nil; kernel_rfl)
    | (apply WG_q; (first | (apply want_none; apply Eq.refl) | (apply want_some; apply Eq.refl; apply Eq.refl; apply Eq.refl)); apply Eq.refl; first | (apply fq_bld <;> apply Eq.refl) | (apply fq_blda <;> apply Eq.refl) | (apply fq_fn; apply Eq.refl) | (apply fq_mf; apply Eq.refl) | (apply FQ_intro; intro _; (first | (apply q_mvI <;> apply Eq.refl) | (apply q_asI <;> apply Eq.refl) | (apply q_ldb <;> apply Eq.refl) | (apply q_fab <;> apply Eq.refl) | (apply q_cmp <;> apply Eq.refl) | (apply q_mvB <;> apply Eq.refl) | (apply q_not <;> apply Eq.refl) | (apply q_arith <;> (first | apply Eq.refl | omega)) | (apply q_len <;> apply Eq.refl) | (apply q_pkT <;> apply Eq.refl) | (apply q_pkF <;> apply Eq.refl) | (apply q_ia <;> (first | apply Eq.refl | omega)) | (apply q_ldba <;> apply Eq.refl) | (apply q_ldra <;> apply Eq.refl))))
    | (apply WG_call; (first | (apply want_none; apply Eq.refl) | (apply want_some; apply Eq.refl; apply Eq.refl; apply Eq.refl)); apply Eq.refl; apply Eq.refl; apply Eq.refl; exact (c66 _ _ _))
    | (apply W_cD; apply Eq.refl; intro _; rotate_left 1; intro _; rotate_left 1)
    | (apply W_cND; apply Eq.refl; intro _; rotate_left 1; intro _; rotate_left 1))
  all_goals try (refine fin_I rfl rfl ?_; simp [chkConvoy]; omega)
  all_goals
    have hspec : chkConvoy c = chkTrucks c c.trucks := by simp [chkConvoy]; omega
    rw [hspec]
    clear hspec
    refine W_loopM (α := Nat) (fun k => [(1, .bx 1 1 0), (3, .int .i64 k)]) (fun _ => [(1, 1)])
      (fun _ => [(1, .box (encConvoy c))]) (ckInv c) (fun k => c.trucks.length - k) 0 ⟨Nat.zero_le _, rfl⟩ (by refine ⟨?_, ?_, ?_⟩ <;> repeat' (first | exact trivial | apply And.intro | apply Eq.refl)) (fun k h hi => ?_)
    have hk := hi.1
    repeat' (first
    | (apply WL_q; apply Eq.refl; apply Eq.refl; (first | (apply q_mvI <;> apply Eq.refl) | (apply q_asI <;> apply Eq.refl) | (apply q_ldb <;> apply Eq.refl) | (apply q_fab <;> apply Eq.refl) | (apply q_cmp <;> apply Eq.refl) | (apply q_mvB <;> apply Eq.refl) | (apply q_not <;> apply Eq.refl) | (apply q_arith <;> (first | apply Eq.refl | omega)) | (apply q_len <;> apply Eq.refl) | (apply q_pkT <;> apply Eq.refl) | (apply q_pkF <;> apply Eq.refl) | (apply q_ia <;> (first | apply Eq.refl | omega)) | (apply q_ldba <;> apply Eq.refl) | (apply q_ldra <;> apply Eq.refl)))
    | apply W_seq
    | apply W_region
    | apply T_normal
    | apply WL_nil
    | apply T_exit
    | apply T_ret
    | apply B_normal
    | apply B_ret
    | apply B_exit_eq
    | apply W_skip
    | apply W_exit
    | apply W_ret
    | apply W_block
    | (apply W_condT; apply Eq.refl)
    | (apply WL_call; apply Eq.refl; apply Eq.refl; rotate_left 1; apply Eq.refl; rotate_right 1; exact (c67 c (c.trucks.getD k default) (by omega) (by omega)); apply Eq.refl)
    | (apply WL_n; apply Eq.refl; (first | (apply n_boxa <;> apply Eq.refl)))
    | (apply WL_yes; apply Eq.refl; apply Eq.refl; apply Eq.refl)
    | (apply WL_no; apply Eq.refl; apply Eq.refl; apply Eq.refl; apply Eq.refl; apply Eq.refl)
    | (apply L_tND; apply Eq.refl; apply Eq.refl; apply Eq.refl; intro _; rotate_left 1; intro _; rotate_left 1)
    | apply W_regionG
    | (apply WG_nil; kernel_rfl)
    | (apply WG_q; (first | (apply want_none; apply Eq.refl) | (apply want_some; apply Eq.refl; apply Eq.refl; apply Eq.refl)); apply Eq.refl; first | (apply fq_bld <;> apply Eq.refl) | (apply fq_blda <;> apply Eq.refl) | (apply fq_fn; apply Eq.refl) | (apply fq_mf; apply Eq.refl) | (apply FQ_intro; intro _; (first | (apply q_mvI <;> apply Eq.refl) | (apply q_asI <;> apply Eq.refl) | (apply q_ldb <;> apply Eq.refl) | (apply q_fab <;> apply Eq.refl) | (apply q_cmp <;> apply Eq.refl) | (apply q_mvB <;> apply Eq.refl) | (apply q_not <;> apply Eq.refl) | (apply q_arith <;> (first | apply Eq.refl | omega)) | (apply q_len <;> apply Eq.refl) | (apply q_pkT <;> apply Eq.refl) | (apply q_pkF <;> apply Eq.refl) | (apply q_ia <;> (first | apply Eq.refl | omega)) | (apply q_ldba <;> apply Eq.refl) | (apply q_ldra <;> apply Eq.refl))))
    | (apply WG_call; (first | (apply want_none; apply Eq.refl) | (apply want_some; apply Eq.refl; apply Eq.refl; apply Eq.refl)); apply Eq.refl; apply Eq.refl; apply Eq.refl; exact (c67 c (c.trucks.getD k default) (by omega) (by omega)))
    | (apply W_cD; apply Eq.refl; intro _; rotate_left 1; intro _; rotate_left 1)
    | (apply W_cND; apply Eq.refl; intro _; rotate_left 1; intro _; rotate_left 1))
    all_goals first
      | (refine fin_I rfl rfl (ck_err hi (by omega) (by assumption)); done)
      | (refine fin_I rfl rfl (ck_end hi (by omega)); done)
      | (refine ⟨k + 1, ck_next hi (by omega) (by assumption), by omega, (by refine ⟨?_, ?_, ?_⟩ <;> repeat' (first | exact trivial | apply And.intro | apply Eq.refl))⟩; done)
      | skip
end Go.Proofs.YtafnhieaeejlcaaDoor


namespace Go.Proofs.YtafnhieaeejlcaaDoor
open Go Go.Ab
set_option maxRecDepth 100000
set_option maxHeartbeats 4000000
attribute [local irreducible] W WL QOp NOp thenQ blockQ FinQ FinR WG FQ Want FinW WI WIL thenI blockI
/-- Each hold lies on the way. -/
def HOk (len : Int) (hs : List Hold) : Prop := hs.length ≤ 8 ∧ ∀ k, k < hs.length → 1 ≤ (hs.getD k default).a ∧ (hs.getD k default).a ≤ len - 1 ∧ 0 ≤ (hs.getD k default).u ∧ (hs.getD k default).u ≤ 10000
def stopR (way len : Int) (gone m : Int) : List Hold → Int
  | [] => len
  | h :: hs => if alongI way len h.a ≥ gone ∧ h.u > m then alongI way len h.a else stopR way len gone m hs
theorem stopR_end {way len gone m : Int} {hs : List Hold} {k : Nat} (hi : stopR way len gone m (hs.drop k) = stopR way len gone m hs) (h : ¬ k < hs.length) : len = stopR way len gone m hs := by
  rw [← hi, List.drop_eq_nil_of_le (by omega)]; rfl
theorem stopR_hit {way len gone m : Int} {hs : List Hold} {k : Nat} (hi : stopR way len gone m (hs.drop k) = stopR way len gone m hs) (h : k < hs.length) (h1 : alongI way len (hs.getD k default).a ≥ gone) (h2 : (hs.getD k default).u > m) :
    alongI way len (hs.getD k default).a = stopR way len gone m hs := by
  rw [← hi, drop_getD _ _ h, stopR, if_pos ⟨h1, h2⟩]
theorem stopR_next {way len gone m : Int} {hs : List Hold} {k : Nat} (hi : stopR way len gone m (hs.drop k) = stopR way len gone m hs) (h : k < hs.length) (h1 : ¬ (alongI way len (hs.getD k default).a ≥ gone ∧ (hs.getD k default).u > m)) :
    stopR way len gone m (hs.drop (k + 1)) = stopR way len gone m hs := by
  rw [← hi, drop_getD _ _ h, stopR, if_neg h1]

theorem c122 (c : Convoy) (t : Truck) (gone m : Int) (hl : 1 ≤ c.len) (hl2 : c.len ≤ 100000) (ho : HOk c.len t.holds) : Contract seat 122 [.agg (encConvoy c), .agg (encTruck t), .int .i64 gone, .int .i64 m] (.int .i64 (stopR t.way c.len gone m t.holds)) := by
  refine contract_intro (fn := Tryd.f122) Tryd.func122 rfl (by kernel_rfl) rfl ?_ ?_ ?_
  · exact PureL.cons (.agg _ (pure_convoy c)) (PureL.cons (.agg _ (pure_truck t)) (PureL.cons (.int _ _) (PureL.cons (.int _ _) PureL.nil)))
  · exact .int _ _
  intro w κ
  repeat' (first
    | (apply WL_q; apply Eq.refl; apply Eq.refl; (first | (apply q_mvI <;> apply Eq.refl) | (apply q_asI <;> apply Eq.refl) | (apply q_ldb <;> apply Eq.refl) | (apply q_fab <;> apply Eq.refl) | (apply q_cmp <;> apply Eq.refl) | (apply q_mvB <;> apply Eq.refl) | (apply q_ldr <;> apply Eq.refl) | (apply q_far <;> apply Eq.refl) | (apply q_arith <;> (first | apply Eq.refl | omega)) | (apply q_len <;> apply Eq.refl) | (apply q_pkT <;> apply Eq.refl) | (apply q_pkF <;> apply Eq.refl) | (apply q_ia <;> (first | apply Eq.refl | omega)) | (apply q_ldba <;> apply Eq.refl) | (apply q_ldra <;> apply Eq.refl)))
    | apply W_seq
    | apply W_region
    | apply T_normal
    | apply WL_nil
    | apply T_exit
    | apply T_ret
    | apply B_normal
    | apply B_ret
    | apply B_exit_eq
    | apply W_skip
    | apply W_exit
    | apply W_ret
    | apply W_block
    | (apply W_condF; apply Eq.refl)
    | (apply WL_n; apply Eq.refl; (first | (apply n_boxa <;> apply Eq.refl)))
    | apply W_regionG
    | (apply WG_nil; kernel_rfl)
    | (apply WG_q; (first | (apply want_none; apply Eq.refl) | (apply want_some; apply Eq.refl; apply Eq.refl; apply Eq.refl)); apply Eq.refl; first | (apply fq_bld <;> apply Eq.refl) | (apply fq_blda <;> apply Eq.refl) | (apply fq_fn; apply Eq.refl) | (apply fq_mf; apply Eq.refl) | (apply FQ_intro; intro _; (first | (apply q_mvI <;> apply Eq.refl) | (apply q_asI <;> apply Eq.refl) | (apply q_ldb <;> apply Eq.refl) | (apply q_fab <;> apply Eq.refl) | (apply q_cmp <;> apply Eq.refl) | (apply q_mvB <;> apply Eq.refl) | (apply q_ldr <;> apply Eq.refl) | (apply q_far <;> apply Eq.refl) | (apply q_arith <;> (first | apply Eq.refl | omega)) | (apply q_len <;> apply Eq.refl) | (apply q_pkT <;> apply Eq.refl) | (apply q_pkF <;> apply Eq.refl) | (apply q_ia <;> (first | apply Eq.refl | omega)) | (apply q_ldba <;> apply Eq.refl) | (apply q_ldra <;> apply Eq.refl))))
    | (apply WG_no; apply Eq.refl; apply Eq.refl; apply Eq.refl; apply Eq.refl; apply Eq.refl)
    | (apply G_tD; apply Eq.refl; apply Eq.refl; apply Eq.refl; intro _; rotate_left 1; intro _; rotate_left 1)
    | (apply W_cD; apply Eq.refl; intro _; rotate_left 1; intro _; rotate_left 1))
  refine W_loopM (α := Nat) (fun k => [(2, .int .i64 gone), (3, .int .i64 m), (4, .bx 4 1 0), (5, .bx 5 1 0), (9, .int .i64 k)]) (fun _ => [(4, 1), (5, 1)])
      (fun _ => [(4, .box (encConvoy c)), (5, .box (encTruck t))]) (fun k => k ≤ t.holds.length ∧ stopR t.way c.len gone m (t.holds.drop k) = stopR t.way c.len gone m t.holds) (fun k => t.holds.length - k) 0 ⟨Nat.zero_le _, rfl⟩ (by refine ⟨?_, ?_, ?_⟩ <;> repeat' (first | exact trivial | apply And.intro | apply Eq.refl)) (fun k h hi => ?_)
  have hk := hi.1
  have hl8 := ho.1
  have hb : ∀ hk' : (k : Int) < t.holds.length, 1 ≤ (t.holds.getD (k : Int).toNat default).a ∧ (t.holds.getD (k : Int).toNat default).a ≤ c.len - 1 := fun h => by
    have := ho.2 k (by omega); simp only [Int.toNat_natCast]; omega
  repeat' (first
    | (apply WL_q; apply Eq.refl; apply Eq.refl; (first | (apply q_mvI <;> apply Eq.refl) | (apply q_asI <;> apply Eq.refl) | (apply q_ldb <;> apply Eq.refl) | (apply q_fab <;> apply Eq.refl) | (apply q_cmp <;> apply Eq.refl) | (apply q_mvB <;> apply Eq.refl) | (apply q_ldr <;> apply Eq.refl) | (apply q_far <;> apply Eq.refl) | (apply q_arith <;> (first | apply Eq.refl | omega)) | (apply q_len <;> apply Eq.refl) | (apply q_pkT <;> apply Eq.refl) | (apply q_pkF <;> apply Eq.refl) | (apply q_ia <;> (first | apply Eq.refl | omega)) | (apply q_ldba <;> apply Eq.refl) | (apply q_ldra <;> apply Eq.refl)))
    | apply W_seq
    | apply W_region
    | apply T_normal
    | apply WL_nil
    | apply T_exit
    | apply T_ret
    | apply B_normal
    | apply B_ret
    | apply B_exit_eq
    | apply W_skip
    | apply W_exit
    | apply W_ret
    | apply W_block
    | (apply W_condF; apply Eq.refl)
    | (apply WL_n; apply Eq.refl; (first | (apply n_boxa <;> apply Eq.refl)))
    | apply W_regionG
    | (apply WG_nil; kernel_rfl)
    | (apply WG_q; (first | (apply want_none; apply Eq.refl) | (apply want_some; apply Eq.refl; apply Eq.refl; apply Eq.refl)); apply Eq.refl; first | (apply fq_bld <;> apply Eq.refl) | (apply fq_blda <;> apply Eq.refl) | (apply fq_fn; apply Eq.refl) | (apply fq_mf; apply Eq.refl) | (apply FQ_intro; intro _; (first | (apply q_mvI <;> apply Eq.refl) | (apply q_asI <;> apply Eq.refl) | (apply q_ldb <;> apply Eq.refl) | (apply q_fab <;> apply Eq.refl) | (apply q_cmp <;> apply Eq.refl) | (apply q_mvB <;> apply Eq.refl) | (apply q_ldr <;> apply Eq.refl) | (apply q_far <;> apply Eq.refl) | (apply q_arith <;> (first | apply Eq.refl | omega)) | (apply q_len <;> apply Eq.refl) | (apply q_pkT <;> apply Eq.refl) | (apply q_pkF <;> apply Eq.refl) | (apply q_ia <;> (first | apply Eq.refl | omega)) | (apply q_ldba <;> apply Eq.refl) | (apply q_ldra <;> apply Eq.refl))))
    | (apply WG_call; (first | (apply want_none; apply Eq.refl) | (apply want_some; apply Eq.refl; apply Eq.refl; apply Eq.refl)); apply Eq.refl; apply Eq.refl; apply Eq.refl; exact (c108 c t (t.holds.getD (k : Int).toNat default) (by have := hb (by assumption); omega) (by have := hb (by assumption); omega) (by omega) (by omega)))
    | (apply WG_no; apply Eq.refl; apply Eq.refl; apply Eq.refl; apply Eq.refl; apply Eq.refl)
    | (apply G_tD; apply Eq.refl; apply Eq.refl; apply Eq.refl; intro _; rotate_left 1; intro _; rotate_left 1)
    | (apply W_cD; apply Eq.refl; intro _; rotate_left 1; intro _; rotate_left 1))
  all_goals try simp only [Int.toNat_natCast] at *
  all_goals first
    | (refine fin_I rfl rfl (stopR_hit hi.2 (by omega) (by assumption) (by assumption)); done)
    | (refine fin_I rfl rfl (stopR_end hi.2 (by omega)); done)
    | (refine ⟨k + 1, ⟨by omega, stopR_next hi.2 (by omega) (by omega)⟩, by omega, (by refine ⟨?_, ?_, ?_⟩ <;> repeat' (first | exact trivial | apply And.intro | apply Eq.refl))⟩; done)
    | skip

def nextR (t : Truck) (len gone m pace : Int) : Int := min (gone + pace) (stopR t.way len gone m t.holds)
theorem c111 (c : Convoy) (t : Truck) (gone m pace : Int) (hl : 1 ≤ c.len) (hl2 : c.len ≤ 100000) (ho : HOk c.len t.holds) (h0 : 0 ≤ gone) (h1 : gone ≤ 100000) (h2 : 0 ≤ pace) (h3 : pace ≤ 100000) :
    Contract seat 111 [.agg (encConvoy c), .agg (encTruck t), .int .i64 gone, .int .i64 m, .int .i64 pace] (.int .i64 (nextR t c.len gone m pace)) := by
  refine contract_intro (fn := Tryd.f111) Tryd.func111 rfl (by kernel_rfl) rfl ?_ ?_ ?_
  · exact PureL.cons (.agg _ (pure_convoy c)) (PureL.cons (.agg _ (pure_truck t)) (PureL.cons (.int _ _) (PureL.cons (.int _ _) (PureL.cons (.int _ _) PureL.nil))))
  · exact .int _ _
  intro w κ
  repeat' (first
    | (apply WL_q; apply Eq.refl; apply Eq.refl; (first | (apply q_mvI <;> apply Eq.refl) | (apply q_asI <;> apply Eq.refl) | (apply q_arith <;> (first | apply Eq.refl | omega)) | (apply q_ldba <;> apply Eq.refl) | (apply q_min <;> apply Eq.refl)))
    | apply W_seq
    | apply W_region
    | apply T_normal
    | apply WL_nil
    | apply W_ret
    | (apply WL_call; apply Eq.refl; apply Eq.refl; rotate_left 1; apply Eq.refl; rotate_right 1; exact (c122 c t gone m hl hl2 ho); apply Eq.refl)
    | (apply WL_n; apply Eq.refl; (first | (apply n_boxa <;> apply Eq.refl))))
  all_goals (refine fin_I rfl rfl ?_; rfl)

def freeT (t : Truck) (b : Bool) : Truck := if b then { t with holds := [] } else t
theorem c73 (t : Truck) (b : Bool) : Contract seat 73 [.agg (encTruck t), .bool b] (.agg (encTruck (freeT t b))) := by
  refine contract_intro (fn := Tryd.f73) Tryd.func73 rfl (by kernel_rfl) rfl ?_ ?_ ?_
  · exact PureL.cons (.agg _ (pure_truck t)) (PureL.cons (.bool _) PureL.nil)
  · exact .agg _ (pure_truck _)
  intro w κ
  cases b
  · repeat' (first
    | (apply WL_q; apply Eq.refl; apply Eq.refl; (first | (apply q_fab <;> apply Eq.refl) | (apply q_mvB <;> apply Eq.refl) | (apply q_ldba <;> apply Eq.refl)))
    | apply W_seq
    | apply W_region
    | apply T_normal
    | apply WL_nil
    | apply W_skip
    | apply W_ret
    | (apply W_condT; apply Eq.refl)
    | (apply W_condF; apply Eq.refl)
    | (apply WL_n; apply Eq.refl; (first | (apply n_boxa <;> apply Eq.refl) | (apply n_alloc <;> apply Eq.refl) | (apply n_stb <;> apply Eq.refl))))
    all_goals (refine fin_A rfl rfl rfl rfl rfl rfl rfl rfl ?_; rfl)
  · repeat' (first
    | (refine W_wk (wk_nilbox 2 (l' := encTruck { t with holds := [] }) rfl ⟨.inl rfl, .inl rfl, .inl rfl, .inl rfl, .inr ⟨rfl, _, _, rfl⟩, trivial⟩) ?_)
    | (apply WL_q; apply Eq.refl; apply Eq.refl; (first | (apply q_fab <;> apply Eq.refl) | (apply q_mvB <;> apply Eq.refl) | (apply q_ldba <;> apply Eq.refl)))
    | apply W_seq
    | apply W_region
    | apply T_normal
    | apply WL_nil
    | apply W_skip
    | apply W_ret
    | (apply W_condT; apply Eq.refl)
    | (apply W_condF; apply Eq.refl)
    | (apply WL_n; apply Eq.refl; (first | (apply n_boxa <;> apply Eq.refl) | (apply n_alloc <;> apply Eq.refl) | (apply n_stb <;> apply Eq.refl))))
    all_goals (refine fin_A rfl rfl rfl rfl rfl rfl rfl rfl ?_; rfl)
end Go.Proofs.YtafnhieaeejlcaaDoor


namespace Go.Proofs.YtafnhieaeejlcaaDoor
open Go Go.Ab
set_option maxRecDepth 100000
set_option maxHeartbeats 4000000
attribute [local irreducible] W WL QOp NOp thenQ blockQ FinQ FinR WG FQ Want FinW WI WIL thenI blockI
def posR (t : Truck) (len pace : Int) : Nat → Int
  | 0 => 0
  | k + 1 => nextR t len (posR t len pace k) (t.start + k) pace
def hit (f : Nat → Int) (len : Int) : Nat → Nat → Nat
  | 0, k => k
  | n + 1, k => if f k = len then k else hit f len n (k + 1)
theorem hit_of {f : Nat → Int} {len : Int} {K : Nat} (hK : f K = len) : ∀ (n k : Nat), k ≤ K → K ≤ k + n → (∀ j, k ≤ j → j < hit f len n k → f j ≠ len) ∧ f (hit f len n k) = len ∧ k ≤ hit f len n k ∧ hit f len n k ≤ K := by
  intro n
  induction n with
  | zero =>
    intro k h1 h2
    have : k = K := by omega
    subst this
    exact ⟨fun j a b => by simp only [hit] at b; omega, hK, Nat.le_refl _, Nat.le_refl _⟩
  | succ n ih =>
    intro k h1 h2
    by_cases e : f k = len
    · simp only [hit, if_pos e]
      exact ⟨fun j a b => by omega, e, Nat.le_refl _, h1⟩
    · simp only [hit, if_neg e]
      have hne : k ≠ K := by intro h; subst h; exact e hK
      obtain ⟨a, b, c, d⟩ := ih (k + 1) (by omega) (by omega)
      refine ⟨fun j hj hj2 => ?_, b, by omega, d⟩
      by_cases ej : j = k
      · subst ej; exact e
      · exact a j (by omega) hj2

theorem stopR_ge {way len gone m : Int} {hs : List Hold} (h1 : 1 ≤ len) (h : ∀ h ∈ hs, 1 ≤ h.a ∧ h.a ≤ len - 1) : 1 ≤ stopR way len gone m hs ∧ stopR way len gone m hs ≤ len := by
  induction hs with
  | nil => simp only [stopR]; omega
  | cons x hs ih =>
    have hx := h x (List.mem_cons_self ..)
    have := ih fun y hy => h y (List.mem_cons_of_mem _ hy)
    simp only [stopR]
    split
    · simp only [alongI]; split <;> omega
    · exact this
theorem stopR_late {way len gone m : Int} {hs : List Hold} (h : ∀ h ∈ hs, h.u ≤ m) : stopR way len gone m hs = len := by
  induction hs with
  | nil => rfl
  | cons x hs ih =>
    have hx := h x (List.mem_cons_self ..)
    simp only [stopR]
    rw [if_neg (by omega)]
    exact ih fun y hy => h y (List.mem_cons_of_mem _ hy)
theorem mem_getD {α : Type} [Inhabited α] {l : List α} {x : α} (h : x ∈ l) : ∃ k, k < l.length ∧ l.getD k default = x := by
  obtain ⟨k, hk, e⟩ := List.getElem_of_mem h
  exact ⟨k, hk, by simp [List.getD, hk, e]⟩
theorem HOk.mem {len : Int} {hs : List Hold} (h : HOk len hs) : ∀ x ∈ hs, 1 ≤ x.a ∧ x.a ≤ len - 1 ∧ 0 ≤ x.u ∧ x.u ≤ 10000 := fun x hx => by
  obtain ⟨k, hk, e⟩ := mem_getD hx
  exact e ▸ h.2 k hk

section
variable {t : Truck} {len pace : Int}
theorem posR_le (hl : 1 ≤ len) (ho : HOk len t.holds) (hp : 1 ≤ pace) : ∀ k, 0 ≤ posR t len pace k ∧ posR t len pace k ≤ len
  | 0 => ⟨Int.le_refl 0, by simp only [posR]; omega⟩
  | k + 1 => by
    have h1 := posR_le hl ho hp k
    have h2 := stopR_ge (way := t.way) (gone := posR t len pace k) (m := t.start + k) hl fun x hx => ⟨(ho.mem x hx).1, (ho.mem x hx).2.1⟩
    simp only [posR, nextR]
    omega
theorem posR_late (hs : 0 ≤ t.start) (hl : 1 ≤ len) (ho : HOk len t.holds) (hp : 1 ≤ pace) : ∀ j : Nat, min ((j : Int) * pace) len ≤ posR t len pace (10000 + j)
  | 0 => by have := (posR_le hl ho hp 10000).1; simp only [Nat.add_zero]; omega
  | j + 1 => by
    have h1 := posR_late hs hl ho hp j
    have h2 := posR_le hl ho hp (10000 + j)
    show _ ≤ posR t len pace (10000 + j + 1)
    simp only [posR, nextR]
    rw [stopR_late fun x hx => by have := (ho.mem x hx).2.2.2; omega]
    have h3 : ((j + 1 : Nat) : Int) * pace = j * pace + pace := by push_cast; rw [Int.add_mul, Int.one_mul]
    rw [h3]
    omega
theorem posR_hit (hs : 0 ≤ t.start) (hl : 1 ≤ len) (ho : HOk len t.holds) (hp : 1 ≤ pace) (hd : len ≤ 1000 * pace) : posR t len pace 11000 = len := by
  have h1 := posR_late hs hl ho hp 1000
  have h2 := posR_le hl ho hp (10000 + 1000)
  have h3 : posR t len pace (10000 + 1000) = len := by omega
  exact h3
end
def hitR (t : Truck) (len pace : Int) : Nat := hit (posR t len pace) len 11000 0
def arrS (c : Convoy) (t : Truck) : Span := ⟨if hitR t c.len t.hi ≤ hitR t c.len t.lo then t.start + hitR t c.len t.hi else -1, t.start + hitR t c.len t.lo⟩
/-- What Check asks of a truck. -/
structure TOk (c : Convoy) (t : Truck) : Prop where
  l1 : 1 ≤ c.len
  l2 : c.len ≤ 100000
  s1 : 0 ≤ t.start
  s2 : t.start ≤ 10000
  p1 : 1 ≤ t.lo
  p2 : t.lo ≤ t.hi
  p3 : t.hi ≤ 1000
  d1 : c.len ≤ 1000 * t.lo
  ho : HOk c.len t.holds
theorem hitR_spec {c : Convoy} {t : Truck} (h : TOk c t) {pace : Int} (hp : t.lo ≤ pace) : posR t c.len pace (hitR t c.len pace) = c.len ∧ (∀ j, j < hitR t c.len pace → posR t c.len pace j ≠ c.len) ∧ hitR t c.len pace ≤ 11000 := by
  have h1 := h.p1
  have h2 := h.d1
  have h0 : posR t c.len pace 11000 = c.len := posR_hit h.s1 h.l1 h.ho (by omega) (by omega)
  obtain ⟨a, b, _, d⟩ := hit_of h0 11000 0 (Nat.zero_le _) (by omega)
  exact ⟨b, fun j hj => a j (Nat.zero_le _) hj, d⟩

/-- What has been found so far. -/
def loK (c : Convoy) (t : Truck) (k : Nat) : Int := if hitR t c.len t.hi < k then t.start + hitR t c.len t.hi else -1
def posP (t : Truck) (len pace : Int) (k : Nat) : Int := posR t len pace (k - 1)
theorem posP_eq (t : Truck) (len pace : Int) (k : Nat) : posP t len pace k = posR t len pace (k - 1) := rfl
theorem posP_zero (t : Truck) (len pace : Int) : posP t len pace 0 = 0 := rfl
theorem posP_next {t : Truck} {len pace : Int} {k : Nat} (h : 0 < k) : posP t len pace (k + 1) = nextR t len (posP t len pace k) (t.start + k - 1) pace := by
  obtain ⟨j, rfl⟩ : ∃ j, k = j + 1 := ⟨k - 1, by omega⟩
  show posR t len pace (j + 1) = nextR t len (posR t len pace j) _ pace
  rw [show t.start + ((j + 1 : Nat) : Int) - 1 = t.start + j by omega]; rfl
def arrInv (c : Convoy) (t : Truck) (x : Nat × Int) : Prop := (x.2 = -1 ∧ x.1 ≤ hitR t c.len t.lo) ∨ (x.1 = hitR t c.len t.lo + 1 ∧ x.2 = t.start + hitR t c.len t.lo)
theorem posP_succ (t : Truck) (len pace : Int) (k : Nat) : posP t len pace (k + 1) = posR t len pace k := rfl
theorem posP_01 (t : Truck) (len pace : Int) : posP t len pace 0 = posP t len pace (0 + 1) := rfl
theorem loK_eq (c : Convoy) (t : Truck) (k : Nat) : loK c t k = if hitR t c.len t.hi < k then t.start + hitR t c.len t.hi else -1 := rfl
theorem loK_end (c : Convoy) (t : Truck) : loK c t (hitR t c.len t.lo + 1) = (arrS c t).lo := by
  simp only [loK, arrS, Nat.lt_succ_iff]
theorem toB2 {x : Ab.Own} {k1 k2 : IntKind} {a b a' b' : Int} (h : x = .box [.int k1 a, .int k2 b]) (e1 : a = a') (e2 : b = b') : x = .box [.int k1 a', .int k2 b'] := by rw [h, e1, e2]
theorem loK_zero (c : Convoy) (t : Truck) : loK c t 0 = -1 := rfl
attribute [local irreducible] posP loK hitR posR nextR stopR
theorem c110 (c : Convoy) (t : Truck) (h : TOk c t) : Contract seat 110 [.agg (encConvoy c), .agg (encTruck t)] (.agg (encSpan (arrS c t))) := by
  refine contract_intro (fn := Tryd.f110) Tryd.func110 rfl (by kernel_rfl) rfl ?_ ?_ ?_
  · exact PureL.cons (.agg _ (pure_convoy c)) (PureL.cons (.agg _ (pure_truck t)) PureL.nil)
  · exact .agg _ (pure_span _)
  intro w κ
  obtain ⟨l1, l2, s1, s2, p1, p2, p3, d1, ho⟩ := h
  have h : TOk c t := ⟨l1, l2, s1, s2, p1, p2, p3, d1, ho⟩
  obtain ⟨e1, e2, e3⟩ := hitR_spec h (Int.le_refl t.lo)
  obtain ⟨f1, f2, f3⟩ := hitR_spec h p2
  have bnd := fun k => posR_le (t := t) (pace := t.lo) l1 ho p1 k
  have bnd2 := fun k => posR_le (t := t) (pace := t.hi) l1 ho (by omega) k
  repeat' (first
    | (apply WL_q; apply Eq.refl; apply Eq.refl; (first | (apply q_mvI <;> apply Eq.refl) | (apply q_asI <;> apply Eq.refl) | (apply q_ldb <;> apply Eq.refl) | (apply q_fab <;> apply Eq.refl) | (apply q_cmp <;> apply Eq.refl) | (apply q_mvB <;> apply Eq.refl) | (apply q_arith <;> (first | apply Eq.refl | omega)) | (apply q_pkT <;> apply Eq.refl) | (apply q_pkF <;> apply Eq.refl) | (apply q_ldba <;> apply Eq.refl) | (apply q_bld <;> apply Eq.refl)))
    | apply W_seq
    | apply W_region
    | apply T_normal
    | apply WL_nil
    | apply T_exit
    | apply B_normal
    | apply B_exit_eq
    | apply W_skip
    | apply W_exit
    | apply W_ret
    | apply W_block
    | (apply W_condF; apply Eq.refl)
    | (apply WL_n; apply Eq.refl; (first | (apply n_boxa <;> apply Eq.refl) | (apply n_alloc <;> apply Eq.refl) | (apply n_stb <;> apply Eq.refl)))
    | (apply WL_yes; apply Eq.refl; apply Eq.refl; apply Eq.refl)
    | (apply WL_no; apply Eq.refl; apply Eq.refl; apply Eq.refl; apply Eq.refl; apply Eq.refl)
    | (apply L_tD; apply Eq.refl; apply Eq.refl; apply Eq.refl; intro _; rotate_left 1; intro _; rotate_left 1)
    | apply W_regionG
    | (apply WG_nil; kernel_rfl)
    | (apply WG_q; (first | (apply want_none; apply Eq.refl) | (apply want_some; apply Eq.refl; apply Eq.refl; apply Eq.refl)); apply Eq.refl; first | (apply fq_bld <;> apply Eq.refl) | (apply fq_blda <;> apply Eq.refl) | (apply fq_fn; apply Eq.refl) | (apply fq_mf; apply Eq.refl) | (apply FQ_intro; intro _; (first | (apply q_mvI <;> apply Eq.refl) | (apply q_asI <;> apply Eq.refl) | (apply q_ldb <;> apply Eq.refl) | (apply q_fab <;> apply Eq.refl) | (apply q_cmp <;> apply Eq.refl) | (apply q_mvB <;> apply Eq.refl) | (apply q_arith <;> (first | apply Eq.refl | omega)) | (apply q_pkT <;> apply Eq.refl) | (apply q_pkF <;> apply Eq.refl) | (apply q_ldba <;> apply Eq.refl) | (apply q_bld <;> apply Eq.refl))))
    | (apply WG_n; (first | (apply want_none; apply Eq.refl) | (apply want_some; apply Eq.refl; apply Eq.refl; apply Eq.refl)); (first | (apply f_stb <;> apply Eq.refl)))
    | (apply W_cD; apply Eq.refl; intro _; rotate_left 1; intro _; rotate_left 1))
  refine W_loopM (α := Nat × Int) (fun x => [(2, .bx 2 1 0), (3, .bx 3 1 0), (4, .bx 4 1 0), (5, .bx 5 1 0), (6, .bx 6 1 0), (7, .int .i64 (t.start + x.1))]) (fun _ => [(2, 1), (3, 1), (4, 1), (5, 1), (6, 1)])
      (fun x => [(2, .box (encConvoy c)), (3, .box (encTruck t)), (4, .box [.int .i64 0, .int .i64 0]), (5, .box [.int .i64 (loK c t x.1), .int .i64 x.2]), (6, .box [.int .i64 (posP t c.len t.lo x.1), .int .i64 (posP t c.len t.hi x.1)])])
      (arrInv c t) (fun x => if x.2 < 0 then 20000 - x.1 else 0) (0, -1) (.inl ⟨rfl, Nat.zero_le _⟩) (by refine ⟨?_, ?_, ?_⟩ <;> repeat' (first | exact trivial | apply And.intro | apply Eq.refl | (refine toI rfl ?_; omega) | (refine toB rfl ?_; simp only [posP_zero, loK_zero]))) (fun x h hi => ?_)
  have hP1 : 0 ≤ posP t c.len t.lo x.1 ∧ posP t c.len t.lo x.1 ≤ c.len := by rw [posP_eq]; exact bnd _
  have hP2 : 0 ≤ posP t c.len t.hi x.1 ∧ posP t c.len t.hi x.1 ≤ c.len := by rw [posP_eq]; exact bnd2 _
  have hb : x.2 < 0 → x.2 = -1 ∧ x.1 ≤ hitR t c.len t.lo := fun h => by rcases hi with ⟨a, b⟩ | ⟨a, b⟩ <;> omega
  have hb2 : ¬ x.2 < 0 → x.1 = hitR t c.len t.lo + 1 ∧ x.2 = t.start + hitR t c.len t.lo := fun h => by rcases hi with ⟨a, b⟩ | ⟨a, b⟩ <;> omega
  have hk1 : x.1 ≤ 11001 := by rcases hi with ⟨a, b⟩ | ⟨a, b⟩ <;> omega
  have C1 : 0 < x.1 → Contract seat 111 [.agg (encConvoy c), .agg (encTruck t), .int .i64 (posP t c.len t.lo x.1), .int .i64 (t.start + x.1 - 1), .int .i64 t.lo] (.int .i64 (posP t c.len t.lo (x.1 + 1))) := fun h => by
    rw [posP_next h]; exact c111 c t _ _ _ l1 l2 ho (by omega) (by omega) (by omega) (by omega)
  have C2 : 0 < x.1 → Contract seat 111 [.agg (encConvoy c), .agg (encTruck t), .int .i64 (posP t c.len t.hi x.1), .int .i64 (t.start + x.1 - 1), .int .i64 t.hi] (.int .i64 (posP t c.len t.hi (x.1 + 1))) := fun h => by
    rw [posP_next h]; exact c111 c t _ _ _ l1 l2 ho (by omega) (by omega) (by omega) (by omega)
  have hlo : ∀ k, loK c t k = if hitR t c.len t.hi < k then t.start + hitR t c.len t.hi else -1 := fun k => by rw [loK_eq]
  have hlo0 := hlo x.1
  have hlo1 := hlo (x.1 + 1)
  have hZ : x.1 = 0 → posP t c.len t.lo x.1 = posP t c.len t.lo (x.1 + 1) ∧ posP t c.len t.hi x.1 = posP t c.len t.hi (x.1 + 1) := fun h => by rw [h]; exact ⟨posP_01 _ _ _, posP_01 _ _ _⟩
  have hn1 : x.1 < hitR t c.len t.lo → posP t c.len t.lo (x.1 + 1) ≠ c.len := fun h => by rw [posP_succ]; exact e2 _ h
  have hn2 : x.1 < hitR t c.len t.hi → posP t c.len t.hi (x.1 + 1) ≠ c.len := fun h => by rw [posP_succ]; exact f2 _ h
  have hq1 : x.1 = hitR t c.len t.lo → posP t c.len t.lo (x.1 + 1) = c.len := fun h => by rw [posP_succ, h]; exact e1
  have hq2 : x.1 = hitR t c.len t.hi → posP t c.len t.hi (x.1 + 1) = c.len := fun h => by rw [posP_succ, h]; exact f1
  have hA : posP t c.len t.hi (x.1 + 1) = c.len → loK c t x.1 < 0 → t.start + x.1 = loK c t (x.1 + 1) := fun h1 h2 => by split at hlo0 <;> split at hlo1 <;> omega
  have hB : posP t c.len t.hi (x.1 + 1) ≠ c.len → loK c t x.1 = loK c t (x.1 + 1) := fun h1 => by split at hlo0 <;> split at hlo1 <;> omega
  have hC : ¬ loK c t x.1 < 0 → loK c t x.1 = loK c t (x.1 + 1) := fun h1 => by split at hlo0 <;> split at hlo1 <;> omega
  have hE : x.2 < 0 → posP t c.len t.lo (x.1 + 1) = c.len → arrInv c t (x.1 + 1, t.start + x.1) ∧ (if t.start + (x.1 : Int) < 0 then 20000 - (x.1 + 1) else 0) < (if x.2 < 0 then 20000 - x.1 else 0) := fun h1 h2 => by
    have := hb h1
    have h3 : x.1 = hitR t c.len t.lo := by omega
    refine ⟨.inr ⟨by simp only; omega, by simp only; omega⟩, ?_⟩
    rw [if_neg (by omega), if_pos h1]; omega
  have hF : x.2 < 0 → posP t c.len t.lo (x.1 + 1) ≠ c.len → arrInv c t (x.1 + 1, x.2) ∧ (if x.2 < 0 then 20000 - (x.1 + 1) else 0) < (if x.2 < 0 then 20000 - x.1 else 0) := fun h1 h2 => by
    have := hb h1
    have h3 : x.1 < hitR t c.len t.lo := by omega
    refine ⟨.inl ⟨by simp only; omega, by simp only; omega⟩, ?_⟩
    rw [if_pos h1, if_pos h1]; omega
  clear hlo hlo0 hlo1 hn1 hn2 hq1 hq2
  repeat' (first
    | (apply WL_q; apply Eq.refl; apply Eq.refl; (first | (apply q_mvI <;> apply Eq.refl) | (apply q_asI <;> apply Eq.refl) | (apply q_ldb <;> apply Eq.refl) | (apply q_fab <;> apply Eq.refl) | (apply q_cmp <;> apply Eq.refl) | (apply q_mvB <;> apply Eq.refl) | (apply q_arith <;> (first | apply Eq.refl | omega)) | (apply q_pkT <;> apply Eq.refl) | (apply q_pkF <;> apply Eq.refl) | (apply q_ldba <;> apply Eq.refl) | (apply q_bld <;> apply Eq.refl)))
    | apply W_seq
    | apply W_region
    | apply T_normal
    | apply WL_nil
    | apply T_exit
    | apply B_normal
    | apply B_exit_eq
    | apply W_skip
    | apply W_exit
    | apply W_ret
    | apply W_block
    | (apply W_condF; apply Eq.refl)
    | (apply WL_n; apply Eq.refl; (first | (apply n_boxa <;> apply Eq.refl) | (apply n_alloc <;> apply Eq.refl) | (apply n_stb <;> apply Eq.refl)))
    | (apply WL_yes; apply Eq.refl; apply Eq.refl; apply Eq.refl)
    | (apply WL_no; apply Eq.refl; apply Eq.refl; apply Eq.refl; apply Eq.refl; apply Eq.refl)
    | (apply L_tD; apply Eq.refl; apply Eq.refl; apply Eq.refl; intro _; rotate_left 1; intro _; rotate_left 1)
    | apply W_regionG
    | (apply WG_nil; kernel_rfl)
    | (apply WG_q; (first | (apply want_none; apply Eq.refl) | (apply want_some; apply Eq.refl; apply Eq.refl; apply Eq.refl)); apply Eq.refl; first | (apply fq_bld <;> apply Eq.refl) | (apply fq_blda <;> apply Eq.refl) | (apply fq_fn; apply Eq.refl) | (apply fq_mf; apply Eq.refl) | (apply FQ_intro; intro _; (first | (apply q_mvI <;> apply Eq.refl) | (apply q_asI <;> apply Eq.refl) | (apply q_ldb <;> apply Eq.refl) | (apply q_fab <;> apply Eq.refl) | (apply q_cmp <;> apply Eq.refl) | (apply q_mvB <;> apply Eq.refl) | (apply q_arith <;> (first | apply Eq.refl | omega)) | (apply q_pkT <;> apply Eq.refl) | (apply q_pkF <;> apply Eq.refl) | (apply q_ldba <;> apply Eq.refl) | (apply q_bld <;> apply Eq.refl))))
    | (apply WG_call; (first | (apply want_none; apply Eq.refl) | (apply want_some; apply Eq.refl; apply Eq.refl; apply Eq.refl)); apply Eq.refl; apply Eq.refl; apply Eq.refl; exact (C1 (by omega)))
    | (apply WG_call; (first | (apply want_none; apply Eq.refl) | (apply want_some; apply Eq.refl; apply Eq.refl; apply Eq.refl)); apply Eq.refl; apply Eq.refl; apply Eq.refl; exact (C2 (by omega)))
    | (apply WG_n; (first | (apply want_none; apply Eq.refl) | (apply want_some; apply Eq.refl; apply Eq.refl; apply Eq.refl)); (first | (apply f_stb <;> apply Eq.refl)))
    | (apply W_cD; apply Eq.refl; intro _; rotate_left 1; intro _; rotate_left 1))
  all_goals first
    | (have G := hE (by assumption) (by first | assumption | (have := hZ (by omega); omega)); refine ⟨(x.1 + 1, t.start + x.1), G.1, G.2, ?_⟩; (refine ⟨?_, ?_, ?_⟩ <;> repeat' (first | exact trivial | apply And.intro | apply Eq.refl | (refine toI rfl ?_; omega) | (refine toB2 rfl ?_ ?_ <;> first | omega | exact hA (by first | assumption | (have := hZ (by omega); omega)) (by assumption) | exact hC (by assumption) | exact hB (by first | assumption | (have := hZ (by omega); omega)) | exact (hZ (by omega)).1 | exact (hZ (by omega)).2))); done)
    | (have G := hF (by assumption) (by first | assumption | (have := hZ (by omega); omega)); refine ⟨(x.1 + 1, x.2), G.1, G.2, ?_⟩; (refine ⟨?_, ?_, ?_⟩ <;> repeat' (first | exact trivial | apply And.intro | apply Eq.refl | (refine toI rfl ?_; omega) | (refine toB2 rfl ?_ ?_ <;> first | omega | exact hA (by first | assumption | (have := hZ (by omega); omega)) (by assumption) | exact hC (by assumption) | exact hB (by first | assumption | (have := hZ (by omega); omega)) | exact (hZ (by omega)).1 | exact (hZ (by omega)).2))); done)
    | skip
  all_goals (have G := hb2 (by assumption); refine fin_A rfl rfl rfl rfl rfl rfl rfl rfl ?_; rw [G.1, G.2, loK_end]; rfl)
end Go.Proofs.YtafnhieaeejlcaaDoor


namespace Go.Proofs.YtafnhieaeejlcaaDoor
open Go Go.Ab
set_option maxRecDepth 100000
set_option maxHeartbeats 4000000
attribute [local irreducible] W WL QOp NOp thenQ blockQ FinQ FinR WG FQ Want FinW WI WIL thenI blockI
/-- How many of the first k have to fail; none if one is too late though it fails. -/
def mayC (keep fail : Nat → Int) (m : Int) : Nat → Option Int
  | 0 => some 0
  | k + 1 => match mayC keep fail m k with
    | none => none
    | some c => if keep k ≤ m then some c else if fail k > m then none else some (c + 1)
def mayF (keep fail : Nat → Int) (n : Nat) (fails m : Int) : Bool := match mayC keep fail m n with | none => false | some c => decide (c ≤ fails)
theorem mayC_none {keep fail : Nat → Int} {m : Int} {k : Nat} (h : mayC keep fail m k = none) : ∀ n, k ≤ n → mayC keep fail m n = none := by
  intro n hn
  induction n with
  | zero => have : k = 0 := by omega
            subst this; exact h
  | succ n ih =>
    by_cases e : k = n + 1
    · subst e; exact h
    · simp only [mayC, ih (by omega)]
theorem mayC_keep {keep fail : Nat → Int} {m c : Int} {k : Nat} (h : mayC keep fail m k = some c) (h1 : keep k ≤ m) : mayC keep fail m (k + 1) = some c := by simp only [mayC, h, if_pos h1]
theorem mayC_fail {keep fail : Nat → Int} {m c : Int} {k : Nat} (h : mayC keep fail m k = some c) (h1 : ¬ keep k ≤ m) (h2 : ¬ fail k > m) : mayC keep fail m (k + 1) = some (c + 1) := by simp only [mayC, h, if_neg h1, if_neg h2]
theorem mayC_stop {keep fail : Nat → Int} {m c : Int} {k : Nat} (h : mayC keep fail m k = some c) (h1 : ¬ keep k ≤ m) (h2 : fail k > m) : mayC keep fail m (k + 1) = none := by simp only [mayC, h, if_neg h1, if_pos h2]
theorem mayF_no {keep fail : Nat → Int} {m c fails : Int} {k n : Nat} (h : mayC keep fail m k = some c) (h1 : ¬ keep k ≤ m) (h2 : fail k > m) (hk : k < n) : false = mayF keep fail n fails m := by
  simp only [mayF, mayC_none (mayC_stop h h1 h2) n hk]
theorem mayF_end {keep fail : Nat → Int} {m c fails : Int} {k n : Nat} (h : mayC keep fail m k = some c) (hk : k ≤ n) (h2 : ¬ k < n) : decide (c ≤ fails) = mayF keep fail n fails m := by
  have : k = n := by omega
  subst this; simp only [mayF, h]
theorem mayF_late {keep fail : Nat → Int} {m fails : Int} {n : Nat} (h : ∀ k, k < n → keep k ≤ m) (hf : 0 ≤ fails) : mayF keep fail n fails m = true := by
  have : ∀ k, k ≤ n → mayC keep fail m k = some 0 := by
    intro k
    induction k with
    | zero => intro _; rfl
    | succ k ih => intro hk; exact mayC_keep (ih (by omega)) (h k (by omega))
  simp only [mayF, this n (Nat.le_refl _)]; simpa using hf

def mayInv (keep fail : Nat → Int) (m : Int) (n : Nat) (x : Nat × Int) : Prop := x.1 ≤ n ∧ mayC keep fail m x.1 = some x.2 ∧ 0 ≤ x.2 ∧ x.2 ≤ x.1
theorem c118 (keep fail : Nat → Int) (n : Nat) (fails m : Int) (hn : n ≤ 1000) : Contract seat 118 [.sl 1 n (fun i => encI (keep i)), .sl 1 n (fun i => encI (fail i)), .int .i64 fails, .int .i64 m] (.bool (mayF keep fail n fails m)) := by
  refine contract_intro (fn := Tryd.f118) Tryd.func118 rfl (by kernel_rfl) rfl ?_ ?_ ?_
  · exact PureL.cons (.sl _ _ _ fun _ _ d hd => pure_I _ d hd) (PureL.cons (.sl _ _ _ fun _ _ d hd => pure_I _ d hd) (PureL.cons (.int _ _) (PureL.cons (.int _ _) PureL.nil)))
  · exact .bool _
  intro w κ
  repeat' (first
    | (apply WL_q; apply Eq.refl; apply Eq.refl; (first | (apply q_mvI <;> apply Eq.refl) | (apply q_asI <;> apply Eq.refl) | (apply q_cmp <;> apply Eq.refl) | (apply q_asB <;> apply Eq.refl) | (apply q_ldr <;> apply Eq.refl) | (apply q_arith <;> (first | apply Eq.refl | omega)) | (apply q_len <;> apply Eq.refl) | (apply q_ia <;> (first | apply Eq.refl | omega)) | (apply q_mvS <;> apply Eq.refl)))
    | apply W_seq
    | apply W_region
    | apply T_normal
    | apply WL_nil
    | apply T_exit
    | apply T_ret
    | apply B_normal
    | apply B_ret
    | apply B_exit_eq
    | apply W_skip
    | apply W_exit
    | apply W_ret
    | apply W_block
    | (apply W_cD; apply Eq.refl; intro _; rotate_left 1; intro _; rotate_left 1))
  refine W_loopM (α := Nat × Int) (fun x => [(0, .sl 1 n (fun i => encI (keep i))), (1, .sl 1 n (fun i => encI (fail i))), (2, .int .i64 fails), (3, .int .i64 m), (9, .int .i64 x.2), (10, .int .i64 x.1)]) (fun _ => [])
      (fun _ => []) (mayInv keep fail m n) (fun x => n - x.1) (0, 0) ⟨Nat.zero_le _, rfl, Int.le_refl _, Int.le_refl _⟩ (by refine ⟨?_, ?_, ?_⟩ <;> repeat' (first | exact trivial | apply And.intro | apply Eq.refl)) (fun x h hi => ?_)
  obtain ⟨i1, i2, i3, i4⟩ := hi
  repeat' (first
    | (apply WL_q; apply Eq.refl; apply Eq.refl; (first | (apply q_mvI <;> apply Eq.refl) | (apply q_asI <;> apply Eq.refl) | (apply q_cmp <;> apply Eq.refl) | (apply q_asB <;> apply Eq.refl) | (apply q_ldr <;> apply Eq.refl) | (apply q_arith <;> (first | apply Eq.refl | omega)) | (apply q_len <;> apply Eq.refl) | (apply q_ia <;> (first | apply Eq.refl | omega)) | (apply q_mvS <;> apply Eq.refl)))
    | apply W_seq
    | apply W_region
    | apply T_normal
    | apply WL_nil
    | apply T_exit
    | apply T_ret
    | apply B_normal
    | apply B_ret
    | apply B_exit_eq
    | apply W_skip
    | apply W_exit
    | apply W_ret
    | apply W_block
    | (apply W_cD; apply Eq.refl; intro _; rotate_left 1; intro _; rotate_left 1))
  all_goals try simp only [Int.toNat_natCast] at *
  all_goals first
    | (refine fin_B rfl rfl (mayF_no i2 (by assumption) (by assumption) (by omega)); done)
    | (refine fin_B rfl rfl (mayF_end i2 i1 (by omega)); done)
    | (refine ⟨(x.1 + 1, x.2), ⟨by simp only; omega, mayC_keep i2 (by assumption), i3, by simp only; omega⟩, by simp only; omega, (by refine ⟨?_, ?_, ?_⟩ <;> repeat' (first | exact trivial | apply And.intro | apply Eq.refl))⟩; done)
    | (refine ⟨(x.1 + 1, x.2 + 1), ⟨by simp only; omega, mayC_fail i2 (by assumption) (by assumption), by simp only; omega, by simp only; omega⟩, by simp only; omega, (by refine ⟨?_, ?_, ?_⟩ <;> repeat' (first | exact trivial | apply And.intro | apply Eq.refl))⟩; done)
    | skip
end Go.Proofs.YtafnhieaeejlcaaDoor


namespace Go.Proofs.YtafnhieaeejlcaaDoor
open Go Go.Ab
set_option maxRecDepth 100000
set_option maxHeartbeats 4000000
attribute [local irreducible] W WL QOp NOp thenQ blockQ FinQ FinR WG FQ Want FinW WI WIL thenI blockI
theorem chkHolds_ok {way len : Int} : ∀ {hs : List Hold} {p : Option Int}, chkHolds way len p hs = 0 → ∀ k, k < hs.length → 1 ≤ (hs.getD k default).a ∧ (hs.getD k default).a ≤ len - 1 ∧ 0 ≤ (hs.getD k default).u ∧ (hs.getD k default).u ≤ 10000
  | [], _, _, k, hk => by simp at hk
  | h :: hs, p, h0, k, hk => by
    rw [chkHolds_cons] at h0
    split at h0
    · cases h0
    · rename_i hb
      have hrest : ∃ p', chkHolds way len p' hs = 0 := by
        split at h0
        · split at h0
          · cases h0
          · exact ⟨_, h0⟩
        · exact ⟨_, h0⟩
      obtain ⟨p', hp'⟩ := hrest
      match k with
      | 0 => simp only [List.getD_cons_zero]; omega
      | k + 1 => simp only [List.getD_cons_succ]; exact chkHolds_ok hp' k (by simpa using hk)
theorem tok_of {c : Convoy} {t : Truck} (h1 : 1 ≤ c.len) (h2 : c.len ≤ 100000) (h : chkTruck c t = 0) : TOk c t := by
  unfold chkTruck at h
  split at h; · cases h
  split at h; · cases h
  split at h; · cases h
  split at h; · cases h
  split at h; · cases h
  split at h; · cases h
  exact ⟨h1, h2, by omega, by omega, by omega, by omega, by omega, by omega, by omega, chkHolds_ok h⟩
structure COk (c : Convoy) : Prop where
  l1 : 1 ≤ c.len
  l2 : c.len ≤ 100000
  g1 : 1 ≤ c.gap
  g2 : c.gap ≤ 100000
  f1 : 0 ≤ c.fails
  f2 : c.fails ≤ 20
  n : c.trucks.length ≤ 20
  t : ∀ k, k < c.trucks.length → TOk c (c.trucks.getD k default)
theorem chkTrucks_ok {c : Convoy} : ∀ {ts : List Truck}, chkTrucks c ts = 0 → ∀ t ∈ ts, chkTruck c t = 0
  | [], _, t, ht => by cases ht
  | x :: ts, h, t, ht => by
    unfold chkTrucks at h
    split at h
    · rename_i hn; exact absurd h hn
    · rename_i hn
      rcases List.mem_cons.1 ht with rfl | ht
      · exact Classical.not_not.1 hn
      · exact chkTrucks_ok h t ht
theorem cok_of {c : Convoy} (h : chkConvoy c = 0) : COk c := by
  unfold chkConvoy at h
  split at h; · cases h
  split at h; · cases h
  refine ⟨by omega, by omega, by omega, by omega, by omega, by omega, by omega, fun k hk => tok_of (by omega) (by omega) (chkTrucks_ok h _ ?_)⟩
  simp [List.getD, hk]
theorem TOk.free {c : Convoy} {t : Truck} (h : TOk c t) (b : Bool) : TOk c (freeT t b) := by
  cases b
  · exact h
  · exact ⟨h.l1, h.l2, h.s1, h.s2, h.p1, h.p2, h.p3, h.d1, Nat.zero_le _, fun k hk => by cases hk⟩

def keepF (c : Convoy) (k : Nat) : Int := (arrS c (c.trucks.getD k default)).lo
def failF (c : Convoy) (k : Nat) : Int := (arrS c (freeT (c.trucks.getD k default) true)).lo
def endF (c : Convoy) (k : Nat) : Int := (arrS c (c.trucks.getD k default)).hi
def maxUp (f : Nat → Int) : Nat → Int
  | 0 => 0
  | k + 1 => max (maxUp f k) (f k)
theorem arr_bnd {c : Convoy} {t : Truck} (h : TOk c t) : -1 ≤ (arrS c t).lo ∧ (arrS c t).lo ≤ 21000 ∧ 0 ≤ (arrS c t).hi ∧ (arrS c t).hi ≤ 21000 := by
  obtain ⟨_, _, e3⟩ := hitR_spec h (Int.le_refl t.lo)
  obtain ⟨_, _, f3⟩ := hitR_spec h h.p2
  have := h.s1
  have := h.s2
  simp only [arrS]
  split <;> omega
/-- The least number from 0 on for which all may be off. -/
def offLo (c : Convoy) : Nat → Nat → Nat
  | 0, k => k
  | n + 1, k => if mayF (keepF c) (failF c) c.trucks.length c.fails k then k else offLo c n (k + 1)
def offS (c : Convoy) : Span := ⟨offLo c 21000 0, maxUp (endF c) c.trucks.length⟩
theorem offLo_spec (c : Convoy) {K : Nat} (hK : mayF (keepF c) (failF c) c.trucks.length c.fails K = true) : ∀ n k, k ≤ K → K ≤ k + n →
    (∀ j, k ≤ j → j < offLo c n k → mayF (keepF c) (failF c) c.trucks.length c.fails j = false) ∧ mayF (keepF c) (failF c) c.trucks.length c.fails (offLo c n k) = true ∧ offLo c n k ≤ K := by
  intro n
  induction n with
  | zero =>
    intro k h1 h2
    have : k = K := by omega
    subst this
    exact ⟨fun j a b => by simp only [offLo] at b; omega, hK, Nat.le_refl _⟩
  | succ n ih =>
    intro k h1 h2
    by_cases e : mayF (keepF c) (failF c) c.trucks.length c.fails k = true
    · simp only [offLo, if_pos e]
      exact ⟨fun j a b => by omega, e, h1⟩
    · simp only [offLo, if_neg e]
      have hne : k ≠ K := by intro h; subst h; exact e hK
      obtain ⟨a, b, d⟩ := ih (k + 1) (by omega) (by omega)
      refine ⟨fun j hj hj2 => ?_, b, d⟩
      by_cases ej : j = k
      · subst ej; simpa using e
      · exact a j (by omega) hj2
end Go.Proofs.YtafnhieaeejlcaaDoor


namespace Go.Proofs.YtafnhieaeejlcaaDoor
open Go Go.Ab
set_option maxRecDepth 100000
set_option maxHeartbeats 4000000
attribute [local irreducible] W WL QOp NOp thenQ blockQ FinQ FinR WG FQ Want FinW WI WIL thenI blockI
theorem mayF_top {c : Convoy} (hc : COk c) : mayF (keepF c) (failF c) c.trucks.length c.fails 21000 = true :=
  mayF_late (fun k hk => (arr_bnd (hc.t k hk)).2.1) hc.f1
theorem maxUp_succ (c : Convoy) (k : Nat) : maxUp (endF c) (k + 1) = max (maxUp (endF c) k) (arrS c (c.trucks.getD (k : Int).toNat default)).hi := rfl
theorem maxUp_zero (f : Nat → Int) : maxUp f 0 = 0 := rfl
attribute [local irreducible] arrS freeT maxUp mayF offLo
theorem c95 (c : Convoy) (hc : COk c) : Contract seat 95 [.agg (encConvoy c)] (.agg (encSpan (offS c))) := by
  refine contract_intro (fn := Tryd.f95) Tryd.func95 rfl (by kernel_rfl) rfl ?_ ?_ ?_
  · exact PureL.cons (.agg _ (pure_convoy c)) PureL.nil
  · exact .agg _ (pure_span _)
  intro w κ
  have hn := hc.n
  have hf1 := hc.f1
  have hf2 := hc.f2
  have hmax0 := maxUp_zero (endF c)
  repeat' (first
    | (apply WL_q; apply Eq.refl; apply Eq.refl; (first | (apply q_mvI <;> apply Eq.refl) | (apply q_asI <;> apply Eq.refl) | (apply q_ldb <;> apply Eq.refl) | (apply q_fab <;> apply Eq.refl) | (apply q_cmp <;> apply Eq.refl) | (apply q_not <;> apply Eq.refl) | (apply q_arith <;> (first | apply Eq.refl | omega)) | (apply q_len <;> apply Eq.refl) | (apply q_ia <;> (first | apply Eq.refl | omega)) | (apply q_ldba <;> apply Eq.refl) | (apply q_ldra <;> apply Eq.refl) | (apply q_max <;> apply Eq.refl) | (apply q_mvS <;> apply Eq.refl) | (apply q_mvO <;> apply Eq.refl) | (apply q_asO <;> apply Eq.refl) | (apply q_asN <;> apply Eq.refl)))
    | apply W_seq
    | apply W_region
    | apply T_normal
    | apply WL_nil
    | apply T_exit
    | apply B_normal
    | apply B_exit_eq
    | apply W_skip
    | apply W_exit
    | apply W_ret
    | apply W_block
    | (apply WL_n; apply Eq.refl; (first | (apply n_boxa <;> apply Eq.refl) | (apply n_alloc <;> apply Eq.refl) | (apply n_stb <;> apply Eq.refl)))
    | apply W_regionG
    | (apply WG_nil; kernel_rfl)
    | (apply WG_q; (first | (apply want_none; apply Eq.refl) | (apply want_some; apply Eq.refl; apply Eq.refl; apply Eq.refl)); apply Eq.refl; first | (apply fq_bld <;> apply Eq.refl) | (apply fq_blda <;> apply Eq.refl) | (apply fq_fn; apply Eq.refl) | (apply fq_mf; apply Eq.refl) | (apply FQ_intro; intro _; (first | (apply q_mvI <;> apply Eq.refl) | (apply q_asI <;> apply Eq.refl) | (apply q_ldb <;> apply Eq.refl) | (apply q_fab <;> apply Eq.refl) | (apply q_cmp <;> apply Eq.refl) | (apply q_not <;> apply Eq.refl) | (apply q_arith <;> (first | apply Eq.refl | omega)) | (apply q_len <;> apply Eq.refl) | (apply q_ia <;> (first | apply Eq.refl | omega)) | (apply q_ldba <;> apply Eq.refl) | (apply q_ldra <;> apply Eq.refl) | (apply q_max <;> apply Eq.refl) | (apply q_mvS <;> apply Eq.refl) | (apply q_mvO <;> apply Eq.refl) | (apply q_asO <;> apply Eq.refl) | (apply q_asN <;> apply Eq.refl))))
    | (apply WG_n; (first | (apply want_none; apply Eq.refl) | (apply want_some; apply Eq.refl; apply Eq.refl; apply Eq.refl)); (first | (apply f_alloc <;> apply Eq.refl) | (apply f_stb <;> apply Eq.refl) | (apply f_bsl <;> apply Eq.refl)))
    | (apply W_cD; apply Eq.refl; intro _; rotate_left 1; intro _; rotate_left 1)
    | (apply W_cN; apply Eq.refl; intro _; rotate_left 1; intro _; rotate_left 1))
  refine W_wk (wk_nil 4 4 3 1 (fun i => encI (keepF c i)) rfl) ?_
  refine W_wk (wk_nil 5 5 3 1 (fun i => encI (failF c i)) rfl) ?_
  refine W_loopK [1, 2, 3] [1, 2] (fun k : Nat => [(4, .os 4 (k + 1)), (5, .os 5 (k + 1)), (6, .int .i64 k)]) (fun k => [(3, 1), (4, k + 1), (5, k + 1)])
      (fun k => [(3, .box [.int .i64 0, .int .i64 (maxUp (endF c) k)]), (4, .arr 3 1 k (fun i => encI (keepF c i))), (5, .arr 3 1 k (fun i => encI (failF c i)))])
      (fun k => k ≤ c.trucks.length) (fun k => c.trucks.length - k) 0 (Nat.zero_le _) (by refine ⟨?_, ?_, ?_⟩ <;> repeat' (first | exact trivial | apply And.intro | apply Eq.refl | (apply toI; apply Eq.refl; first | omega | assumption) | (apply toB; apply Eq.refl; repeat' (first | apply Eq.refl | apply consS | (apply consI; first | apply Eq.refl | omega | assumption))))) (fun k h hi => ?_)
  have hk := hi
  have ht : (k : Int) < c.trucks.length → TOk c (c.trucks.getD (k : Int).toNat default) := fun h => hc.t _ (by omega)
  have hmk := maxUp_succ c k
  repeat' (first
    | (apply WL_q; apply Eq.refl; apply Eq.refl; (first | (apply q_mvI <;> apply Eq.refl) | (apply q_asI <;> apply Eq.refl) | (apply q_ldb <;> apply Eq.refl) | (apply q_fab <;> apply Eq.refl) | (apply q_cmp <;> apply Eq.refl) | (apply q_not <;> apply Eq.refl) | (apply q_arith <;> (first | apply Eq.refl | omega)) | (apply q_len <;> apply Eq.refl) | (apply q_ia <;> (first | apply Eq.refl | omega)) | (apply q_ldba <;> apply Eq.refl) | (apply q_ldra <;> apply Eq.refl) | (apply q_max <;> apply Eq.refl) | (apply q_mvS <;> apply Eq.refl) | (apply q_mvO <;> apply Eq.refl) | (apply q_asO <;> apply Eq.refl) | (apply q_asN <;> apply Eq.refl)))
    | apply W_seq
    | apply W_region
    | apply T_normal
    | apply WL_nil
    | apply T_exit
    | apply B_normal
    | apply B_exit_eq
    | apply W_skip
    | apply W_exit
    | apply W_ret
    | apply W_block
    | (apply WL_call; apply Eq.refl; apply Eq.refl; rotate_left 1; apply Eq.refl; rotate_right 1; exact (c110 c (c.trucks.getD (k : Int).toNat default) (ht (by assumption))); apply Eq.refl)
    | (apply WL_call; apply Eq.refl; apply Eq.refl; rotate_left 1; apply Eq.refl; rotate_right 1; exact (c73 (c.trucks.getD (k : Int).toNat default) true); apply Eq.refl)
    | (apply WL_call; apply Eq.refl; apply Eq.refl; rotate_left 1; apply Eq.refl; rotate_right 1; exact (c110 c (freeT (c.trucks.getD (k : Int).toNat default) true) ((ht (by assumption)).free true)); apply Eq.refl)
    | (apply WL_n; apply Eq.refl; (first | (apply n_boxa <;> apply Eq.refl) | (apply n_alloc <;> apply Eq.refl) | (apply n_stb <;> apply Eq.refl)))
    | apply W_regionG
    | (apply WG_nil; kernel_rfl)
    | (apply WG_q; (first | (apply want_none; apply Eq.refl) | (apply want_some; apply Eq.refl; apply Eq.refl; apply Eq.refl)); apply Eq.refl; first | (apply fq_bld <;> apply Eq.refl) | (apply fq_blda <;> apply Eq.refl) | (apply fq_fn; apply Eq.refl) | (apply fq_mf; apply Eq.refl) | (apply FQ_intro; intro _; (first | (apply q_mvI <;> apply Eq.refl) | (apply q_asI <;> apply Eq.refl) | (apply q_ldb <;> apply Eq.refl) | (apply q_fab <;> apply Eq.refl) | (apply q_cmp <;> apply Eq.refl) | (apply q_not <;> apply Eq.refl) | (apply q_arith <;> (first | apply Eq.refl | omega)) | (apply q_len <;> apply Eq.refl) | (apply q_ia <;> (first | apply Eq.refl | omega)) | (apply q_ldba <;> apply Eq.refl) | (apply q_ldra <;> apply Eq.refl) | (apply q_max <;> apply Eq.refl) | (apply q_mvS <;> apply Eq.refl) | (apply q_mvO <;> apply Eq.refl) | (apply q_asO <;> apply Eq.refl) | (apply q_asN <;> apply Eq.refl))))
    | (apply WG_call; (first | (apply want_none; apply Eq.refl) | (apply want_some; apply Eq.refl; apply Eq.refl; apply Eq.refl)); apply Eq.refl; apply Eq.refl; apply Eq.refl; exact (c110 c (c.trucks.getD (k : Int).toNat default) (ht (by assumption))))
    | (apply WG_call; (first | (apply want_none; apply Eq.refl) | (apply want_some; apply Eq.refl; apply Eq.refl; apply Eq.refl)); apply Eq.refl; apply Eq.refl; apply Eq.refl; exact (c73 (c.trucks.getD (k : Int).toNat default) true))
    | (apply WG_call; (first | (apply want_none; apply Eq.refl) | (apply want_some; apply Eq.refl; apply Eq.refl; apply Eq.refl)); apply Eq.refl; apply Eq.refl; apply Eq.refl; exact (c110 c (freeT (c.trucks.getD (k : Int).toNat default) true) ((ht (by assumption)).free true)))
    | (apply WG_n; (first | (apply want_none; apply Eq.refl) | (apply want_some; apply Eq.refl; apply Eq.refl; apply Eq.refl)); (first | (refine f_app (f' := fun i => encI (keepF c i)) rfl rfl rfl rfl rfl rfl rfl rfl rfl rfl rfl rfl rfl rfl rfl (by first | omega | (show (k + 1) * 8 ≤ _; omega)) (by omega) rfl (fun i hi => rfl) (fun i hi => by (obtain rfl : i = 0 := by omega); rfl)) | (refine f_app (f' := fun i => encI (failF c i)) rfl rfl rfl rfl rfl rfl rfl rfl rfl rfl rfl rfl rfl rfl rfl (by first | omega | (show (k + 1) * 8 ≤ _; omega)) (by omega) rfl (fun i hi => rfl) (fun i hi => by (obtain rfl : i = 0 := by omega); rfl)) | (apply f_alloc <;> apply Eq.refl) | (apply f_stb <;> apply Eq.refl) | (apply f_bsl <;> apply Eq.refl)))
    | (apply W_cD; apply Eq.refl; intro _; rotate_left 1; intro _; rotate_left 1)
    | (apply W_cN; apply Eq.refl; intro _; rotate_left 1; intro _; rotate_left 1))
  · refine ⟨k + 1, by omega, by omega, (by refine ⟨?_, ?_, ?_, ?_, ?_⟩ <;> repeat' (first | exact trivial | apply And.intro | apply Eq.refl | (apply toI; apply Eq.refl; first | omega | assumption) | (apply toB; apply Eq.refl; repeat' (first | apply Eq.refl | apply consS | (apply consI; first | apply Eq.refl | omega | assumption)))))⟩
  obtain rfl : k = c.trucks.length := by omega
  refine W_wk (wk_freeze 4 rfl rfl rfl) ?_
  refine W_wk (wk_freeze 5 rfl rfl rfl) ?_
  have hK := mayF_top hc
  obtain ⟨o1, o2, o3⟩ := offLo_spec c (K := 21000) hK 21000 0 (by omega) (by omega)
  refine W_loopK [1, 2, 3, 4, 5] [1, 2, 4, 5] (fun j : Nat => []) (fun j => [(3, 1)])
      (fun j => [(3, .box [.int .i64 j, .int .i64 (maxUp (endF c) c.trucks.length)])])
      (fun j => j ≤ offLo c 21000 0) (fun j => offLo c 21000 0 - j) 0 (Nat.zero_le _) (by refine ⟨?_, ?_, ?_⟩ <;> repeat' (first | exact trivial | apply And.intro | apply Eq.refl | (apply toI; apply Eq.refl; first | omega | assumption) | (apply toB; apply Eq.refl; repeat' (first | apply Eq.refl | apply consS | (apply consI; first | apply Eq.refl | omega | assumption))))) (fun j h hj => ?_)
  have hn' : c.trucks.length ≤ 1000 := by omega
  repeat' (first
    | (apply WL_q; apply Eq.refl; apply Eq.refl; (first | (apply q_mvI <;> apply Eq.refl) | (apply q_asI <;> apply Eq.refl) | (apply q_ldb <;> apply Eq.refl) | (apply q_fab <;> apply Eq.refl) | (apply q_cmp <;> apply Eq.refl) | (apply q_not <;> apply Eq.refl) | (apply q_arith <;> (first | apply Eq.refl | omega)) | (apply q_len <;> apply Eq.refl) | (apply q_ia <;> (first | apply Eq.refl | omega)) | (apply q_ldba <;> apply Eq.refl) | (apply q_ldra <;> apply Eq.refl) | (apply q_max <;> apply Eq.refl) | (apply q_mvS <;> apply Eq.refl) | (apply q_mvO <;> apply Eq.refl) | (apply q_asO <;> apply Eq.refl) | (apply q_asN <;> apply Eq.refl)))
    | apply W_seq
    | apply W_region
    | apply T_normal
    | apply WL_nil
    | apply T_exit
    | apply B_normal
    | apply B_exit_eq
    | apply W_skip
    | apply W_exit
    | apply W_ret
    | apply W_block
    | (apply WL_call; apply Eq.refl; apply Eq.refl; rotate_left 1; apply Eq.refl; rotate_right 1; exact (c118 (keepF c) (failF c) c.trucks.length c.fails j hn'); apply Eq.refl)
    | (apply WL_n; apply Eq.refl; (first | (apply n_boxa <;> apply Eq.refl) | (apply n_alloc <;> apply Eq.refl) | (apply n_stb <;> apply Eq.refl)))
    | apply W_regionG
    | (apply WG_nil; kernel_rfl)
    | (apply WG_q; (first | (apply want_none; apply Eq.refl) | (apply want_some; apply Eq.refl; apply Eq.refl; apply Eq.refl)); apply Eq.refl; first | (apply fq_bld <;> apply Eq.refl) | (apply fq_blda <;> apply Eq.refl) | (apply fq_fn; apply Eq.refl) | (apply fq_mf; apply Eq.refl) | (apply FQ_intro; intro _; (first | (apply q_mvI <;> apply Eq.refl) | (apply q_asI <;> apply Eq.refl) | (apply q_ldb <;> apply Eq.refl) | (apply q_fab <;> apply Eq.refl) | (apply q_cmp <;> apply Eq.refl) | (apply q_not <;> apply Eq.refl) | (apply q_arith <;> (first | apply Eq.refl | omega)) | (apply q_len <;> apply Eq.refl) | (apply q_ia <;> (first | apply Eq.refl | omega)) | (apply q_ldba <;> apply Eq.refl) | (apply q_ldra <;> apply Eq.refl) | (apply q_max <;> apply Eq.refl) | (apply q_mvS <;> apply Eq.refl) | (apply q_mvO <;> apply Eq.refl) | (apply q_asO <;> apply Eq.refl) | (apply q_asN <;> apply Eq.refl))))
    | (apply WG_call; (first | (apply want_none; apply Eq.refl) | (apply want_some; apply Eq.refl; apply Eq.refl; apply Eq.refl)); apply Eq.refl; apply Eq.refl; apply Eq.refl; exact (c118 (keepF c) (failF c) c.trucks.length c.fails j hn'))
    | (apply WG_n; (first | (apply want_none; apply Eq.refl) | (apply want_some; apply Eq.refl; apply Eq.refl; apply Eq.refl)); (first | (apply f_alloc <;> apply Eq.refl) | (apply f_stb <;> apply Eq.refl) | (apply f_bsl <;> apply Eq.refl)))
    | (apply W_cD; apply Eq.refl; intro _; rotate_left 1; intro _; rotate_left 1)
    | (apply W_cN; apply Eq.refl; intro _; rotate_left 1; intro _; rotate_left 1))
  · have : ¬ j = offLo c 21000 0 := fun e => by rw [← e] at o2; simp_all
    refine ⟨j + 1, by omega, by omega, (by refine ⟨?_, ?_, ?_, ?_, ?_⟩ <;> repeat' (first | exact trivial | apply And.intro | apply Eq.refl | (apply toI; apply Eq.refl; first | omega | assumption) | (apply toB; apply Eq.refl; repeat' (first | apply Eq.refl | apply consS | (apply consI; first | apply Eq.refl | omega | assumption)))))⟩
  · have : ¬ j < offLo c 21000 0 := fun e => by have := o1 j (by omega) e; simp_all
    obtain rfl : j = offLo c 21000 0 := by omega
    refine fin_A rfl rfl rfl rfl rfl rfl rfl rfl ?_; rfl
end Go.Proofs.YtafnhieaeejlcaaDoor


namespace Go.Proofs.YtafnhieaeejlcaaDoor
open Go Go.Ab
set_option maxRecDepth 100000
set_option maxHeartbeats 4000000
attribute [local irreducible] W WL QOp NOp thenQ blockQ FinQ FinR WG FQ Want FinW WI WIL thenI blockI
attribute [local irreducible] offS chkConvoy
theorem c52 (c : Convoy) : Contract seat 52 [.agg (encConvoy c)] (.tup [.agg (encSpan (if chkConvoy c = 0 then offS c else default)), .int .i64 (chkConvoy c)]) := by
  refine contract_intro (fn := Tryd.f52) Tryd.func52 rfl (by kernel_rfl) rfl ?_ ?_ ?_
  · exact PureL.cons (.agg _ (pure_convoy c)) PureL.nil
  · exact .tup _ (PureL.cons (.agg _ (pure_span _)) (PureL.cons (.int _ _) PureL.nil))
  intro w κ
  repeat' (first
    | (apply WL_q; apply Eq.refl; apply Eq.refl; (first | (apply q_mvI <;> apply Eq.refl) | (apply q_asI <;> apply Eq.refl) | (apply q_cmp <;> apply Eq.refl) | (apply q_ldba <;> apply Eq.refl) | (apply q_bld <;> apply Eq.refl)))
    | apply W_seq
    | apply W_region
    | apply T_normal
    | apply WL_nil
    | apply T_ret
    | apply W_skip
    | apply W_ret
    | (apply WL_call; apply Eq.refl; apply Eq.refl; rotate_left 1; apply Eq.refl; rotate_right 1; exact (c22 c); apply Eq.refl)
    | (apply WL_call; apply Eq.refl; apply Eq.refl; rotate_left 1; apply Eq.refl; rotate_right 1; exact (c95 c (cok_of (by assumption))); apply Eq.refl)
    | (apply WL_n; apply Eq.refl; (first | (apply n_boxa <;> apply Eq.refl) | (apply n_alloc <;> apply Eq.refl) | (apply n_stb <;> apply Eq.refl)))
    | (apply W_cND; apply Eq.refl; intro _; rotate_left 1; intro _; rotate_left 1))
  · ((try apply fin_now); first | (focus (apply fin_2; apply Eq.refl; (first | (apply rv_I; apply Eq.refl) | (apply rv_A <;> apply Eq.refl)); (first | (apply rv_I; apply Eq.refl) | (apply rv_A <;> apply Eq.refl)); all_goals try apply Eq.refl)))
    rw [if_neg (by assumption)]; rfl
  · ((try apply fin_now); first | (focus (apply fin_2; apply Eq.refl; (first | (apply rv_I; apply Eq.refl) | (apply rv_A <;> apply Eq.refl)); (first | (apply rv_I; apply Eq.refl) | (apply rv_A <;> apply Eq.refl)); all_goals try apply Eq.refl)))
    · rw [if_pos (by assumption)]; rfl
    · simp [*]
def bigS (c : Convoy) : Bool := (decide ((c.trucks.length : Int) > 5) && decide ((c.trucks.length : Int) ≤ 20)) || decide ((c.trucks.length : Int) > 25) || c.trucks.any (fun t => decide ((t.holds.length : Int) > 12)) || (decide (chkConvoy c = 0) && decide ((offS c).hi > 1500))
theorem any_yes {α : Type} [Inhabited α] {l : List α} {p : α → Bool} {k : Nat} (h : k < l.length) (hp : p (l.getD k default) = true) : l.any p = true := by
  rw [List.any_eq_true]
  exact ⟨_, by simp [List.getD, h], hp⟩
theorem any_no {α : Type} [Inhabited α] {l : List α} {p : α → Bool} (h : ∀ k, k < l.length → p (l.getD k default) = false) : l.any p = false := by
  rw [List.any_eq_false]
  intro x hx
  obtain ⟨k, hk, rfl⟩ := mem_getD hx
  rw [h k hk]; decide
theorem c18 (c : Convoy) : Contract seat 18 [.agg (encConvoy c)] (.bool (bigS c)) := by
  refine contract_intro (fn := Tryd.f18) Tryd.func18 rfl (by kernel_rfl) rfl ?_ ?_ ?_
  · exact PureL.cons (.agg _ (pure_convoy c)) PureL.nil
  · exact .bool _
  intro w κ
  repeat' (first
    | (apply WL_q; apply Eq.refl; apply Eq.refl; (first | (apply q_mvI <;> apply Eq.refl) | (apply q_asI <;> apply Eq.refl) | (apply q_ldb <;> apply Eq.refl) | (apply q_fab <;> apply Eq.refl) | (apply q_cmp <;> apply Eq.refl) | (apply q_mvB <;> apply Eq.refl) | (apply q_asB <;> apply Eq.refl) | (apply q_ldr <;> apply Eq.refl) | (apply q_far <;> apply Eq.refl) | (apply q_arith <;> (first | apply Eq.refl | omega)) | (apply q_len <;> apply Eq.refl) | (apply q_ext <;> apply Eq.refl) | (apply q_pkT <;> apply Eq.refl) | (apply q_pkF <;> apply Eq.refl) | (apply q_ia <;> (first | apply Eq.refl | omega)) | (apply q_ldba <;> apply Eq.refl) | (apply q_mvT <;> apply Eq.refl)))
    | apply W_seq
    | apply W_region
    | apply T_normal
    | apply WL_nil
    | apply T_exit
    | apply T_ret
    | apply B_normal
    | apply B_ret
    | apply B_exit_eq
    | apply W_skip
    | apply W_exit
    | apply W_ret
    | apply W_block
    | (apply W_condT; apply Eq.refl)
    | (apply WL_n; apply Eq.refl; (first | (apply n_boxa <;> apply Eq.refl) | (apply n_alloc <;> apply Eq.refl) | (apply n_stb <;> apply Eq.refl)))
    | (apply WL_yes; apply Eq.refl; apply Eq.refl; apply Eq.refl)
    | (apply WL_no; apply Eq.refl; apply Eq.refl; apply Eq.refl; apply Eq.refl; apply Eq.refl)
    | (apply L_tD; apply Eq.refl; apply Eq.refl; apply Eq.refl; intro _; rotate_left 1; intro _; rotate_left 1)
    | (apply W_cD; apply Eq.refl; intro _; rotate_left 1; intro _; rotate_left 1))
  all_goals first
    | (((try apply fin_now); first | (apply fin_B; apply Eq.refl; apply Eq.refl; try apply Eq.refl)); (unfold bigS; simp_all; done))
    | skip
  all_goals
    refine W_loopR [1] [1] (fun k : Nat => [(3, .int .i64 k)]) (fun k => []) (fun k => [])
      (fun k => k ≤ c.trucks.length ∧ ∀ i, i < k → (fun t : Truck => decide ((t.holds.length : Int) > 12)) (c.trucks.getD i default) = false) (fun k => c.trucks.length - k) 0 ⟨Nat.zero_le _, fun i h => by omega⟩ (by refine ⟨?_, ?_, ?_⟩ <;> repeat' (first | exact trivial | apply And.intro | apply Eq.refl | (apply toI; apply Eq.refl; first | omega | assumption) | (apply toB; apply Eq.refl; repeat' (first | apply Eq.refl | apply consS | (apply consI; first | apply Eq.refl | omega | assumption))))) (fun k h hi => ?_)
    obtain ⟨hk, hall⟩ := hi
    repeat' (first
    | (apply WL_q; apply Eq.refl; apply Eq.refl; (first | (apply q_mvI <;> apply Eq.refl) | (apply q_asI <;> apply Eq.refl) | (apply q_ldb <;> apply Eq.refl) | (apply q_fab <;> apply Eq.refl) | (apply q_cmp <;> apply Eq.refl) | (apply q_mvB <;> apply Eq.refl) | (apply q_asB <;> apply Eq.refl) | (apply q_ldr <;> apply Eq.refl) | (apply q_far <;> apply Eq.refl) | (apply q_arith <;> (first | apply Eq.refl | omega)) | (apply q_len <;> apply Eq.refl) | (apply q_ext <;> apply Eq.refl) | (apply q_pkT <;> apply Eq.refl) | (apply q_pkF <;> apply Eq.refl) | (apply q_ia <;> (first | apply Eq.refl | omega)) | (apply q_ldba <;> apply Eq.refl) | (apply q_mvT <;> apply Eq.refl)))
    | apply W_seq
    | apply W_region
    | apply T_normal
    | apply WL_nil
    | apply T_exit
    | apply T_ret
    | apply B_normal
    | apply B_ret
    | apply B_exit_eq
    | apply W_skip
    | apply W_exit
    | apply W_ret
    | apply W_block
    | (apply W_condT; apply Eq.refl)
    | (apply WL_call; apply Eq.refl; apply Eq.refl; rotate_left 1; apply Eq.refl; rotate_right 1; exact (c52 c); apply Eq.refl)
    | (apply WL_n; apply Eq.refl; (first | (apply n_boxa <;> apply Eq.refl) | (apply n_alloc <;> apply Eq.refl) | (apply n_stb <;> apply Eq.refl)))
    | (apply WL_yes; apply Eq.refl; apply Eq.refl; apply Eq.refl)
    | (apply WL_no; apply Eq.refl; apply Eq.refl; apply Eq.refl; apply Eq.refl; apply Eq.refl)
    | (apply L_tD; apply Eq.refl; apply Eq.refl; apply Eq.refl; intro _; rotate_left 1; intro _; rotate_left 1)
    | (apply W_cD; apply Eq.refl; intro _; rotate_left 1; intro _; rotate_left 1))
  all_goals try (refine ⟨k + 1, ⟨by omega, fun i hi => ?_⟩, by omega, ?_⟩; rotate_left 1; exact (by apply reach_now; refine ⟨?_, ?_, ?_, ?_, ?_⟩ <;> repeat' (first | exact trivial | apply And.intro | apply Eq.refl | (apply toI; apply Eq.refl; first | omega | assumption) | (apply toB; apply Eq.refl; repeat' (first | apply Eq.refl | apply consS | (apply consI; first | apply Eq.refl | omega | assumption))))))
  all_goals try (rcases Nat.lt_or_eq_of_le (Nat.le_of_lt_succ hi) with h1 | h1 <;> first | exact hall i h1 | (subst h1; simp_all; done))
  all_goals try (have h12 : ↑(c.trucks.getD (k : Int).toNat default).holds.length > (12 : Int) := by assumption
                 ((try apply fin_now); first | (apply fin_B; apply Eq.refl; apply Eq.refl; try apply Eq.refl))
                 rw [bigS, any_yes (k := k) (by omega) (by simpa using h12)]; simp)
  all_goals (have hany : c.trucks.any (fun t => decide ((t.holds.length : Int) > 12)) = false := any_no (fun i hi => hall i (by omega)); ((try apply fin_now); first | (apply fin_B; apply Eq.refl; apply Eq.refl; try apply Eq.refl)); simp only [bigS, hany]; simp only [*, if_true, if_false, decide_true, decide_false, Bool.false_and, Bool.true_and, Bool.false_or, Bool.or_false, Bool.and_false])
end Go.Proofs.YtafnhieaeejlcaaDoor


namespace Go.Proofs.YtafnhieaeejlcaaDoor
open Go Go.Ab
set_option maxRecDepth 100000
set_option maxHeartbeats 4000000
attribute [local irreducible] W WL QOp NOp thenQ blockQ FinQ FinR WG FQ Want FinW WI WIL thenI blockI
theorem c20 (c : Convoy) (hn : c.trucks.length ≤ 25) (hh : ∀ k, k < c.trucks.length → (c.trucks.getD k default).holds.length ≤ 12) : Contract seat 20 [.agg (encConvoy c)] (.agg (encConvoy c)) := by
  refine contract_introW (fn := Tryd.f20) Tryd.func20 rfl (by kernel_rfl) rfl ?_ ?_ ?_
  · exact PureL.cons (.agg _ (pure_convoy c)) PureL.nil
  · exact .agg _ (pure_convoy _)
  intro w κ
  repeat' (first
    | (apply WL_q; apply Eq.refl; apply Eq.refl; (first | (apply q_mvI <;> apply Eq.refl) | (apply q_asI <;> apply Eq.refl) | (apply q_ldb <;> apply Eq.refl) | (apply q_fab <;> apply Eq.refl) | (apply q_cmp <;> apply Eq.refl) | (apply q_arith <;> (first | apply Eq.refl | omega)) | (apply q_ldba <;> apply Eq.refl) | (apply q_ldo <;> (first | apply Eq.refl | omega)) | (apply q_fao <;> apply Eq.refl) | (apply q_iao <;> (first | apply Eq.refl | omega)) | (apply q_leno <;> apply Eq.refl)))
    | apply W_seq
    | apply W_region
    | apply T_normal
    | apply WL_nil
    | apply T_exit
    | apply B_normal
    | apply B_exit_eq
    | apply W_skip
    | apply W_exit
    | apply W_ret
    | apply W_block
    | (apply WL_n; apply Eq.refl; (first | (refine n_bsl0 (fun i => encTruck (c.trucks.getD i default)) rfl rfl rfl rfl rfl rfl rfl rfl rfl) | (refine n_app (f' := fun i => encTruck (c.trucks.getD i default)) rfl rfl rfl rfl rfl rfl rfl rfl rfl rfl rfl rfl rfl rfl rfl (by show (0 + c.trucks.length) * 56 ≤ _; omega) (by omega) rfl (fun i hi => rfl) (fun i hi => by rw [Nat.zero_add])) | (apply n_boxa <;> apply Eq.refl) | (apply n_alloc <;> apply Eq.refl) | (apply n_stb <;> apply Eq.refl)))
    | apply W_regionG
    | (apply WG_nil; kernel_rfl)
    | (apply WG_q; (first | (apply want_none; apply Eq.refl) | (apply want_some; apply Eq.refl; apply Eq.refl; apply Eq.refl)); apply Eq.refl; first | (apply fq_bld <;> apply Eq.refl) | (apply fq_blda <;> apply Eq.refl) | (apply fq_fn; apply Eq.refl) | (apply fq_mf; apply Eq.refl) | (apply FQ_intro; intro _; (first | (apply q_mvI <;> apply Eq.refl) | (apply q_asI <;> apply Eq.refl) | (apply q_ldb <;> apply Eq.refl) | (apply q_fab <;> apply Eq.refl) | (apply q_cmp <;> apply Eq.refl) | (apply q_arith <;> (first | apply Eq.refl | omega)) | (apply q_ldba <;> apply Eq.refl) | (apply q_ldo <;> (first | apply Eq.refl | omega)) | (apply q_fao <;> apply Eq.refl) | (apply q_iao <;> (first | apply Eq.refl | omega)) | (apply q_leno <;> apply Eq.refl))))
    | (apply WG_n; (first | (apply want_none; apply Eq.refl) | (apply want_some; apply Eq.refl; apply Eq.refl; apply Eq.refl)); (first | (refine f_bsl0 (fun i => encTruck (c.trucks.getD i default)) rfl rfl rfl rfl rfl rfl rfl rfl rfl) | (refine f_app (f' := fun i => encTruck (c.trucks.getD i default)) rfl rfl rfl rfl rfl rfl rfl rfl rfl rfl rfl rfl rfl rfl rfl (by show (0 + c.trucks.length) * 56 ≤ _; omega) (by omega) rfl (fun i hi => rfl) (fun i hi => by rw [Nat.zero_add])) | (apply f_sto <;> (first | apply Eq.refl | omega))))
    | (apply W_cD; apply Eq.refl; intro _; rotate_left 1; intro _; rotate_left 1))
  refine W_loopR [1, 2] [1, 2] (fun k : Nat => [(3, .int .i64 k)]) (fun k => [(4, 2)]) (fun k => [(4, .arr 50 5 (0 + c.trucks.length) (fun i => encTruck (c.trucks.getD i default)))])
      (fun k => k ≤ c.trucks.length) (fun k => c.trucks.length - k) 0 (Nat.zero_le _) (by refine ⟨?_, ?_, ?_⟩ <;> repeat' (first | exact trivial | apply And.intro | apply Eq.refl | (apply toI; apply Eq.refl; first | omega | assumption) | (apply toB; apply Eq.refl; repeat' (first | apply Eq.refl | apply consS | (apply consI; first | apply Eq.refl | omega | assumption))))) (fun k h hi => ?_)
  repeat' (first
    | (apply WL_q; apply Eq.refl; apply Eq.refl; (first | (apply q_mvI <;> apply Eq.refl) | (apply q_asI <;> apply Eq.refl) | (apply q_ldb <;> apply Eq.refl) | (apply q_fab <;> apply Eq.refl) | (apply q_cmp <;> apply Eq.refl) | (apply q_arith <;> (first | apply Eq.refl | omega)) | (apply q_ldba <;> apply Eq.refl) | (apply q_ldo <;> (first | apply Eq.refl | omega)) | (apply q_fao <;> apply Eq.refl) | (apply q_iao <;> (first | apply Eq.refl | omega)) | (apply q_leno <;> apply Eq.refl)))
    | apply W_seq
    | apply W_region
    | apply T_normal
    | apply WL_nil
    | apply T_exit
    | apply B_normal
    | apply B_exit_eq
    | apply W_skip
    | apply W_exit
    | apply W_ret
    | apply W_block
    | (apply WL_n; apply Eq.refl; (first | (refine n_bsl0 (fun i => encHold ((c.trucks.getD k default).holds.getD i default)) rfl rfl rfl rfl rfl rfl rfl rfl rfl) | (refine n_app (f' := fun i => encHold ((c.trucks.getD k default).holds.getD i default)) rfl rfl rfl rfl rfl rfl rfl rfl rfl rfl rfl rfl rfl rfl rfl (by have := hh k (by omega); show (0 + (c.trucks.getD k default).holds.length) * 16 ≤ _; omega) (by have := hh k (by omega); show 0 + (c.trucks.getD k default).holds.length ≤ _; omega) rfl (fun i hi => rfl) (fun i hi => by rw [Nat.zero_add]; rfl)) | (apply n_boxa <;> apply Eq.refl) | (apply n_alloc <;> apply Eq.refl) | (apply n_stb <;> apply Eq.refl)))
    | apply W_regionG
    | (apply WG_nil; kernel_rfl)
    | (apply WG_q; (first | (apply want_none; apply Eq.refl) | (apply want_some; apply Eq.refl; apply Eq.refl; apply Eq.refl)); apply Eq.refl; first | (apply fq_bld <;> apply Eq.refl) | (apply fq_blda <;> apply Eq.refl) | (apply fq_fn; apply Eq.refl) | (apply fq_mf; apply Eq.refl) | (apply FQ_intro; intro _; (first | (apply q_mvI <;> apply Eq.refl) | (apply q_asI <;> apply Eq.refl) | (apply q_ldb <;> apply Eq.refl) | (apply q_fab <;> apply Eq.refl) | (apply q_cmp <;> apply Eq.refl) | (apply q_arith <;> (first | apply Eq.refl | omega)) | (apply q_ldba <;> apply Eq.refl) | (apply q_ldo <;> (first | apply Eq.refl | omega)) | (apply q_fao <;> apply Eq.refl) | (apply q_iao <;> (first | apply Eq.refl | omega)) | (apply q_leno <;> apply Eq.refl))))
    | (apply WG_n; (first | (apply want_none; apply Eq.refl) | (apply want_some; apply Eq.refl; apply Eq.refl; apply Eq.refl)); (first | (refine f_bsl0 (fun i => encHold ((c.trucks.getD k default).holds.getD i default)) rfl rfl rfl rfl rfl rfl rfl rfl rfl) | (refine f_app (f' := fun i => encHold ((c.trucks.getD k default).holds.getD i default)) rfl rfl rfl rfl rfl rfl rfl rfl rfl rfl rfl rfl rfl rfl rfl (by have := hh k (by omega); show (0 + (c.trucks.getD k default).holds.length) * 16 ≤ _; omega) (by have := hh k (by omega); show 0 + (c.trucks.getD k default).holds.length ≤ _; omega) rfl (fun i hi => rfl) (fun i hi => by rw [Nat.zero_add]; rfl)) | (apply f_sto <;> (first | apply Eq.refl | omega))))
    | (apply W_cD; apply Eq.refl; intro _; rotate_left 1; intro _; rotate_left 1))
  · refine ⟨k + 1, by omega, by omega, reach_wk (wk_freeze_elem 4 k 4 (s := 19) (f2' := fun i => encTruck (c.trucks.getD i default)) rfl rfl (by omega) (updF_same _ _ _) rfl rfl rfl rfl (fun j hj => ?_)) (by apply reach_now; refine ⟨?_, ?_, ?_, ?_, ?_⟩ <;> repeat' (first | exact trivial | apply And.intro | apply Eq.refl | (apply toI; apply Eq.refl; first | omega | assumption) | (apply toB; apply Eq.refl; repeat' (first | apply Eq.refl | apply consS | (apply consI; first | apply Eq.refl | omega | assumption)))))⟩
    by_cases e : j = k
    · subst e; rw [if_pos rfl]; rw [Nat.zero_add]; rfl
    · rw [if_neg e]; exact (updF_ne (fun i => encTruck (c.trucks.getD i default)) (i := (k : Int).toNat) (k := j) _ e).symm
  · refine fin_wk (wk_freeze_cell 2 3 (s := 4) rfl rfl rfl rfl rfl) (fin_now ?_)
    ((try apply fin_now); first | (apply fin_A; apply Eq.refl; apply Eq.refl; apply Eq.refl; apply Eq.refl; apply Eq.refl; apply Eq.refl; apply Eq.refl; apply Eq.refl; try apply Eq.refl))
    rw [Nat.zero_add]; rfl
theorem list_ext_getD {α : Type} [Inhabited α] {l m : List α} (h : l.length = m.length) (h2 : ∀ i, i < l.length → l.getD i default = m.getD i default) : l = m := by
  apply List.ext_getElem h
  intro i h3 h4
  have := h2 i h3
  simpa [List.getD, h3, h4] using this
theorem truck_eq {t u : Truck} (h1 : t.way = u.way) (h2 : t.start = u.start) (h3 : t.lo = u.lo) (h4 : t.hi = u.hi) (h5 : t.holds = u.holds) : t = u := by cases t; cases u; simp_all
theorem hold_eq {t u : Hold} (h1 : t.a = u.a) (h2 : t.u = u.u) : t = u := by cases t; cases u; simp_all
theorem convoy_eq {t u : Convoy} (h1 : t.len = u.len) (h2 : t.gap = u.gap) (h3 : t.fails = u.fails) (h5 : t.trucks = u.trucks) : t = u := by cases t; cases u; simp_all
theorem c23 (a b : Convoy) (hn : a.trucks.length ≤ 1000) (hh : ∀ k, k < a.trucks.length → (a.trucks.getD k default).holds.length ≤ 1000) : Contract seat 23 [.agg (encConvoy a), .agg (encConvoy b)] (.bool (decide (a = b))) := by
  refine contract_introW (fn := Tryd.f23) Tryd.func23 rfl (by kernel_rfl) rfl ?_ ?_ ?_
  · exact PureL.cons (.agg _ (pure_convoy a)) (PureL.cons (.agg _ (pure_convoy b)) PureL.nil)
  · exact .bool _
  intro w κ
  repeat' (first
    | (apply WL_q; apply Eq.refl; apply Eq.refl; (first | (apply q_mvI <;> apply Eq.refl) | (apply q_asI <;> apply Eq.refl) | (apply q_ldb <;> apply Eq.refl) | (apply q_fab <;> apply Eq.refl) | (apply q_cmp <;> apply Eq.refl) | (apply q_mvB <;> apply Eq.refl) | (apply q_asB <;> apply Eq.refl) | (apply q_arith <;> (first | apply Eq.refl | omega)) | (apply q_len <;> apply Eq.refl) | (apply q_pkT <;> apply Eq.refl) | (apply q_pkF <;> apply Eq.refl) | (apply q_ia <;> (first | apply Eq.refl | omega)) | (apply q_ldba <;> apply Eq.refl) | (apply q_ldra <;> apply Eq.refl) | (apply q_neA; apply Eq.refl; apply Eq.refl; apply Eq.refl; apply Eq.refl; kernel_rfl)))
    | apply W_seq
    | apply W_region
    | apply T_normal
    | apply WL_nil
    | apply T_exit
    | apply T_ret
    | apply B_normal
    | apply B_ret
    | apply B_exit_eq
    | apply W_skip
    | apply W_exit
    | apply W_ret
    | apply W_block
    | (apply W_condT; apply Eq.refl)
    | (apply WL_n; apply Eq.refl; (first | (apply n_boxa <;> apply Eq.refl)))
    | (apply WL_yes; apply Eq.refl; apply Eq.refl; apply Eq.refl)
    | (apply WL_no; apply Eq.refl; apply Eq.refl; apply Eq.refl; apply Eq.refl; apply Eq.refl)
    | (apply L_tND; apply Eq.refl; apply Eq.refl; apply Eq.refl; intro _; rotate_left 1; intro _; rotate_left 1)
    | (apply L_tN; apply Eq.refl; apply Eq.refl; apply Eq.refl; intro _; rotate_left 1; intro _; rotate_left 1)
    | apply W_regionG
    | (apply WG_nil; kernel_rfl)
    | (apply WG_q; (first | (apply want_none; apply Eq.refl) | (apply want_some; apply Eq.refl; apply Eq.refl; apply Eq.refl)); apply Eq.refl; first | (apply fq_bld <;> apply Eq.refl) | (apply fq_blda <;> apply Eq.refl) | (apply fq_fn; apply Eq.refl) | (apply fq_mf; apply Eq.refl) | (apply FQ_intro; intro _; (first | (apply q_mvI <;> apply Eq.refl) | (apply q_asI <;> apply Eq.refl) | (apply q_ldb <;> apply Eq.refl) | (apply q_fab <;> apply Eq.refl) | (apply q_cmp <;> apply Eq.refl) | (apply q_mvB <;> apply Eq.refl) | (apply q_asB <;> apply Eq.refl) | (apply q_arith <;> (first | apply Eq.refl | omega)) | (apply q_len <;> apply Eq.refl) | (apply q_pkT <;> apply Eq.refl) | (apply q_pkF <;> apply Eq.refl) | (apply q_ia <;> (first | apply Eq.refl | omega)) | (apply q_ldba <;> apply Eq.refl) | (apply q_ldra <;> apply Eq.refl) | (apply q_neA; apply Eq.refl; apply Eq.refl; apply Eq.refl; apply Eq.refl; kernel_rfl))))
    | (apply WG_n; (first | (apply want_none; apply Eq.refl) | (apply want_some; apply Eq.refl; apply Eq.refl; apply Eq.refl)); (first | (apply f_alloc <;> apply Eq.refl) | (apply f_stb <;> apply Eq.refl)))
    | (apply W_cD; apply Eq.refl; intro _; rotate_left 1; intro _; rotate_left 1)
    | (apply W_cND; apply Eq.refl; intro _; rotate_left 1; intro _; rotate_left 1)
    | (apply W_cN; apply Eq.refl; intro _; rotate_left 1; intro _; rotate_left 1))
  all_goals try (((try apply fin_now); first | (apply fin_B; apply Eq.refl; apply Eq.refl; try apply Eq.refl)); symm; apply decide_eq_false; rintro rfl; contradiction)
  have hlen : a.trucks.length = b.trucks.length := by omega
  refine W_loopR [2, 3] [2, 3] (fun k : Nat => [(5, .int .i64 k)]) (fun k => []) (fun k => [])
      (fun k => k ≤ a.trucks.length ∧ ∀ i, i < k → a.trucks.getD i default = b.trucks.getD i default) (fun k => a.trucks.length - k) 0 ⟨Nat.zero_le _, fun i h => by omega⟩ (by refine ⟨?_, ?_, ?_⟩ <;> repeat' (first | exact trivial | apply And.intro | apply Eq.refl | (apply toI; apply Eq.refl; first | omega | assumption) | (apply toB; apply Eq.refl; repeat' (first | apply Eq.refl | apply consS | (apply consI; first | apply Eq.refl | omega | assumption))))) (fun k h hi => ?_)
  obtain ⟨hk, hall⟩ := hi
  have hne : a.trucks.getD k default ≠ b.trucks.getD k default → ¬ a = b := fun h1 h2 => h1 (by rw [h2])
  repeat' (first
    | (apply WL_q; apply Eq.refl; apply Eq.refl; (first | (apply q_mvI <;> apply Eq.refl) | (apply q_asI <;> apply Eq.refl) | (apply q_ldb <;> apply Eq.refl) | (apply q_fab <;> apply Eq.refl) | (apply q_cmp <;> apply Eq.refl) | (apply q_mvB <;> apply Eq.refl) | (apply q_asB <;> apply Eq.refl) | (apply q_arith <;> (first | apply Eq.refl | omega)) | (apply q_len <;> apply Eq.refl) | (apply q_pkT <;> apply Eq.refl) | (apply q_pkF <;> apply Eq.refl) | (apply q_ia <;> (first | apply Eq.refl | omega)) | (apply q_ldba <;> apply Eq.refl) | (apply q_ldra <;> apply Eq.refl) | (apply q_neA; apply Eq.refl; apply Eq.refl; apply Eq.refl; apply Eq.refl; kernel_rfl)))
    | apply W_seq
    | apply W_region
    | apply T_normal
    | apply WL_nil
    | apply T_exit
    | apply T_ret
    | apply B_normal
    | apply B_ret
    | apply B_exit_eq
    | apply W_skip
    | apply W_exit
    | apply W_ret
    | apply W_block
    | (apply W_condT; apply Eq.refl)
    | (apply WL_n; apply Eq.refl; (first | (apply n_boxa <;> apply Eq.refl)))
    | (apply WL_yes; apply Eq.refl; apply Eq.refl; apply Eq.refl)
    | (apply WL_no; apply Eq.refl; apply Eq.refl; apply Eq.refl; apply Eq.refl; apply Eq.refl)
    | (apply L_tND; apply Eq.refl; apply Eq.refl; apply Eq.refl; intro _; rotate_left 1; intro _; rotate_left 1)
    | (apply L_tN; apply Eq.refl; apply Eq.refl; apply Eq.refl; intro _; rotate_left 1; intro _; rotate_left 1)
    | apply W_regionG
    | (apply WG_nil; kernel_rfl)
    | (apply WG_q; (first | (apply want_none; apply Eq.refl) | (apply want_some; apply Eq.refl; apply Eq.refl; apply Eq.refl)); apply Eq.refl; first | (apply fq_bld <;> apply Eq.refl) | (apply fq_blda <;> apply Eq.refl) | (apply fq_fn; apply Eq.refl) | (apply fq_mf; apply Eq.refl) | (apply FQ_intro; intro _; (first | (apply q_mvI <;> apply Eq.refl) | (apply q_asI <;> apply Eq.refl) | (apply q_ldb <;> apply Eq.refl) | (apply q_fab <;> apply Eq.refl) | (apply q_cmp <;> apply Eq.refl) | (apply q_mvB <;> apply Eq.refl) | (apply q_asB <;> apply Eq.refl) | (apply q_arith <;> (first | apply Eq.refl | omega)) | (apply q_len <;> apply Eq.refl) | (apply q_pkT <;> apply Eq.refl) | (apply q_pkF <;> apply Eq.refl) | (apply q_ia <;> (first | apply Eq.refl | omega)) | (apply q_ldba <;> apply Eq.refl) | (apply q_ldra <;> apply Eq.refl) | (apply q_neA; apply Eq.refl; apply Eq.refl; apply Eq.refl; apply Eq.refl; kernel_rfl))))
    | (apply WG_n; (first | (apply want_none; apply Eq.refl) | (apply want_some; apply Eq.refl; apply Eq.refl; apply Eq.refl)); (first | (apply f_alloc <;> apply Eq.refl) | (apply f_stb <;> apply Eq.refl)))
    | (apply W_cD; apply Eq.refl; intro _; rotate_left 1; intro _; rotate_left 1)
    | (apply W_cND; apply Eq.refl; intro _; rotate_left 1; intro _; rotate_left 1)
    | (apply W_cN; apply Eq.refl; intro _; rotate_left 1; intro _; rotate_left 1))
  all_goals try simp only [Int.toNat_natCast] at *
  all_goals try (((try apply fin_now); first | (apply fin_B; apply Eq.refl; apply Eq.refl; try apply Eq.refl)); symm; apply decide_eq_false; apply hne; intro e; simp_all; done)
  rotate_left 1
  · ((try apply fin_now); first | (apply fin_B; apply Eq.refl; apply Eq.refl; try apply Eq.refl)); symm; apply decide_eq_true
    exact convoy_eq (by assumption) (by assumption) (by assumption) (list_ext_getD hlen fun i h1 => hall i (by omega))
  simp only [Bool.and_true, Bool.and_eq_true, decide_eq_true_eq] at *
  have hp : (a.trucks.getD k default).lo = (b.trucks.getD k default).lo ∧ (a.trucks.getD k default).hi = (b.trucks.getD k default).hi := by assumption
  refine W_loopR [2, 3, 5, 6, 7, 37, 38, 39, 40, 41, 44, 45, 46, 47, 48, 49, 50, 51, 52, 53, 54, 55, 56, 57, 58, 59, 60, 61, 62, 63, 64, 65, 66, 67, 68, 69, 70, 71, 72, 73, 74, 75, 76, 77, 78, 79, 80, 81] [2, 3, 6, 7] (fun j : Nat => [(8, .int .i64 j)]) (fun j => []) (fun j => [])
      (fun j => j ≤ (a.trucks.getD k default).holds.length ∧ ∀ i, i < j → (a.trucks.getD k default).holds.getD i default = (b.trucks.getD k default).holds.getD i default) (fun j => (a.trucks.getD k default).holds.length - j) 0 ⟨Nat.zero_le _, fun i h => by omega⟩ (by refine ⟨?_, ?_, ?_⟩ <;> repeat' (first | exact trivial | apply And.intro | apply Eq.refl | (apply toI; apply Eq.refl; first | omega | assumption) | (apply toB; apply Eq.refl; repeat' (first | apply Eq.refl | apply consS | (apply consI; first | apply Eq.refl | omega | assumption))))) (fun j h' hj => ?_)
  obtain ⟨hj, hallj⟩ := hj
  have hhk := hh k (by omega)
  have hne2 : (a.trucks.getD k default).holds.getD j default ≠ (b.trucks.getD k default).holds.getD j default → ¬ a = b := fun h1 h2 => h1 (by rw [h2])
  repeat' (first
    | (apply WL_q; apply Eq.refl; apply Eq.refl; (first | (apply q_mvI <;> apply Eq.refl) | (apply q_asI <;> apply Eq.refl) | (apply q_ldb <;> apply Eq.refl) | (apply q_fab <;> apply Eq.refl) | (apply q_cmp <;> apply Eq.refl) | (apply q_mvB <;> apply Eq.refl) | (apply q_asB <;> apply Eq.refl) | (apply q_arith <;> (first | apply Eq.refl | omega)) | (apply q_len <;> apply Eq.refl) | (apply q_pkT <;> apply Eq.refl) | (apply q_pkF <;> apply Eq.refl) | (apply q_ia <;> (first | apply Eq.refl | omega)) | (apply q_ldba <;> apply Eq.refl) | (apply q_ldra <;> apply Eq.refl) | (apply q_neA; apply Eq.refl; apply Eq.refl; apply Eq.refl; apply Eq.refl; kernel_rfl)))
    | apply W_seq
    | apply W_region
    | apply T_normal
    | apply WL_nil
    | apply T_exit
    | apply T_ret
    | apply B_normal
    | apply B_ret
    | apply B_exit_eq
    | apply W_skip
    | apply W_exit
    | apply W_ret
    | apply W_block
    | (apply W_condT; apply Eq.refl)
    | (apply WL_n; apply Eq.refl; (first | (apply n_boxa <;> apply Eq.refl)))
    | (apply WL_yes; apply Eq.refl; apply Eq.refl; apply Eq.refl)
    | (apply WL_no; apply Eq.refl; apply Eq.refl; apply Eq.refl; apply Eq.refl; apply Eq.refl)
    | (apply L_tND; apply Eq.refl; apply Eq.refl; apply Eq.refl; intro _; rotate_left 1; intro _; rotate_left 1)
    | (apply L_tN; apply Eq.refl; apply Eq.refl; apply Eq.refl; intro _; rotate_left 1; intro _; rotate_left 1)
    | apply W_regionG
    | (apply WG_nil; kernel_rfl)
    | (apply WG_q; (first | (apply want_none; apply Eq.refl) | (apply want_some; apply Eq.refl; apply Eq.refl; apply Eq.refl)); apply Eq.refl; first | (apply fq_bld <;> apply Eq.refl) | (apply fq_blda <;> apply Eq.refl) | (apply fq_fn; apply Eq.refl) | (apply fq_mf; apply Eq.refl) | (apply FQ_intro; intro _; (first | (apply q_mvI <;> apply Eq.refl) | (apply q_asI <;> apply Eq.refl) | (apply q_ldb <;> apply Eq.refl) | (apply q_fab <;> apply Eq.refl) | (apply q_cmp <;> apply Eq.refl) | (apply q_mvB <;> apply Eq.refl) | (apply q_asB <;> apply Eq.refl) | (apply q_arith <;> (first | apply Eq.refl | omega)) | (apply q_len <;> apply Eq.refl) | (apply q_pkT <;> apply Eq.refl) | (apply q_pkF <;> apply Eq.refl) | (apply q_ia <;> (first | apply Eq.refl | omega)) | (apply q_ldba <;> apply Eq.refl) | (apply q_ldra <;> apply Eq.refl) | (apply q_neA; apply Eq.refl; apply Eq.refl; apply Eq.refl; apply Eq.refl; kernel_rfl))))
    | (apply WG_n; (first | (apply want_none; apply Eq.refl) | (apply want_some; apply Eq.refl; apply Eq.refl; apply Eq.refl)); (first | (apply f_alloc <;> apply Eq.refl) | (apply f_stb <;> apply Eq.refl)))
    | (apply W_cD; apply Eq.refl; intro _; rotate_left 1; intro _; rotate_left 1)
    | (apply W_cND; apply Eq.refl; intro _; rotate_left 1; intro _; rotate_left 1)
    | (apply W_cN; apply Eq.refl; intro _; rotate_left 1; intro _; rotate_left 1))
  all_goals try simp only [Int.toNat_natCast] at *
  all_goals try (((try apply fin_now); first | (apply fin_B; apply Eq.refl; apply Eq.refl; try apply Eq.refl)); symm; apply decide_eq_false; apply hne2; intro e; simp_all; done)
  · refine ⟨j + 1, ⟨by omega, fun i hi => ?_⟩, by omega, (by apply reach_now; refine ⟨?_, ?_, ?_, ?_, ?_⟩ <;> repeat' (first | exact trivial | apply And.intro | apply Eq.refl | (apply toI; apply Eq.refl; first | omega | assumption) | (apply toB; apply Eq.refl; repeat' (first | apply Eq.refl | apply consS | (apply consI; first | apply Eq.refl | omega | assumption)))))⟩
    rcases Nat.lt_or_eq_of_le (Nat.le_of_lt_succ hi) with h1 | h1
    · exact hallj i h1
    · subst h1
      simp only [Bool.and_true, Bool.and_eq_true, decide_eq_true_eq] at *
      exact hold_eq (by simp_all) (by simp_all)
  · refine ⟨k + 1, ⟨by omega, fun i hi => ?_⟩, by omega, (by apply reach_now; refine ⟨?_, ?_, ?_, ?_, ?_⟩ <;> repeat' (first | exact trivial | apply And.intro | apply Eq.refl | (apply toI; apply Eq.refl; first | omega | assumption) | (apply toB; apply Eq.refl; repeat' (first | apply Eq.refl | apply consS | (apply consI; first | apply Eq.refl | omega | assumption)))))⟩
    rcases Nat.lt_or_eq_of_le (Nat.le_of_lt_succ hi) with h1 | h1
    · exact hall i h1
    · subst h1
      exact truck_eq (by assumption) (by assumption) hp.1 hp.2 (list_ext_getD (by omega) fun i h1 => hallj i (by omega))
end Go.Proofs.YtafnhieaeejlcaaDoor


namespace Go.Proofs.YtafnhieaeejlcaaDoor
open Go Go.Ab
set_option maxRecDepth 100000
set_option maxHeartbeats 4000000
attribute [local irreducible] W WL QOp NOp thenQ blockQ FinQ FinR WG FQ Want FinW WI WIL thenI blockI
/-- Where the truck stops at last if nothing changes behind a minute. -/
def stopP (way len m : Int) : List Hold → Int
  | [] => len
  | h :: hs => if h.u > m then alongI way len h.a else stopP way len m hs
theorem stopP_end {way len m : Int} {hs : List Hold} {k : Nat} (hi : stopP way len m (hs.drop k) = stopP way len m hs) (h : ¬ k < hs.length) : len = stopP way len m hs := by
  rw [← hi, List.drop_eq_nil_of_le (by omega)]; rfl
theorem stopP_hit {way len m : Int} {hs : List Hold} {k : Nat} (hi : stopP way len m (hs.drop k) = stopP way len m hs) (h : k < hs.length) (h2 : (hs.getD k default).u > m) :
    alongI way len (hs.getD k default).a = stopP way len m hs := by
  rw [← hi, drop_getD _ _ h, stopP, if_pos h2]
theorem stopP_next {way len m : Int} {hs : List Hold} {k : Nat} (hi : stopP way len m (hs.drop k) = stopP way len m hs) (h : k < hs.length) (h1 : ¬ (hs.getD k default).u > m) :
    stopP way len m (hs.drop (k + 1)) = stopP way len m hs := by
  rw [← hi, drop_getD _ _ h, stopP, if_neg h1]

theorem c116 (t : Truck) (len m : Int) (hl : 1 ≤ len) (hl2 : len ≤ 100000) (ho : HOk len t.holds) : Contract seat 116 [.agg (encRide t len), .int .i64 m] (.int .i64 (stopP t.way len m t.holds)) := by
  refine contract_introW (fn := Tryd.f116) Tryd.func116 rfl (by kernel_rfl) rfl ?_ ?_ ?_
  · exact PureL.cons (.agg _ (pure_ride t len)) (PureL.cons (.int _ _) PureL.nil)
  · exact .int _ _
  intro w κ
  have hl8 := ho.1
  repeat' (first
    | (apply WL_q; apply Eq.refl; apply Eq.refl; (first | (apply q_mvI <;> apply Eq.refl) | (apply q_asI <;> apply Eq.refl) | (apply q_ldb <;> apply Eq.refl) | (apply q_fab <;> apply Eq.refl) | (apply q_cmp <;> apply Eq.refl) | (apply q_arith <;> (first | apply Eq.refl | omega)) | (apply q_len <;> apply Eq.refl) | (apply q_ia <;> (first | apply Eq.refl | omega)) | (apply q_ldba <;> apply Eq.refl) | (apply q_ldra <;> apply Eq.refl)))
    | apply W_seq
    | apply W_region
    | apply T_normal
    | apply WL_nil
    | apply T_exit
    | apply T_ret
    | apply B_normal
    | apply B_ret
    | apply B_exit_eq
    | apply W_skip
    | apply W_exit
    | apply W_ret
    | apply W_block
    | (apply WL_n; apply Eq.refl; (first | (apply n_boxa <;> apply Eq.refl) | (apply n_alloc <;> apply Eq.refl) | (apply n_stb <;> apply Eq.refl)))
    | (apply W_cD; apply Eq.refl; intro _; rotate_left 1; intro _; rotate_left 1))
  refine W_loopR [1, 2, 9, 10] [2] (fun k : Nat => [(11, .int .i64 k)]) (fun _ => []) (fun _ => []) (fun k => k ≤ t.holds.length ∧ stopP t.way len m (t.holds.drop k) = stopP t.way len m t.holds) (fun k => t.holds.length - k) 0 ⟨Nat.zero_le _, rfl⟩ (by refine ⟨?_, ?_, ?_⟩ <;> repeat' (first | exact trivial | apply And.intro | apply Eq.refl | (apply toI; apply Eq.refl; first | omega | assumption) | (apply toB; apply Eq.refl; repeat' (first | apply Eq.refl | apply consS | (apply consI; first | apply Eq.refl | omega | assumption))))) (fun k h hi => ?_)
  have hk := hi.1
  have hb : ∀ hk' : (k : Int) < t.holds.length, 1 ≤ (t.holds.getD (k : Int).toNat default).a ∧ (t.holds.getD (k : Int).toNat default).a ≤ len - 1 := fun h => by
    have := ho.2 k (by omega); simp only [Int.toNat_natCast]; omega
  repeat' (first
    | (apply WL_q; apply Eq.refl; apply Eq.refl; (first | (apply q_mvI <;> apply Eq.refl) | (apply q_asI <;> apply Eq.refl) | (apply q_ldb <;> apply Eq.refl) | (apply q_fab <;> apply Eq.refl) | (apply q_cmp <;> apply Eq.refl) | (apply q_arith <;> (first | apply Eq.refl | omega)) | (apply q_len <;> apply Eq.refl) | (apply q_ia <;> (first | apply Eq.refl | omega)) | (apply q_ldba <;> apply Eq.refl) | (apply q_ldra <;> apply Eq.refl)))
    | apply W_seq
    | apply W_region
    | apply T_normal
    | apply WL_nil
    | apply T_exit
    | apply T_ret
    | apply B_normal
    | apply B_ret
    | apply B_exit_eq
    | apply W_skip
    | apply W_exit
    | apply W_ret
    | apply W_block
    | (apply WL_call; apply Eq.refl; apply Eq.refl; rotate_left 1; apply Eq.refl; rotate_right 1; exact (c107 t len (t.holds.getD (k : Int).toNat default).a (by have := hb (by assumption); omega) (by have := hb (by assumption); omega) (by omega) (by omega)); apply Eq.refl)
    | (apply WL_n; apply Eq.refl; (first | (apply n_boxa <;> apply Eq.refl) | (apply n_alloc <;> apply Eq.refl) | (apply n_stb <;> apply Eq.refl)))
    | (apply W_cD; apply Eq.refl; intro _; rotate_left 1; intro _; rotate_left 1))
  all_goals try simp only [Int.toNat_natCast] at *
  all_goals first
    | (((try apply fin_now); first | (apply fin_I; apply Eq.refl; apply Eq.refl; try apply Eq.refl)); exact stopP_hit hi.2 (by omega) (by assumption))
    | (((try apply fin_now); first | (apply fin_I; apply Eq.refl; apply Eq.refl; try apply Eq.refl)); exact stopP_end hi.2 (by omega))
    | (refine ⟨k + 1, ⟨by omega, stopP_next hi.2 (by omega) (by omega)⟩, by omega, (by apply reach_now; refine ⟨?_, ?_, ?_, ?_, ?_⟩ <;> repeat' (first | exact trivial | apply And.intro | apply Eq.refl | (apply toI; apply Eq.refl; first | omega | assumption) | (apply toB; apply Eq.refl; repeat' (first | apply Eq.refl | apply consS | (apply consI; first | apply Eq.refl | omega | assumption)))))⟩; done)

/-- Each hold lies farther on. -/
def HSort (way len : Int) (hs : List Hold) : Prop := hs.Pairwise fun a b => alongI way len a.a < alongI way len b.a
theorem stop_eq {way len gone m : Int} : ∀ {hs : List Hold}, gone ≤ stopP way len m hs → stopR way len gone m hs = stopP way len m hs
  | [], _ => rfl
  | h :: hs, hg => by
    simp only [stopP, stopR] at hg ⊢
    by_cases e : h.u > m
    · rw [if_pos e] at hg ⊢; rw [if_pos ⟨hg, e⟩]
    · rw [if_neg e] at hg ⊢; rw [if_neg (fun h => e h.2)]; exact stop_eq hg
theorem stopP_ge {way len m x : Int} : ∀ {hs : List Hold}, x ≤ len → (∀ h ∈ hs, x ≤ alongI way len h.a) → x ≤ stopP way len m hs
  | [], h, _ => h
  | h :: hs, h1, h2 => by
    simp only [stopP]
    split
    · exact h2 h (List.mem_cons_self ..)
    · exact stopP_ge h1 fun y hy => h2 y (List.mem_cons_of_mem _ hy)
theorem stopP_mono {way len m m' : Int} (hm : m ≤ m') : ∀ {hs : List Hold}, HSort way len hs → (∀ h ∈ hs, alongI way len h.a ≤ len) → stopP way len m hs ≤ stopP way len m' hs
  | [], _, _ => Int.le_refl _
  | h :: hs, h1, h2 => by
    obtain ⟨h3, h4⟩ := List.pairwise_cons.1 h1
    have hl := h2 h (List.mem_cons_self ..)
    simp only [stopP]
    by_cases e : h.u > m
    · rw [if_pos e]
      by_cases e' : h.u > m'
      · rw [if_pos e']; exact Int.le_refl _
      · rw [if_neg e']; exact stopP_ge hl fun y hy => Int.le_of_lt (h3 y hy)
    · rw [if_neg e, if_neg (by omega)]; exact stopP_mono hm h4 fun y hy => h2 y (List.mem_cons_of_mem _ hy)
theorem along_le {way len : Int} {h : Hold} (h1 : 1 ≤ h.a) (h2 : h.a ≤ len - 1) : 1 ≤ alongI way len h.a ∧ alongI way len h.a ≤ len - 1 := by
  unfold alongI; split <;> omega
theorem posR_stop {t : Truck} {len pace : Int} (hl : 1 ≤ len) (ho : HOk len t.holds) (hso : HSort t.way len t.holds) (hp : 1 ≤ pace) : ∀ k, posR t len pace k ≤ stopP t.way len (t.start + k) t.holds
  | 0 => by
    refine Int.le_trans (show posR t len pace 0 ≤ 1 from by simp only [posR]; omega) (stopP_ge hl fun h hh => ?_)
    have := ho.mem h hh
    exact (along_le this.1 this.2.1).1
  | k + 1 => by
    have ih := posR_stop hl ho hso hp k
    simp only [posR, nextR]
    rw [stop_eq ih]
    refine Int.le_trans (Int.min_le_right _ _) (stopP_mono (by push_cast; omega) hso fun h hh => ?_)
    have := ho.mem h hh
    have := along_le (way := t.way) this.1 this.2.1
    omega
theorem posR_next {t : Truck} {len pace : Int} (hl : 1 ≤ len) (ho : HOk len t.holds) (hso : HSort t.way len t.holds) (hp : 1 ≤ pace) (k : Nat) : posR t len pace (k + 1) = min (posR t len pace k + pace) (stopP t.way len (t.start + k) t.holds) := by
  simp only [posR, nextR]
  rw [stop_eq (posR_stop hl ho hso hp k)]
end Go.Proofs.YtafnhieaeejlcaaDoor


namespace Go.Proofs.YtafnhieaeejlcaaDoor
open Go Go.Ab
set_option maxRecDepth 100000
set_option maxHeartbeats 4000000
attribute [local irreducible] W WL QOp NOp thenQ blockQ FinQ FinR WG FQ Want FinW WI WIL thenI blockI
/-- What is asked of a ride: it is a truck of a valid convoy, or one that has no holds. -/
structure ROk (len : Int) (t : Truck) : Prop where
  l1 : 1 ≤ len
  l2 : len ≤ 100000
  s1 : 0 ≤ t.start
  s2 : t.start ≤ 10000
  p1 : 1 ≤ t.lo
  p2 : t.lo ≤ t.hi
  p3 : t.hi ≤ 1000
  d1 : len ≤ 1000 * t.lo
  ho : HOk len t.holds
  so : HSort t.way len t.holds
theorem ROk.tok {len : Int} {t : Truck} (h : ROk len t) (c : Convoy) (hc : c.len = len) : TOk c t := by
  subst hc; exact ⟨h.l1, h.l2, h.s1, h.s2, h.p1, h.p2, h.p3, h.d1, h.ho⟩
theorem hitR_ok {len : Int} {t : Truck} (h : ROk len t) {pace : Int} (hp : t.lo ≤ pace) : posR t len pace (hitR t len pace) = len ∧ (∀ j, j < hitR t len pace → posR t len pace j ≠ len) ∧ hitR t len pace ≤ 11000 :=
  hitR_spec (c := ⟨len, 0, 0, []⟩) (h.tok _ rfl) hp
/-- How far the truck may have gone, k minutes behind its start. -/
def gone (t : Truck) (len : Int) (k : Nat) : Span := ⟨posR t len t.lo k, posR t len t.hi k⟩
def minV (t : Truck) (len : Int) (k : Nat) : List Value := [.int .i64 (t.start + k), .agg #[.int .i64 (gone t len k).lo, .int .i64 (gone t len k).hi]]
theorem i125 (t : Truck) (len : Int) (h : ROk len t) : ItC seat 125 [.rp (encRide t len) 0] (hitR t len t.lo + 1) (minV t len) := by
  obtain ⟨l1, l2, s1, s2, p1, p2, p3, d1, ho, so⟩ := h
  have h : ROk len t := ⟨l1, l2, s1, s2, p1, p2, p3, d1, ho, so⟩
  obtain ⟨e1, e2, e3⟩ := hitR_ok h (Int.le_refl t.lo)
  have bnd := fun k => posR_le (t := t) (pace := t.lo) l1 ho p1 k
  have bnd2 := fun k => posR_le (t := t) (pace := t.hi) l1 ho (by omega) k
  have nx1 := fun k => posR_next (t := t) (pace := t.lo) l1 ho so p1 k
  have nx2 := fun k => posR_next (t := t) (pace := t.hi) l1 ho so (by omega) k
  refine itC_intro (fn := Tryd.f125) Tryd.func125 rfl (by kernel_rfl) rfl (PureL.cons (.rp _ _ (pure_ride t len)) PureL.nil) rfl ?_
  rintro ⟨Z, nt, w, κ, l, n, vals, J, Jx, hJ, hJx, hY⟩ rfl rfl rfl rfl
  repeat' (first
    | (apply WL_q; apply Eq.refl; apply Eq.refl; (first | (apply q_mvI <;> apply Eq.refl) | (apply q_asI <;> apply Eq.refl) | (apply q_ldb <;> apply Eq.refl) | (apply q_fab <;> apply Eq.refl) | (apply q_cmp <;> apply Eq.refl) | (apply q_mvB <;> apply Eq.refl) | (apply q_ldr <;> apply Eq.refl) | (apply q_far <;> apply Eq.refl) | (apply q_arith <;> (first | apply Eq.refl | omega)) | (apply q_pkT <;> apply Eq.refl) | (apply q_pkF <;> apply Eq.refl) | (apply q_ldba <;> apply Eq.refl) | (apply q_ldra <;> apply Eq.refl) | (apply q_bld <;> apply Eq.refl) | (apply q_min <;> apply Eq.refl) | (apply q_mvYl <;> apply Eq.refl)))
    | apply W_region
    | apply WL_nil
    | apply W_skip
    | apply W_exit
    | (apply W_condF; apply Eq.refl)
    | (apply WL_n; apply Eq.refl; (first | (apply n_alloc <;> apply Eq.refl) | (apply n_stb <;> apply Eq.refl)))
    | (apply WL_yes; apply Eq.refl; apply Eq.refl; apply Eq.refl)
    | (apply WL_no; apply Eq.refl; apply Eq.refl; apply Eq.refl; apply Eq.refl; apply Eq.refl)
    | apply WI_seq
    | apply WI_block
    | apply TI_normal
    | apply TI_exit
    | apply BI_normal
    | apply BI_exit_eq
    | (apply WI_ofR; intro _)
    | (apply WI_ofC; intro _)
    | (apply W_cD; apply Eq.refl; intro _; rotate_left 1; intro _; rotate_left 1))
  refine WI_loopK [0, 1, 3] [] (α := Nat) (fun k => (k, false)) (fun k => [(4, .int .i64 (t.start + k))]) (fun _ => [(3, 1)]) (fun k => [(3, .box (encSpan (gone t len k)))]) (fun k => k ≤ hitR t len t.lo) (fun k => hitR t len t.lo - k) 0 (Nat.zero_le _) rfl (by refine ⟨?_, ?_, ?_⟩ <;> repeat' (first | exact trivial | apply And.intro | apply Eq.refl | (apply toI; apply Eq.refl; first | omega | assumption) | (apply toB; apply Eq.refl; repeat' (first | apply Eq.refl | apply consS | (apply consI; first | apply Eq.refl | omega | assumption))))) (fun k g hk => ?_)
  have g1 : 0 ≤ (gone t len k).lo ∧ (gone t len k).lo ≤ len := bnd k
  have g2 : 0 ≤ (gone t len k).hi ∧ (gone t len k).hi ≤ len := bnd2 k
  have nx1k : (gone t len (k + 1)).lo = min ((gone t len k).lo + t.lo) (stopP t.way len (t.start + k) t.holds) := nx1 k
  have nx2k : (gone t len (k + 1)).hi = min ((gone t len k).hi + t.hi) (stopP t.way len (t.start + k) t.holds) := nx2 k
  have gh : k = hitR t len t.lo → (gone t len k).lo = len := fun e => by rw [e]; exact e1
  have gn : k ≠ hitR t len t.lo → (gone t len k).lo ≠ len := fun e => e2 k (by omega)
  have st := stopP_ge (way := t.way) (m := t.start + k) (x := 1) l1 (fun h hh => (along_le (ho.mem h hh).1 (ho.mem h hh).2.1).1)
  repeat' (first
    | (apply WI_region (id := 2); apply WIL_split 3; intro _)
    | (refine And.intro rfl ?_; apply WIL_yield; apply Eq.refl; apply Eq.refl; apply Eq.refl; apply Eq.refl; apply Eq.refl; apply Eq.refl; (show k < hitR t len t.lo + 1; omega))
    | (apply WIL_of; intro _)
    | (apply WL_q; apply Eq.refl; apply Eq.refl; (first | (apply q_mvI <;> apply Eq.refl) | (apply q_asI <;> apply Eq.refl) | (apply q_ldb <;> apply Eq.refl) | (apply q_fab <;> apply Eq.refl) | (apply q_cmp <;> apply Eq.refl) | (apply q_mvB <;> apply Eq.refl) | (apply q_ldr <;> apply Eq.refl) | (apply q_far <;> apply Eq.refl) | (apply q_arith <;> (first | apply Eq.refl | omega)) | (apply q_pkT <;> apply Eq.refl) | (apply q_pkF <;> apply Eq.refl) | (apply q_ldba <;> apply Eq.refl) | (apply q_ldra <;> apply Eq.refl) | (apply q_bld <;> apply Eq.refl) | (apply q_min <;> apply Eq.refl) | (apply q_mvYl <;> apply Eq.refl)))
    | apply W_region
    | apply WL_nil
    | apply W_skip
    | apply W_exit
    | (apply W_condF; apply Eq.refl)
    | (apply WL_call; apply Eq.refl; apply Eq.refl; rotate_left 1; apply Eq.refl; rotate_right 1; exact (c116 t len (t.start + k) l1 l2 ho); apply Eq.refl)
    | (apply WL_n; apply Eq.refl; (first | (apply n_alloc <;> apply Eq.refl) | (apply n_stb <;> apply Eq.refl)))
    | (apply WL_yes; apply Eq.refl; apply Eq.refl; apply Eq.refl)
    | (apply WL_no; apply Eq.refl; apply Eq.refl; apply Eq.refl; apply Eq.refl; apply Eq.refl)
    | apply WI_seq
    | apply WI_block
    | apply TI_normal
    | apply TI_exit
    | apply BI_normal
    | apply BI_exit_eq
    | (apply WI_ofR; intro _)
    | (apply WI_ofC; intro _)
    | (apply W_cD; apply Eq.refl; intro _; rotate_left 1; intro _; rotate_left 1))
  · exact ⟨k + 1, by omega, by omega, rfl, fun U => (by apply reach_now; refine ⟨?_, ?_, ?_, ?_, ?_⟩ <;> repeat' (first | exact trivial | apply And.intro | apply Eq.refl | (apply toI; apply Eq.refl; first | omega | assumption) | (apply toB; apply Eq.refl; repeat' (first | apply Eq.refl | apply consS | (apply consI; first | apply Eq.refl | omega | assumption)))))⟩
  · exact ⟨.inl rfl, fun _ => by (show k + 1 = _); omega, by (show k + 1 ≤ _); omega⟩
  · exact ⟨.inl rfl, fun h => (by cases h), by (show k + 1 ≤ _); omega⟩
theorem c115 (t : Truck) (len : Int) : Contract seat 115 [.agg (encRide t len)] (.fn 125 [.rp (encRide t len) 0]) := by
  refine contract_introW (fn := Tryd.f115) Tryd.func115 rfl (by kernel_rfl) rfl ?_ ?_ ?_
  · exact PureL.cons (.agg _ (pure_ride t len)) PureL.nil
  · exact .fn _ _ (PureL.cons (.rp _ _ (pure_ride t len)) PureL.nil)
  intro w κ
  repeat' (first
    | (apply WL_q; apply Eq.refl; apply Eq.refl; (first | (apply q_fn <;> apply Eq.refl) | (apply q_asF <;> apply Eq.refl) | (apply q_asU <;> apply Eq.refl)))
    | apply W_seq
    | apply W_region
    | apply T_normal
    | apply WL_nil
    | apply W_ret
    | (apply WL_n; apply Eq.refl; (first | (apply n_boxa <;> apply Eq.refl))))
  refine fin_wk (wk_freeze_cap 2 0 (s := 1) rfl rfl rfl rfl rfl rfl) (fin_now ?_)
  ((try apply fin_now); first | (apply fin_Fn; apply Eq.refl; apply Eq.refl; try apply Eq.refl))
theorem c84 (c : Convoy) (k : Nat) (b : Bool) (hk : k < c.trucks.length) : Contract seat 84 [.agg (encConvoy c), .int .i64 k, .bool b] (.agg (encRide (freeT (c.trucks.getD k default) b) c.len)) := by
  refine contract_introW (fn := Tryd.f84) Tryd.func84 rfl (by kernel_rfl) rfl ?_ ?_ ?_
  · exact PureL.cons (.agg _ (pure_convoy c)) (PureL.cons (.int _ _) (PureL.cons (.bool _) PureL.nil))
  · exact .agg _ (pure_ride _ _)
  intro w κ
  cases b
  · repeat' (first
    | (apply WL_q; apply Eq.refl; apply Eq.refl; (first | (apply q_mvI <;> apply Eq.refl) | (apply q_ldb <;> apply Eq.refl) | (apply q_fab <;> apply Eq.refl) | (apply q_mvB <;> apply Eq.refl) | (apply q_ia <;> (first | apply Eq.refl | omega)) | (apply q_ldba <;> apply Eq.refl) | (apply q_ldra <;> apply Eq.refl)))
    | apply W_seq
    | apply W_region
    | apply T_normal
    | apply WL_nil
    | apply W_skip
    | apply W_ret
    | (apply W_condT; apply Eq.refl)
    | (apply W_condF; apply Eq.refl)
    | (apply WL_n; apply Eq.refl; (first | (apply n_boxa <;> apply Eq.refl) | (apply n_alloc <;> apply Eq.refl) | (apply n_stb <;> apply Eq.refl)))
    | apply W_regionG
    | (apply WG_nil; kernel_rfl)
    | (apply WG_q; (first | (apply want_none; apply Eq.refl) | (apply want_some; apply Eq.refl; apply Eq.refl; apply Eq.refl)); apply Eq.refl; first | (apply fq_bld <;> apply Eq.refl) | (apply fq_blda <;> apply Eq.refl) | (apply fq_fn; apply Eq.refl) | (apply fq_mf; apply Eq.refl) | (apply FQ_intro; intro _; (first | (apply q_mvI <;> apply Eq.refl) | (apply q_ldb <;> apply Eq.refl) | (apply q_fab <;> apply Eq.refl) | (apply q_mvB <;> apply Eq.refl) | (apply q_ia <;> (first | apply Eq.refl | omega)) | (apply q_ldba <;> apply Eq.refl) | (apply q_ldra <;> apply Eq.refl))))
    | (apply WG_n; (first | (apply want_none; apply Eq.refl) | (apply want_some; apply Eq.refl; apply Eq.refl; apply Eq.refl)); (first | (apply f_alloc <;> apply Eq.refl) | (apply f_stb <;> apply Eq.refl))))
    ((try apply fin_now); first | (apply fin_A; apply Eq.refl; apply Eq.refl; apply Eq.refl; apply Eq.refl; apply Eq.refl; apply Eq.refl; apply Eq.refl; apply Eq.refl; try apply Eq.refl))
  · repeat' (first
    | (apply WL_q; apply Eq.refl; apply Eq.refl; (first | (apply q_mvI <;> apply Eq.refl) | (apply q_ldb <;> apply Eq.refl) | (apply q_fab <;> apply Eq.refl) | (apply q_mvB <;> apply Eq.refl) | (apply q_ia <;> (first | apply Eq.refl | omega)) | (apply q_ldba <;> apply Eq.refl) | (apply q_ldra <;> apply Eq.refl)))
    | apply W_seq
    | apply W_region
    | apply T_normal
    | apply WL_nil
    | apply W_skip
    | apply W_ret
    | (apply W_condT; apply Eq.refl)
    | (apply W_condF; apply Eq.refl)
    | (apply WL_n; apply Eq.refl; (first | (apply n_boxa <;> apply Eq.refl) | (apply n_alloc <;> apply Eq.refl) | (apply n_stb <;> apply Eq.refl)))
    | apply W_regionG
    | (apply WG_nil; kernel_rfl)
    | (apply WG_q; (first | (apply want_none; apply Eq.refl) | (apply want_some; apply Eq.refl; apply Eq.refl; apply Eq.refl)); apply Eq.refl; first | (apply fq_bld <;> apply Eq.refl) | (apply fq_blda <;> apply Eq.refl) | (apply fq_fn; apply Eq.refl) | (apply fq_mf; apply Eq.refl) | (apply FQ_intro; intro _; (first | (apply q_mvI <;> apply Eq.refl) | (apply q_ldb <;> apply Eq.refl) | (apply q_fab <;> apply Eq.refl) | (apply q_mvB <;> apply Eq.refl) | (apply q_ia <;> (first | apply Eq.refl | omega)) | (apply q_ldba <;> apply Eq.refl) | (apply q_ldra <;> apply Eq.refl))))
    | (apply WG_n; (first | (apply want_none; apply Eq.refl) | (apply want_some; apply Eq.refl; apply Eq.refl; apply Eq.refl)); (first | (apply f_alloc <;> apply Eq.refl) | (apply f_stb <;> apply Eq.refl))))
    refine fin_wk (wk_nilbox 6 (l' := encRide (freeT (c.trucks.getD k default) true) c.len) rfl ⟨.inl rfl, .inl rfl, .inl rfl, .inl rfl, .inr ⟨rfl, _, _, rfl⟩, .inl rfl, trivial⟩) (fin_now ?_)
    ((try apply fin_now); first | (apply fin_A; apply Eq.refl; apply Eq.refl; apply Eq.refl; apply Eq.refl; apply Eq.refl; apply Eq.refl; apply Eq.refl; apply Eq.refl; try apply Eq.refl))
/-- A track: a ride, and how far it may have gone in each minute. -/
def goneL (t : Truck) (len : Int) : D := .sl 2 (hitR t len t.lo + 1) fun k => encSpan (gone t len k)
def encTrack (t : Truck) (len : Int) : List D := encRide t len ++ [goneL t len]
theorem pure_track (t : Truck) (len : Int) : PureL (encTrack t len) := fun d hd => by
  rcases List.mem_append.1 hd with h | h
  · exact pure_ride t len d h
  · simp at h; subst h; exact .sl _ _ _ fun _ _ d hd => pure_span _ d hd
theorem c83 (t : Truck) (len : Int) (h : ROk len t) : Contract seat 83 [.agg (encRide t len)] (.agg (encTrack t len)) := by
  have hn := (hitR_ok h (Int.le_refl t.lo)).2.2
  refine contract_introW (fn := Tryd.f83) Tryd.func83 rfl (by kernel_rfl) rfl ?_ ?_ ?_
  · exact PureL.cons (.agg _ (pure_ride t len)) PureL.nil
  · exact .agg _ (pure_track _ _)
  intro w κ
  repeat' (first
    | (apply WL_q; apply Eq.refl; apply Eq.refl; (first | (apply q_ldb <;> apply Eq.refl) | (apply q_fab <;> apply Eq.refl) | (apply q_ldba <;> apply Eq.refl) | (apply q_bld <;> apply Eq.refl)))
    | apply W_seq
    | apply W_region
    | apply T_normal
    | apply WL_nil
    | apply B_normal
    | apply W_ret
    | apply W_block
    | (apply WL_call; apply Eq.refl; apply Eq.refl; rotate_left 1; apply Eq.refl; rotate_right 1; exact (c115 t len); apply Eq.refl)
    | (apply WL_n; apply Eq.refl; (first | (apply n_boxa <;> apply Eq.refl) | (apply n_alloc <;> apply Eq.refl) | (apply n_stb <;> apply Eq.refl) | (apply n_bsl <;> apply Eq.refl))))
  refine W_wk (wk_nilc 3 6 50 47 2 (fun k => encSpan (gone t len k)) rfl rfl rfl rfl rfl) ?_
  refine W_rangeFunc rfl (i125 t len h) (fun k => [.int .i64 (t.start + k), .agg (encSpan (gone t len k))]) (fun k _ => rfl) (fun k _ => rfl) [1, 2] (fun k => [(3, 1), (50, k + 1)]) (fun k => [(3, .box (encRide t len ++ [.os 50 (k + 1)])), (50, .arr 47 2 k (fun k => encSpan (gone t len k)))]) (fun _ _ => False) ⟨⟨rfl, rfl, trivial⟩, rfl, rfl, trivial⟩ ?_ ?_ (fun _ h => h.elim) (fun _ _ h => h.elim) (fun _ _ h => h.elim)
  · intro k g hk hg κp γp svp T l Φ cl
    repeat' (first
    | (apply WL_q; apply Eq.refl; apply Eq.refl; (first | (apply q_ldb <;> apply Eq.refl) | (apply q_fab <;> apply Eq.refl) | (apply q_ldba <;> apply Eq.refl) | (apply q_bld <;> apply Eq.refl)))
    | apply W_seq
    | apply W_region
    | apply T_normal
    | apply WL_nil
    | apply B_normal
    | apply W_ret
    | apply W_block
    | (apply WL_n; apply Eq.refl; (first | (apply n_boxa <;> apply Eq.refl) | (apply n_alloc <;> apply Eq.refl) | (apply n_stb <;> apply Eq.refl) | (apply n_bsl <;> apply Eq.refl))))
    refine And.intro rfl (fun Φ' cl' => ?_)
    repeat' (first
    | (apply WL_q; apply Eq.refl; apply Eq.refl; (first | (apply q_ldb <;> apply Eq.refl) | (apply q_fab <;> apply Eq.refl) | (apply q_ldba <;> apply Eq.refl) | (apply q_bld <;> apply Eq.refl)))
    | apply W_seq
    | apply W_region
    | apply T_normal
    | apply WL_nil
    | apply B_normal
    | apply W_ret
    | apply W_block
    | (apply WL_n; apply Eq.refl; (first | (refine n_app (f' := fun k => encSpan (gone t len k)) rfl rfl rfl rfl rfl rfl rfl rfl rfl rfl rfl rfl rfl rfl rfl (by show (k + 1) * 16 ≤ _; omega) (by omega) rfl (fun i hi => rfl) (fun i hi => by (obtain rfl : i = 0 := by omega); rfl)) | (apply n_boxa <;> apply Eq.refl) | (apply n_alloc <;> apply Eq.refl) | (apply n_stb <;> apply Eq.refl) | (apply n_bsl <;> apply Eq.refl))))
    exact (by apply bq_now; refine ⟨?_, ?_, ?_⟩ <;> repeat' (first | exact trivial | apply And.intro | apply Eq.refl | (apply toI; apply Eq.refl; first | omega | assumption) | (apply toB; apply Eq.refl; repeat' (first | apply Eq.refl | apply consS | (apply consI; first | apply Eq.refl | omega | assumption)))))
  · intro g
    repeat' (first
    | (apply WL_q; apply Eq.refl; apply Eq.refl; (first | (apply q_ldb <;> apply Eq.refl) | (apply q_fab <;> apply Eq.refl) | (apply q_ldba <;> apply Eq.refl) | (apply q_bld <;> apply Eq.refl)))
    | apply W_seq
    | apply W_region
    | apply T_normal
    | apply WL_nil
    | apply B_normal
    | apply W_ret
    | apply W_block
    | (apply WL_n; apply Eq.refl; (first | (apply n_boxa <;> apply Eq.refl) | (apply n_alloc <;> apply Eq.refl) | (apply n_stb <;> apply Eq.refl) | (apply n_bsl <;> apply Eq.refl))))
    refine fin_wk (wk_freeze_cell 2 6 (s := 50) rfl rfl rfl rfl rfl) (fin_now ?_)
    ((try apply fin_now); first | (apply fin_A; apply Eq.refl; apply Eq.refl; apply Eq.refl; apply Eq.refl; apply Eq.refl; apply Eq.refl; apply Eq.refl; apply Eq.refl; try apply Eq.refl))
end Go.Proofs.YtafnhieaeejlcaaDoor

