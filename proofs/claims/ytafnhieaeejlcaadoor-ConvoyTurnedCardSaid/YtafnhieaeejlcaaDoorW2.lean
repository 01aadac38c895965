/- Walks by computing: what each function of the program that the laws reach gives for what it gets, as plain Lean, and that it is so; without a condition but those that stand in each theorem. -/
import Derived.Shelf.Abstract
import Derived.Test.YtafnhieaeejlcaaDoorW1
set_option linter.all false
namespace Go.Ab
open Go Go.RowKit
def ReachK (X : Ctx) (S S' : St) (kr kp : List Nat) (rs : List (Nat × D)) (gs : List (Nat × Nat)) (os : List (Nat × Own)) : Prop := ∃ S'', Wk X S' S'' ∧ MatchK S S'' kr kp rs gs os
section
variable {X : Ctx} {Q : Exit → St → Prop} {S S' S'' : St} {kr kp : List Nat} {rs : List (Nat × D)} {gs : List (Nat × Nat)} {os : List (Nat × Own)}
theorem reach_now (h : MatchK S S' kr kp rs gs os) : ReachK X S S' kr kp rs gs os := ⟨S', Wk.refl _ _, h⟩
theorem W_loopR {c : Code} {α : Type} (kr kp : List Nat) (rs : α → List (Nat × D)) (gs : α → List (Nat × Nat)) (os : α → List (Nat × Own)) (inv : α → Prop) (μ : α → Nat) (x0 : α) (h0 : inv x0) (hs : AllE S.ρ (rs x0) ∧ AllE S.γ (gs x0) ∧ AllE S.σ (os x0))
    (round : ∀ x h, inv x → W X c (thenQ (fun S' => ∃ x', inv x' ∧ μ x' < μ x ∧ ReachK X S S' kr kp (rs x') (gs x') (os x')) Q) (mkK S kr kp (rs x) (gs x) (os x) h)) : W X (.loop c) Q S := by
  refine W_loop (α := α × (Nat → Nat)) (fun x => mkK S kr kp (rs x.1) (gs x.1) (os x.1) x.2) (fun x => inv x.1) (fun x => μ x.1) (x0, S.γ) h0
    (wk_mk ⟨allE_append hs.1 (keepR_ok S kr), allE_append hs.2.1 (keepG_ok S kp), allE_append hs.2.2 (keepO_ok S kp)⟩) (fun x hi => ?_)
  refine W_mono (round x.1 x.2 hi) (fun e S' hq => ?_)
  cases e with
  | normal =>
    obtain ⟨x', h1, h2, S'', h3, h4⟩ := hq
    exact ⟨(x', S''.γ), h1, h2, h3.trans (wk_mk (matchK_match h4))⟩
  | _ => exact hq
end
def fieldOk (P : Program) (f : Field) : D → Bool
  | .int _ _ => f.name != "_" && (match P.underlying f.type with | some (.int _) => true | _ => false)
  | .bool _ => f.name != "_" && (match P.underlying f.type with | some .bool => true | _ => false)
  | _ => false
def fieldsOk (P : Program) : List Field → List D → Nat → Bool
  | [], [], _ => true
  | f :: fs, d :: ds, n => fieldOk P f d && Nat.beq f.offset n && fieldsOk P fs ds (n + 1)
  | _, _, _ => false
def flatB (P : Program) (T : TypeId) (l : List D) : Bool := match P.underlying T with
  | some (.struct fs) => !P.stoodInHeld T && fieldsOk P fs.toList l 0 && !P.eqGuardType P.depth T
  | _ => false
def eqL : List D → List D → Option Bool
  | [], [] => some true
  | .int k a :: l, .int k' b :: m => match k == k', eqL l m with | true, some r => some (decide (a = b) && r) | _, _ => none
  | .bool a :: l, .bool b :: m => match eqL l m with | some r => some (a == b && r) | none => none
  | _, _ => none
section
variable {P : Program} {κ : Nat → Nat → Option Value} {γ : Nat → Nat} {sv : Nat → Value}
theorem run_fields (w : World) (d : Nat) : ∀ (fs : List Field) (l m : List D) (xs ys : List Value) (pre pre' : List Value) (b : Bool), RepL κ γ sv l xs → RepL κ γ sv m ys → pre.length = pre'.length →
    fieldsOk P fs l pre.length = true → eqL l m = some b → (Op.eqFields (d + 1) (pre ++ xs).toArray (pre' ++ ys).toArray fs).run P w = .ok b w := by
  intro fs
  induction fs with
  | nil =>
    intro l m xs ys pre pre' b h1 h2 hp hf he
    cases l with
    | cons x l => simp [fieldsOk] at hf
    | nil =>
      cases m with
      | nil => simp [eqL] at he; subst he; simp [Op.eqFields]
      | cons x m => simp [eqL] at he
  | cons f fs ih =>
    intro l m xs ys pre pre' b h1 h2 hp hf he
    cases l with
    | nil => simp [fieldsOk] at hf
    | cons x l =>
      simp only [fieldsOk, Bool.and_eq_true] at hf
      obtain ⟨⟨hf1, hf2⟩, hf3⟩ := hf
      have hoff := Nat.eq_of_beq_eq_true hf2
      cases m with
      | nil => cases x <;> simp [eqL] at he
      | cons y m =>
        cases h1 with
        | cons _ vx _ vxs r1 rs1 =>
          cases h2 with
          | cons _ vy _ vys r2 rs2 =>
            have key : ∀ (r b' : Bool), f.name ≠ "_" → P.plainKey f.type = true → eqL l m = some b' → (Op.equalIn (d + 1) f.type vx vy).run P w = .ok r w → b = (r && b') → (Op.eqFields (d + 1) (pre ++ vx :: vxs).toArray (pre' ++ vy :: vys).toArray (f :: fs)).run P w = .ok b w := by
              intro r b' hn hk hb' hr hb
              have p1 : (part f.type (pre ++ vx :: vxs).toArray f.offset).run P w = .ok vx w := run_part_plain w hk (by rw [hoff]; simp)
              have p2 : (part f.type (pre' ++ vy :: vys).toArray f.offset).run P w = .ok vy w := run_part_plain w hk (by rw [hoff, hp]; simp)
              have hrest := ih l m vxs vys (pre ++ [vx]) (pre' ++ [vy]) b' rs1 rs2 (by simp [hp]) (by rw [List.length_append]; exact hf3) hb'
              simp only [List.append_assoc, List.singleton_append] at hrest
              simp only [Op.eqFields, hn, ne_eq, not_false_eq_true, if_true, Sem.run_bind, p1, p2, hr, Result.andThen_ok]
              cases r with
              | false => simp [hb]
              | true => simpa [hb] using hrest
            cases x <;> cases y <;> simp only [eqL] at he <;> try (cases he; done)
            · rename_i k1 a k2 c
              cases r1; cases r2
              simp only [fieldOk, Bool.and_eq_true] at hf1
              obtain ⟨hn, hu⟩ := hf1
              cases hkk : k1 == k2 with
              | false => rw [hkk] at he; simp at he
              | true =>
                have : k1 = k2 := by simpa using hkk
                subst this
                rw [hkk] at he
                cases he2 : eqL l m with
                | none => rw [he2] at he; cases he
                | some r =>
                  rw [he2] at he
                  simp only [Option.some.injEq] at he
                  cases hT : P.underlying f.type with
                  | none => simp [hT] at hu
                  | some dd =>
                    cases dd <;> simp [hT] at hu
                    refine key (a == c) r (by simpa using hn) (by simp [Program.plainKey, hT]) he2 (by simp [Op.equalIn, run_underlying hT]) (by rw [← he]; first | rfl | simp)
            · rename_i a c
              cases r1; cases r2
              simp only [fieldOk, Bool.and_eq_true] at hf1
              obtain ⟨hn, hu⟩ := hf1
              cases he2 : eqL l m with
              | none => rw [he2] at he; cases he
              | some r =>
                rw [he2] at he
                simp only [Option.some.injEq] at he
                cases hT : P.underlying f.type with
                | none => simp [hT] at hu
                | some dd =>
                  cases dd <;> simp [hT] at hu
                  refine key (a == c) r (by simpa using hn) (by simp [Program.plainKey, hT]) he2 (by simp [Op.equalIn, run_underlying hT]) (by rw [← he])
theorem run_eq_flat (w : World) (d : Nat) {T : TypeId} {l m : List D} {xs ys : List Value} {b : Bool} (hf : flatB P T l = true) (h1 : RepL κ γ sv l xs) (h2 : RepL κ γ sv m ys) (he : eqL l m = some b) :
    (Op.equalIn (d + 2) T (.agg xs.toArray) (.agg ys.toArray)).run P w = .ok b w := by
  unfold flatB at hf
  cases hu : P.underlying T with
  | none => simp [hu] at hf
  | some dd =>
    cases dd <;> simp only [hu] at hf <;> try (cases hf; done)
    rename_i fs
    simp only [Bool.and_eq_true, Bool.not_eq_true'] at hf
    have hfs : P.fieldsOf T = fs := by simp [Program.fieldsOf, hu]
    rw [run_equalIn_struct w (d + 1) T _ _ (by rw [hfs]; exact hu) hf.1.1, hfs]
    exact run_fields w d fs.toList l m xs ys [] [] b h1 h2 rfl hf.1.2 he
theorem flat_guard {T : TypeId} {l : List D} (hf : flatB P T l = true) : P.eqGuardType P.depth T = false := by
  unfold flatB at hf
  cases hu : P.underlying T with
  | none => simp [hu] at hf
  | some dd =>
    cases dd <;> simp only [hu] at hf <;> try (cases hf; done)
    simp only [Bool.and_eq_true, Bool.not_eq_true'] at hf
    exact hf.2
end
def fields2Ok (P : Program) : List Field → List D → Nat → Bool
  | [], [], _ => true
  | f :: fs, l, n => f.name != "_" && flatB P f.type (l.take (P.cellsOf f.type)) && Nat.beq f.offset n && Nat.beq (l.take (P.cellsOf f.type)).length (P.cellsOf f.type) && fields2Ok P fs (l.drop (P.cellsOf f.type)) (n + P.cellsOf f.type)
  | _, _, _ => false
def flat2B (P : Program) (T : TypeId) (l : List D) : Bool := match P.underlying T with
  | some (.struct fs) => !P.stoodInHeld T && fields2Ok P fs.toList l 0 && !P.eqGuardType P.depth T
  | _ => false
def flatA (P : Program) (T : TypeId) (l : List D) : Bool := flatB P T l || flat2B P T l
theorem eqL_split : ∀ (n : Nat) (l m : List D) (b : Bool), eqL l m = some b → ∃ b1 b2, eqL (l.take n) (m.take n) = some b1 ∧ eqL (l.drop n) (m.drop n) = some b2 ∧ b = (b1 && b2)
  | 0, l, m, b, h => ⟨true, b, by simp [eqL], by simpa using h, by simp⟩
  | n + 1, [], [], b, h => ⟨true, true, by simp [eqL], by simp [eqL], by simp [eqL] at h; subst h; rfl⟩
  | n + 1, [], _ :: _, b, h => by simp [eqL] at h
  | n + 1, x :: l, [], b, h => by cases x <;> simp [eqL] at h
  | n + 1, x :: l, y :: m, b, h => by
    cases x <;> cases y <;> simp only [eqL] at h <;> try (cases h; done)
    · rename_i k1 a k2 c
      cases hkk : k1 == k2 with
      | false => rw [hkk] at h; simp at h
      | true =>
        rw [hkk] at h
        cases h2 : eqL l m with
        | none => rw [h2] at h; cases h
        | some r =>
          rw [h2] at h
          simp only [Option.some.injEq] at h
          obtain ⟨b1, b2, q1, q2, q3⟩ := eqL_split n l m r h2
          refine ⟨decide (a = c) && b1, b2, ?_, by simpa using q2, by rw [← h, q3, Bool.and_assoc]⟩
          simp only [List.take_succ_cons, eqL, hkk, q1]
    · rename_i a c
      cases h2 : eqL l m with
      | none => rw [h2] at h; cases h
      | some r =>
        rw [h2] at h
        simp only [Option.some.injEq] at h
        obtain ⟨b1, b2, q1, q2, q3⟩ := eqL_split n l m r h2
        refine ⟨(a == c) && b1, b2, ?_, by simpa using q2, by rw [← h, q3, Bool.and_assoc]⟩
        simp only [List.take_succ_cons, eqL, q1]
section
variable {P : Program} {κ : Nat → Nat → Option Value} {γ : Nat → Nat} {sv : Nat → Value}
theorem RepL.drop' : ∀ {l : List D} {vs : List Value}, RepL κ γ sv l vs → ∀ n, RepL κ γ sv (l.drop n) (vs.drop n)
  | _, _, h, 0 => by simpa using h
  | _, _, .nil, n + 1 => by simpa using RepL.nil
  | _, _, .cons d v l vs h1 h2, n + 1 => by simpa using RepL.drop' h2 n
theorem run_part_struct (w : World) {T : TypeId} {l : List D} (hf : flatB P T l = true) {pre xs : List Value} {off : Nat} (ho : off = pre.length) :
    (part T (pre ++ xs).toArray off).run P w = .ok (.agg (xs.take (P.cellsOf T)).toArray) w := by
  unfold flatB at hf
  cases hu : P.underlying T with
  | none => simp [hu] at hf
  | some dd =>
    cases dd <;> simp only [hu] at hf <;> try (cases hf; done)
    obtain ⟨i, hi⟩ := info_of_underlying hu
    have hc : P.cellsOf T = i.size := by simp [Program.cellsOf, hi]
    have he : ((pre ++ xs).toArray.extract off (off + i.size)) = (xs.take i.size).toArray := by
      apply Array.ext'
      rw [Array.toList_extract]
      simp [List.extract, ho]
    rw [hc, ← he]
    simp [part, isAgg, run_underlying hu, sizeOf, typeInfo, hi]
theorem run_fields2 (w : World) (d : Nat) : ∀ (fs : List Field) (l m : List D) (xs ys : List Value) (pre pre' : List Value) (b : Bool), RepL κ γ sv l xs → RepL κ γ sv m ys → pre.length = pre'.length →
    fields2Ok P fs l pre.length = true → eqL l m = some b → (Op.eqFields (d + 2) (pre ++ xs).toArray (pre' ++ ys).toArray fs).run P w = .ok b w := by
  intro fs
  induction fs with
  | nil =>
    intro l m xs ys pre pre' b h1 h2 hp hf he
    cases l with
    | cons x l => simp [fields2Ok] at hf
    | nil =>
      cases m with
      | nil => simp [eqL] at he; subst he; simp [Op.eqFields]
      | cons x m => simp [eqL] at he
  | cons f fs ih =>
    intro l m xs ys pre pre' b h1 h2 hp hf he
    simp only [fields2Ok, Bool.and_eq_true] at hf
    obtain ⟨⟨⟨⟨hn, hf1⟩, hf2⟩, hf4⟩, hf3⟩ := hf
    have hoff := Nat.eq_of_beq_eq_true hf2
    have hz := Nat.eq_of_beq_eq_true hf4
    have hn : f.name ≠ "_" := by simpa using hn
    obtain ⟨b1, b2, q1, q2, q3⟩ := eqL_split (P.cellsOf f.type) l m b he
    have hl1 := (h1.take (P.cellsOf f.type)).length
    have hll : (m.take (P.cellsOf f.type)).length = P.cellsOf f.type := by
      have : ∀ (l m : List D) (b : Bool), eqL l m = some b → l.length = m.length := by
        intro l
        induction l with
        | nil => intro m b h; cases m <;> simp [eqL] at h ⊢
        | cons x l ih2 =>
          intro m b h
          cases m with
          | nil => cases x <;> simp [eqL] at h
          | cons y m =>
            have : ∃ b', eqL l m = some b' := by
              cases x <;> cases y <;> simp only [eqL] at h <;> try (cases h; done)
              · rename_i k1 a k2 c
                cases hkk : k1 == k2 <;> rw [hkk] at h
                · simp at h
                · cases h2 : eqL l m with
                  | none => rw [h2] at h; cases h
                  | some r => exact ⟨r, rfl⟩
              · cases h2 : eqL l m with
                | none => rw [h2] at h; cases h
                | some r => exact ⟨r, rfl⟩
            obtain ⟨b', hb'⟩ := this
            simp [ih2 m b' hb']
      rw [← this _ _ _ q1, hz]
    have hl2 := (h2.take (P.cellsOf f.type)).length
    have p1 := run_part_struct (P := P) w hf1 (pre := pre) (xs := xs) (off := f.offset) hoff
    have p2 := run_part_struct (P := P) w hf1 (pre := pre') (xs := ys) (off := f.offset) (by rw [hoff, hp])
    have hr := run_eq_flat (P := P) w d hf1 (h1.take _) (h2.take _) q1
    have hrest := ih (l.drop (P.cellsOf f.type)) (m.drop (P.cellsOf f.type)) (xs.drop (P.cellsOf f.type)) (ys.drop (P.cellsOf f.type)) (pre ++ xs.take (P.cellsOf f.type)) (pre' ++ ys.take (P.cellsOf f.type)) b2 (h1.drop' _) (h2.drop' _)
      (by rw [List.length_append, List.length_append, hl1, hl2, hz, hll, hp]) (by rw [List.length_append, hl1, hz]; exact hf3) q2
    simp only [List.append_assoc, List.take_append_drop] at hrest
    simp only [Op.eqFields, hn, ne_eq, not_false_eq_true, if_true, Sem.run_bind, p1, p2, hr, Result.andThen_ok]
    cases b1 with
    | false => simp [q3]
    | true => simpa [q3] using hrest
theorem run_eq_flat2 (w : World) (d : Nat) {T : TypeId} {l m : List D} {xs ys : List Value} {b : Bool} (hf : flatA P T l = true) (h1 : RepL κ γ sv l xs) (h2 : RepL κ γ sv m ys) (he : eqL l m = some b) :
    (Op.equalIn (d + 3) T (.agg xs.toArray) (.agg ys.toArray)).run P w = .ok b w := by
  unfold flatA at hf
  rw [Bool.or_eq_true] at hf
  rcases hf with hf | hf
  · exact run_eq_flat w (d + 1) hf h1 h2 he
  unfold flat2B at hf
  cases hu : P.underlying T with
  | none => simp [hu] at hf
  | some dd =>
    cases dd <;> simp only [hu] at hf <;> try (cases hf; done)
    rename_i fs
    simp only [Bool.and_eq_true, Bool.not_eq_true'] at hf
    have hfs : P.fieldsOf T = fs := by simp [Program.fieldsOf, hu]
    rw [run_equalIn_struct w (d + 2) T _ _ (by rw [hfs]; exact hu) hf.1.1, hfs]
    exact run_fields2 w d fs.toList l m xs ys [] [] b h1 h2 rfl hf.1.2 he
theorem flat_guardA {T : TypeId} {l : List D} (hf : flatA P T l = true) : P.eqGuardType P.depth T = false := by
  unfold flatA at hf
  rw [Bool.or_eq_true] at hf
  rcases hf with hf | hf
  · exact flat_guard hf
  unfold flat2B at hf
  cases hu : P.underlying T with
  | none => simp [hu] at hf
  | some dd =>
    cases dd <;> simp only [hu] at hf <;> try (cases hf; done)
    simp only [Bool.and_eq_true, Bool.not_eq_true'] at hf
    exact hf.2
end
section
variable {X : Ctx} {S : St} {o : Oper} {T T2 : TypeId} {x y : Operand}
theorem ev_agg {κ : Nat → Nat → Option Value} {sv : Nat → Value} {a : Act} {w : World} (hs : Sim X κ sv S a w) {l : List D} (h : S.ev X x = .agg l) : ∃ vs, a.eval x = .agg vs.toArray ∧ RepL κ S.γ sv l vs := by
  have h1 := hs.ev x
  rw [h] at h1
  generalize a.eval x = v at h1
  cases h1 with
  | agg _ vs hv => exact ⟨vs, rfl, hv⟩
theorem q_eqA {l m : List D} {b : Bool} (ho : o.op = .binOp .eql T x y T2) (hx : S.ev X x = .agg l) (hy : S.ev X y = .agg m) (he : eqL l m = some b) (hf : flatA X.Z.P T l = true) : QOp X o S (.bool b) := fun κ sv a w hs => by
  obtain ⟨xs, e1, r1⟩ := ev_agg hs hx
  obtain ⟨ys, e2, r2⟩ := ev_agg hs hy
  refine ⟨.bool b, .bool _, fun w' _ => ?_⟩
  have := run_eq_flat2 (P := X.Z.P) w' 9997 hf r1 r2 he
  simp [execOp, ho, e1, e2, eqGuard, binOp, Op.equal, Op.maxDepth, this, flat_guardA hf]
theorem q_neA {l m : List D} {b : Bool} (ho : o.op = .binOp .neq T x y T2) (hx : S.ev X x = .agg l) (hy : S.ev X y = .agg m) (he : eqL l m = some b) (hf : flatA X.Z.P T l = true) : QOp X o S (.bool (!b)) := fun κ sv a w hs => by
  obtain ⟨xs, e1, r1⟩ := ev_agg hs hx
  obtain ⟨ys, e2, r2⟩ := ev_agg hs hy
  refine ⟨.bool (!b), .bool _, fun w' _ => ?_⟩
  have := run_eq_flat2 (P := X.Z.P) w' 9997 hf r1 r2 he
  simp [execOp, ho, e1, e2, eqGuard, binOp, Op.equal, Op.maxDepth, this, flat_guardA hf]
end
section
variable {X : Ctx} {Q : Exit → St → Prop} {S S' : St} {ops : Array Oper} {o : Oper} {rest : List Oper} {T : TypeId} {r q : TRow}
theorem n_bsl0 {ps : Array (Nat × Operand)} {t z : Nat} {E : TypeId} (f : Nat → List D) (ho : o.op = .buildSlice T 0 ps) (hd : o.dst = some t) (hps : ps = #[])
    (hr : nth X.Z.tab T = some r) (hk : Nat.beq r.k 3 = true) (hE : r.el = E) (hq : nth X.Z.tab E = some q) (hq9 : Nat.beq q.k 9 = false) (hz : q.sz = z) :
    NOp X o S (S.owned t t (.arr E z 0 f)) := fun κ sv a w hs => by
  have hokr := X.Z.tabOk _ _ hr (by intro e; rw [e] at hk; cases hk)
  have hokq := X.Z.tabOk _ _ hq (by intro e; rw [e] at hq9; cases hq9)
  obtain ⟨iq, dq, hiq, hdq, hsq, hbq, ⟨zv, hzv, hzf⟩, _⟩ := row_info hokq
  have hu := slice_row hokr hk
  rw [hE] at hu
  have hrun : (execOp a.eval o).run X.Z.P w = .ok (.value (.slice (some ⟨w.heap.size, 0, none⟩) 0 0)) (w.alloc (.cells #[] E)) := by
    have hz0 : (Array.range 0).map (fun _ => (default : Value)) = #[] := by
      apply Array.eq_empty_of_size_eq_zero; simp
    simp [execOp, ho, hps, Instr.buildSlice, run_underlying hu, sizeOf, typeInfo, hiq, newRow, Instr.fill, hz0]
  have hb' : Below w.heap.size w (w.alloc (.cells #[] E)) := (Below.refl _ _).alloc (Nat.le_refl _) _
  rw [hd]
  refine ⟨_, _, κ, _, .inl hrun, sim_owned hs t t (pv := .slice (some ⟨w.heap.size, 0, none⟩) 0 0) rfl (below_grown hb' _) (fun b hb => by simp only [blk, Option.some.injEq] at hb; exact .inl (by omega)) ?_⟩
  refine ⟨[], by rw [upd_same]; exact ⟨by simp, .inr ⟨w.heap.size, 0, 0, #[], rfl, (hs.wld.baseS _), heap_alloc_new w _, Nat.le_refl _, Nat.zero_le _, by simp, by simp⟩⟩, fun i h => by omega, fun i h => by omega, fun i h => by omega⟩
theorem n_bslo {ps : Array (Nat × Operand)} {n z t : Nat} {xs : List Operand} {E : TypeId} {cs : List (List D)} (ho : o.op = .buildSlice T n ps) (hd : o.dst = some t) (hsq : seqP 0 ps.toList = some xs) (hn : Nat.beq xs.length n = true)
    (hr : nth X.Z.tab T = some r) (hk : Nat.beq r.k 3 = true) (hE : r.el = E) (hq : nth X.Z.tab E = some q) (hq9 : Nat.beq q.k 9 = false) (hz : q.sz = z) (hz0 : Nat.beq z 0 = false) (hn0 : Nat.beq n 0 = false) (hsm : Nat.ble (n * z) 16777216 = true) (hc : evC X S xs = cs) (hok : okC z cs = true) :
    NOp X o S (S.owned t t (.arr E z n (nthD cs))) := fun κ sv a w hs => by
  subst hc
  obtain ⟨hrun, hfl⟩ := run_bsl hs ho hsq hn hr hk hE hq hq9 hz hz0 hn0 hsm hok
  obtain ⟨hrep, hcells⟩ := evC_rep hs hok
  have hlen : xs.length = n := Nat.eq_of_beq_eq_true hn
  have hz1 : 0 < z := by
    cases z with
    | zero => cases hz0
    | succ z => omega
  have hle : n * z ≤ 16777216 := Nat.le_of_ble_eq_true hsm
  have hnz : n ≤ n * z := Nat.le_mul_of_pos_right n hz1
  have hb' : Below w.heap.size w (w.alloc (.cells ((xs.map a.eval).map (·.cells.toList)).flatten.toArray E)) := (Below.refl _ _).alloc (Nat.le_refl _) _
  rw [hd]
  refine ⟨_, _, κ, _, .inl hrun, sim_owned hs t t (pv := .slice (some ⟨w.heap.size, 0, none⟩) n n) rfl (below_grown hb' _) (fun b hb => by simp only [blk, Option.some.injEq] at hb; exact .inl (by omega)) ?_⟩
  have hnth : ∀ i, i < n → ∃ c, nth (evC X S xs) i = some c ∧ nthD (evC X S xs) i = c := by
    intro i hi
    rw [nth_eq]
    have : i < (evC X S xs).length := by rw [evC_length, hlen]; exact hi
    exact ⟨(evC X S xs)[i], by simp [this], by simp [nthD, nth_eq, this]⟩
  refine ⟨((xs.map a.eval).map (·.cells.toList)).flatten, by rw [upd_same]; exact ⟨hfl, .inr ⟨w.heap.size, 0, n, ((xs.map a.eval).map (·.cells.toList)).flatten.toArray, rfl, (hs.wld.baseS _), heap_alloc_new w _, Nat.le_refl _, by unfold maxLen; omega, by rw [List.size_toArray, hfl]; omega, by rw [List.drop_zero, List.take_of_length_le (by simp only [List.toList_toArray]; omega)]⟩⟩, fun i hi => ?_, fun i hi => ?_, fun i hi => ?_⟩
  · obtain ⟨c, h1, h2⟩ := hnth i hi; rw [h2]; exact (hrep i c h1).1
  · obtain ⟨c, h1, h2⟩ := hnth i hi; rw [h2]; exact (hrep i c h1).2.1
  · obtain ⟨c, h1, h2⟩ := hnth i hi
    obtain ⟨_, _, v, h3, h4⟩ := hrep i c h1
    rw [h2]
    have hch : ((((xs.map a.eval).map (·.cells.toList)).flatten).drop (i * z)).take z = v.cells.toList := by
      apply List.ext_getElem?
      intro j
      rw [List.getElem?_take]
      split
      · rename_i hj
        rw [List.getElem?_drop, flat_at _ (z := z) (fun c hc => by
          obtain ⟨v, hv, rfl⟩ := List.mem_map.1 hc
          simpa using (hcells v hv).1) i j hj]
        rw [List.getElem?_map, h3]; rfl
      · rename_i hj
        have hv : v ∈ xs.map a.eval := List.mem_of_getElem? h3
        have := (hcells v hv).1
        rw [List.getElem?_eq_none (by simp at this ⊢; omega)]
    rw [hch]
    exact h4.mono (le_renew κ S.γ sv t _)
theorem wk_freeze_elem (t i j : Nat) {s g E z n E2 z2 n2 : Nat} {f f2 f2' : Nat → List D} {l0 l' : List D} (hσt : S.σ t = .arr E2 z2 n2 f2) (hne : Nat.beq t s = false) (hi : i < n2) (h0 : f2 i = l0) (hl : nth l0 j = some (.os s g)) (hg : S.γ s = g) (hσ : S.σ s = .arr E z n f) (hl' : overN l0 j [.sl z n f] = some l') (hf : ∀ k, k < n2 → f2' k = if k = i then l' else f2 k) (hxa : X.xa s = false := by rfl) :
    Wk X S ⟨S.ρ, S.γ, upd (upd S.σ s .none) t (.arr E2 z2 n2 f2')⟩ := fun κ sv a w hs => by
  have hle := freeze_le hs.wld s
  subst h0
  have hne : t ≠ s := fun e => by rw [e, Nat.beq_refl] at hne; cases hne
  have hW := hs.wld.freeze s (arr_new hs.wld hσ hxa) S.ρ
  obtain ⟨hl'e, hlen⟩ := overN_eq hl'
  have hown := hW.own t
  simp only [upd_ne _ _ _ _ hne, hσt] at hown
  obtain ⟨xs, e1, e2, e3, e4⟩ := hown
  have hsim : SimW X (fun b o => if blk (S.σ s) (sv s) = some b then w.cell? ⟨b, o, none⟩ else κ b o) sv ⟨S.ρ, S.γ, upd (upd S.σ s .none) t (.arr E2 z2 n2 f2')⟩ w := by
    refine hW.rewrite t (.arr E2 z2 n2 f2') (below_grown (Below.refl _ _) _) (by
      simp only [upd_ne _ _ _ _ hne, hσt]
      cases sv t with
      | pointer a => cases a <;> rfl
      | slice a => cases a <;> rfl
      | map a => cases a <;> rfl
      | _ => rfl) ⟨xs, e1, fun k hk => ?_, fun k hk => ?_, fun k hk => ?_⟩ _
    · rw [hf k hk]
      split
      · rename_i h; subst h; rw [hl'e]; have := e2 k hk; simp at hlen ⊢; omega
      · exact e2 k hk
    · rw [hf k hk]
      split
      · rename_i h; subst h; rw [hl'e]; exact allCell_append (allCell_append (allCell_take (e3 k hk) _) rfl) (allCell_drop (e3 k hk) _)
      · exact e3 k hk
    · rw [hf k hk]
      split
      · rename_i h
        subst h
        rw [hl'e]
        have e3' := e4 k hk
        rw [nth_eq] at hl
        obtain ⟨vj, hvj, hrj⟩ := e3'.get hl
        generalize (xs.drop (k * z2)).take z2 = cs at e3' hvj
        have hjl : j < cs.length := (List.getElem?_eq_some_iff.1 hvj).1
        have hcs : cs = cs.take j ++ [vj] ++ cs.drop (j + 1) := by
          have h3 : cs[j] = vj := by simpa [List.getElem?_eq_getElem hjl] using hvj
          rw [← h3, List.append_assoc, List.singleton_append, List.getElem_cons_drop, List.take_append_drop]
        rw [hcs]
        refine ((e3'.take j).append (.cons _ _ _ _ ?_ .nil)).append (e3'.drop _)
        have hv : vj = sv s := by
          cases hrj with
          | os _ _ _ _ hh _ => exact hh hg.symm
        rw [hv]
        exact frozen_rep hs.wld hσ hle (fun b o v hb hc => by simp [hb, hc])
      · exact e4 k hk
  exact ⟨_, sv, ⟨hs.size, hs.defers, fun i hi => (hs.slot i hi).mono hle, hsim⟩⟩
theorem wk_nilc (t j s : Nat) (E z : Nat) (f : Nat → List D) {l l' : List D} (hσt : S.σ t = .box l) (hne : Nat.beq t s = false) (hs0 : S.σ s = .none) (hl : nth l j = some .nil) (hl' : overN l j [.os s (S.γ s + 1)] = some l') :
    Wk X S ⟨S.ρ, upd S.γ s (S.γ s + 1), upd (upd S.σ s (.arr E z 0 f)) t (.box l')⟩ := fun κ sv a w hs => by
  have hne : t ≠ s := fun e => by rw [e, Nat.beq_refl] at hne; cases hne
  obtain ⟨rfl, hlen⟩ := overN_eq hl'
  have hle := le_renew κ S.γ sv s (.slice none 0 0)
  have hW := hs.wld.renew s (.arr E z 0 f) (.slice none 0 0) (below_grown (Below.refl _ _) _) (fun b hb => by cases hb)
      ⟨[], by rw [upd_same]; exact ownsAt_nil _ _ _ _, fun _ h => by omega, fun _ h => by omega, fun _ h => by omega⟩ S.ρ
  refine ⟨κ, upd sv s (.slice none 0 0), ⟨hs.size, hs.defers, fun i hi => (hs.slot i hi).mono hle, ?_⟩⟩
  have hown := hW.own t
  simp only [upd_ne _ _ _ _ hne, hσt] at hown
  obtain ⟨b, Tb, cs, e1, e2, e3, e4⟩ := hown
  refine hW.rewrite t (.box _) (below_grown (Below.refl _ _) _) (by simp only [upd_ne _ _ _ _ hne, hσt] at e1 ⊢; rw [e1]; rfl) ⟨b, Tb, cs, e1, e2, ?_, ?_⟩ _
  · rw [nth_eq] at hl
    obtain ⟨vj, hvj, hrj⟩ := e3.get hl
    have hjl : j < cs.length := (List.getElem?_eq_some_iff.1 hvj).1
    have hcs : cs = cs.take j ++ [vj] ++ cs.drop (j + 1) := by
      have h3 : cs[j] = vj := by simpa [List.getElem?_eq_getElem hjl] using hvj
      rw [← h3, List.append_assoc, List.singleton_append, List.getElem_cons_drop, List.take_append_drop]
    rw [hcs]
    refine ((e3.take j).append (.cons _ _ _ _ ?_ .nil)).append (e3.drop _)
    cases hrj
    exact .os _ _ _ (by rw [upd_same]; exact Nat.le_refl _) (fun _ => by rw [upd_same]) rfl
  · exact ⟨allCell_append (allCell_append (allCell_take e4.1 _) rfl) (allCell_drop e4.1 _), fun T0 e => e4.2 T0 (mbT_over rfl _ _ _ _ e)⟩
theorem f_bsl0 {ps : Array (Nat × Operand)} {t z : Nat} {E : TypeId} (f : Nat → List D) (ho : o.op = .buildSlice T 0 ps) (hd : o.dst = some t) (hps : ps = #[])
    (hr : nth X.Z.tab T = some r) (hk : Nat.beq r.k 3 = true) (hE : r.el = E) (hq : nth X.Z.tab E = some q) (hq9 : Nat.beq q.k 9 = false) (hz : q.sz = z) :
    FN X o S [t] (wB t) ⟨.os t (S.γ t + 1), S.γ t + 1, .arr E z 0 f⟩ := ⟨fun T hT hs => by
  have h := n_bsl0 (S := T) f ho hd hps hr hk hE hq hq9 hz
  have : T.owned t t (.arr E z 0 f) = T.app (wB t) ⟨.os t (S.γ t + 1), S.γ t + 1, .arr E z 0 f⟩ := by
    unfold St.owned St.app; rw [hs t (by simp)]; rfl
  rw [← this]; exact h⟩
theorem updF_same (f : Nat → List D) (i : Nat) (l : List D) : updF f i l i = l := by simp [updF]
theorem updF_ne (f : Nat → List D) {i k : Nat} (l : List D) (h : k ≠ i) : updF f i l k = f k := by simp [updF, h]
end
section
variable {X : Ctx} {S : St} {o : Oper} {x : Operand}
theorem q_mvT {l : List D} (ho : o.op = .move x) (hd : S.ev X x = .tup l) : QOp X o S (.tup l) := q_move ho hd
theorem q_mvP {s g z i j : Nat} (ho : o.op = .move x) (hd : S.ev X x = .op s g z i j) : QOp X o S (.op s g z i j) := q_move ho hd
theorem q_asP {s g z i j : Nat} (ho : o.op = .assign x) (hd : S.ev X x = .op s g z i j) : QOp X o S (.op s g z i j) := q_assign ho hd
theorem q_mvF {f : FuncId} {l : List D} (ho : o.op = .move x) (hd : S.ev X x = .fn f l) : QOp X o S (.fn f l) := q_move ho hd
theorem q_asF {f : FuncId} {l : List D} (ho : o.op = .assign x) (hd : S.ev X x = .fn f l) : QOp X o S (.fn f l) := q_assign ho hd
end
section
variable {X : Ctx} {S : St} {rs : List ResultVar}
theorem fin_Sl {t z n n' : Nat} {f f' : Nat → List D} (hr : rs = [.tmp t]) (h : S.ev X (.tmp t) = .sl z n f) (e : n = n') (e2 : f = f') : FinQ X rs (.sl z n' f') .ret S := ⟨[.sl z n f], by rw [hr]; exact ⟨h, trivial⟩, by rw [e, e2]; rfl⟩
end
def FinW (X : Ctx) (rs : List ResultVar) (R : D) : Exit → St → Prop := fun e S => ∃ S', Wk X S S' ∧ FinQ X rs R e S'
section
variable {X : Ctx} {S S' : St} {rs : List ResultVar} {R : D} {e : Exit}
theorem fin_now (h : FinQ X rs R e S) : FinW X rs R e S := ⟨S, Wk.refl _ _, h⟩
theorem fin_wk (hw : Wk X S S') (h : FinW X rs R e S') : FinW X rs R e S :=
  let ⟨T, h1, h2⟩ := h
  ⟨T, hw.trans h1, h2⟩
theorem W_fin {c : Code} (h : W X c (FinW X rs R) S) : W X c (FinQ X rs R) S := fun κ sv a w hs => by
  refine wpIn_mono (h κ sv a w hs) ?_
  rintro e a' w' ⟨κ', sv', S', hs', S'', hw, hq⟩
  obtain ⟨κ2, sv2, hs2⟩ := hw κ' sv' a' w' hs'
  exact ⟨κ2, sv2, S'', hs2, hq⟩
end
theorem contract_introW {Z : Seat} {f : FuncId} {fn : Func} {c : Code} {A : List D} {R : D} (hf : Z.P.funcs[f]? = some fn) (hb : fn.body = some c) (hname : (fn.name == "runtime.NumGoroutine") = false) (hn : Nat.ble A.length fn.ntmps = true) (hA : PureL A) (hR : Pure R)
    (h : ∀ w κ, W (Ctx.plain Z fn.ntmps w κ none) c (FinW (Ctx.plain Z fn.ntmps w κ none) fn.results.toList R) (St.init A)) : Contract Z f A R :=
  contract_intro hf hb hname hn hA hR fun w κ => W_fin (h w κ)
section
variable {X : Ctx} {S : St} {o : Oper} {T : TypeId} {r q : TRow}
theorem restr_ev {h : Nat → Nat} {x : Operand} (hx : x ∈ o.op.operands.toList) : (restr S (lcOf X S o) h).ev X x = S.ev X x := ev_congr fun t e => by
  subst e
  simp only [restr]
  have h1 : memN t (lcOf X S o).rr = true := memN_iff.2 (slots_mem hx)
  rw [h1]; rfl
theorem restr_parts {h : Nat → Nat} : ∀ {l : List (Nat × Operand)}, (∀ p ∈ l, p.2 ∈ o.op.operands.toList) → partsD X (restr S (lcOf X S o) h) l = partsD X S l ∧ partsOk X (restr S (lcOf X S o) h) l = partsOk X S l
  | [], _ => ⟨rfl, rfl⟩
  | (i, x) :: l, hl => by
    obtain ⟨h1, h2⟩ := restr_parts (h := h) (l := l) fun p hp => hl p (List.mem_cons_of_mem _ hp)
    have h3 := restr_ev (S := S) (X := X) (h := h) (hl (i, x) (List.mem_cons_self ..))
    simp only at h3
    simp only [partsD, partsOk, h1, h2, h3, and_self]
theorem fq_bld {ps : Array (Nat × Operand)} {l : List D} (ho : o.op = .build T ps) (hr : nth X.Z.tab T = some r) (hk : Nat.beq r.k 1 = true) (hp : partsOk X S ps.toList = true)
    (hb : bldN (plF r.fl) (r.zs.map Zr.toD) (partsD X S ps.toList) = some l) : FQ X o S (.agg l) := fun h => by
  have hm : ∀ p ∈ ps.toList, p.2 ∈ o.op.operands.toList := fun p hp => by rw [ho]; simp only [Op.operands]; exact List.mem_map.2 ⟨p, hp, rfl⟩
  obtain ⟨h1, h2⟩ := restr_parts (X := X) (S := S) (h := h) hm
  exact q_bld ho hr hk (h2.trans hp) (by rw [h1]; exact hb)
theorem fq_blda {ps : Array (Nat × Operand)} {l : List D} {E : TypeId} (ho : o.op = .build T ps) (hr : nth X.Z.tab T = some r) (hk : Nat.beq r.k 2 = true) (hE : r.el = E) (hq : nth X.Z.tab E = some q) (hq9 : Nat.beq q.k 9 = false) (hp : partsOk X S ps.toList = true)
    (hb : bldN (fun i => some (i * q.sz, q.sz)) (r.zs.map Zr.toD) (partsD X S ps.toList) = some l) : FQ X o S (.agg l) := fun h => by
  have hm : ∀ p ∈ ps.toList, p.2 ∈ o.op.operands.toList := fun p hp => by rw [ho]; simp only [Op.operands]; exact List.mem_map.2 ⟨p, hp, rfl⟩
  obtain ⟨h1, h2⟩ := restr_parts (X := X) (S := S) (h := h) hm
  exact q_blda ho hr hk hE hq hq9 (h2.trans hp) (by rw [h1]; exact hb)
theorem fq_fn {cs : Array Operand} {f : FuncId} (ho : o.op = .makeFunc (.func f) #[] cs) : FQ X o S (.fn f (cs.toList.map (S.ev X))) := fun h => by
  have h1 : cs.toList.map (S.ev X) = cs.toList.map ((restr S (lcOf X S o) h).ev X) := List.map_congr_left fun x hx => (restr_ev (by rw [ho]; simp [Op.operands]; simpa using hx)).symm
  rw [h1]; exact q_fn ho
end
end Go.Ab
namespace Go.Ab
open Go Go.RowKit Go.Shelf
def growT (T : Nat → Prop) (W W' : World) : Nat → Prop := fun b => T b ∨ (W.heap.size ≤ b ∧ b < W'.heap.size)
structure Kept (T : Nat → Prop) (κ : Nat → Nat → Option Value) (W W' : World) : Prop where
  size : W.heap.size ≤ W'.heap.size
  mine : ∀ b, T b → W'.heap[b]? = W.heap[b]?
  cell : ∀ b o v, κ b o = some v → W'.cell? ⟨b, o, none⟩ = some v
  row : ∀ b o v, κ b o = some v → W'.heap[b]? = W.heap[b]?
def giveT (T G : Nat → Prop) : Nat → Prop := fun b => T b ∧ ¬ G b
structure Given (T G : Nat → Prop) (κ κi : Nat → Nat → Option Value) (W : World) (its : List D) (vs : List Value) : Prop where
  mine : ∀ b, G b → T b
  from' : ∀ b o v, κi b o = some v → (κ b o = some v ∨ G b) ∧ W.cell? ⟨b, o, none⟩ = some v
  rep : RepL κi γ0 sv0 its vs
structure ItC (Z : Seat) (gf : FuncId) (cap : List D) (n : Nat) (its : Nat → List D) : Prop where
  body : HasBody Z.P gf
  pureI : ∀ k, k < n → PureL (its k)
  pureC : PureL cap
  it : ∀ (w : World) (κ : Nat → Nat → Option Value) (lb : List Value), Fits κ w → GlobOk Z κ w → RepL κ γ0 sv0 cap lb → ∀ (l : Nat) (J Jx : (Nat → Prop) → Nat → World → Prop),
    (∀ T k W W', J T k W → Step T W W' → J (growT T W W') k W') →
    (∀ T k W W', Jx T k W → Step T W W' → Jx (growT T W W') k W') →
    (∀ T k W vs G κi, J T k W → k < n → (∀ b o v, κ b o = some v → W.cell? ⟨b, o, none⟩ = some v) → Given T G κ κi W (its k) vs → YieldAt Fence.wide 0 Z.P l vs.toArray W fun e W' =>
      ((e = .returned (.bool true) ∧ J (giveT T G) (k + 1) W') ∨ (e = .returned (.bool false) ∧ Jx (giveT T G) (k + 1) W')) ∧ Kept (giveT T G) κ W W') →
    J (fun _ => False) 0 w →
    CallsIn Fence.wide 0 Z.P gf (Value.func (.yield l) #[] #[] :: lb).toArray w fun e W' => (∃ v, e = .returned v) ∧ ((∃ T, J T n W') ∨ (∃ T k, k ≤ n ∧ Jx T k W'))
def protF (w0 : World) (ext : Option Nat) (T : Nat → Prop) (wT : World) (M : Nat → Prop) (w : World) : Prop :=
  (∃ M', plainF w0 ext M' w ∧ ∀ b, M b → M' b) ∧ (∀ b, M b → ¬ T b) ∧ (∀ b, T b → b < wT.heap.size ∧ w.heap[b]? = wT.heap[b]?) ∧ wT.heap.size ≤ w.heap.size
theorem prot_fr (Z : Seat) (w0 : World) (ext : Option Nat) (T : Nat → Prop) (wT : World) : ∀ M w, protF w0 ext T wT M w → ∀ g n, Z.gsz g = some n → g < w0.heap.size → ext ≠ some g → ¬ (fun _ : Nat => False) g → RowSz w0 g n → RowSz w g n := fun M w h g n hn hk he hx hr => by
  obtain ⟨⟨M', h1, _⟩, _⟩ := h
  exact plain_fr Z w0 ext M' w h1 g n hn hk he hx hr
theorem prot_cl (w0 : World) (ext : Option Nat) (T : Nat → Prop) (wT : World) : ∀ M w w', protF w0 ext T wT M w → Step M w w' → protF w0 ext T wT (fun k => M k ∨ w.heap.size ≤ k) w' := by
  rintro M w w' ⟨⟨M', h1, h2⟩, h3, h4, h5⟩ hs
  refine ⟨⟨_, plain_cl w0 ext M' w w' h1 ⟨hs.os, hs.tape, hs.output, hs.size, fun k hk hm => hs.block k hk fun h => hm (h2 k h)⟩, fun b hb => hb.imp (h2 b) id⟩, fun b hb hT => ?_, fun b hT => ?_, Nat.le_trans h5 hs.size⟩
  · rcases hb with hb | hb
    · exact h3 b hb hT
    · have := (h4 b hT).1; omega
  · obtain ⟨e1, e2⟩ := h4 b hT
    exact ⟨e1, (hs.block b (by omega) (fun hm => h3 b hm hT)).trans e2⟩
section
variable {Z : Seat} {nt : Nat} {w0 : World} {κ0 κp : Nat → Nat → Option Value} {ext : Option Nat} {γp : Nat → Nat} {svp : Nat → Value} {T : Nat → Prop}
theorem SimW.other {κ : Nat → Nat → Option Value} {sv : Nat → Value} {S : St} {W W' : World} {ro : Option Nat} {cl : _} {fr : _} (h : SimW ⟨Z, nt, w0, κ0, ext, fun _ => False, κp, γp, svp, T, false, ro, plainF w0 ext, cl, fr, fun _ => false⟩ κ sv S W) (hs : Step T W W') (hT : ∀ b, T b → w0.heap.size ≤ b) :
    SimW ⟨Z, nt, w0, κ0, ext, fun _ => False, κp, γp, svp, growT T W W', false, ro, plainF w0 ext, cl, fr, fun _ => false⟩ κ sv S W' := by
  obtain ⟨h1, h2, h3, h4, h5, ⟨M, h6, h6'⟩, h7, h8, h9, h10, h11, h12, h13, h14, h15⟩ := h
  have hlt : ∀ b o v, κ b o = some v → b < W.heap.size := fun b o v hk => by have := World.block_lt_of_cell? W _ (h1 b o v hk); simpa using this
  refine ⟨fun b o v hk => ?_, fun s => owns_mono (Le.refl _ _ _) rfl (fun b hb => hs.block b (owns_lt (h2 s) hb) (h13 s b hb)) (h2 s), h3, h4, h5, ⟨M, ?_, h6'⟩, h7, h8, h9, Nat.le_trans h10 hs.size, h11, fun b o v hk hT' => ?_, fun s b hb hT' => ?_, fun b hT' => ?_, h15⟩
  · rw [World.cell?_of_block (hs.block b (hlt b o v hk) (h12 b o v hk))]; exact h1 b o v hk
  · refine ⟨⟨hs.os.trans h6.1.os, hs.tape.trans h6.1.tape, hs.output.trans h6.1.output, Nat.le_trans h6.1.size hs.size, fun k hk he => ?_⟩, h6.2⟩
    exact (hs.block k (Nat.lt_of_lt_of_le hk h6.1.size) (fun hm => by have := hT k hm; omega)).trans (h6.1.block k hk he)
  · rcases hT' with hT' | ⟨hT', _⟩
    · exact h12 b o v hk hT'
    · have := hlt b o v hk; omega
  · rcases hT' with hT' | ⟨hT', _⟩
    · exact h13 s b hb hT'
    · have := owns_lt (h2 s) hb; omega
  · rcases hT' with hT' | ⟨_, hT'⟩
    · exact Nat.lt_of_lt_of_le (h14 b hT') hs.size
    · exact hT'
theorem SimW.reframe {κ : Nat → Nat → Option Value} {sv : Nat → Value} {S : St} {W W' : World} {nd nd' : Bool} {ro ro' : Option Nat} {Φ Φ' : (Nat → Prop) → World → Prop} {cl : _} {cl' : _} {fr : _} {fr' : _} {T' : Nat → Prop} {κp' : Nat → Nat → Option Value} {γp' : Nat → Nat} {svp' : Nat → Value}
    (h : SimW ⟨Z, nt, w0, κ0, ext, fun _ => False, κp, γp, svp, T, nd, ro, Φ, cl, fr, fun _ => false⟩ κ sv S W) {D : Nat} (hg : W.grownBy W' (some D)) (hn : ∃ o : Obj, W.heap[D]? = some o ∧ isDat o = false)
    (hΦ : ∀ M, Φ M W → (∀ s b, blk (S.σ s) (sv s) = some b → M b) → ∃ M', Φ' M' W' ∧ ∀ s b, blk (S.σ s) (sv s) = some b → M' b) (hT : ∀ b, T' b → T b) (hle : Le κp' κ γp' S.γ svp' sv) :
    SimW ⟨Z, nt, w0, κ0, ext, fun _ => False, κp', γp', svp', T', nd', ro', Φ', cl', fr', fun _ => false⟩ κ sv S W' := by
  obtain ⟨h1, h2, h3, h4, h5, ⟨M, h6, h6'⟩, h7, h8, h9, h10, h11, h12, h13, h14, h15⟩ := h
  obtain ⟨o0, ho1, ho2⟩ := hn
  have hne : ∀ s b, blk (S.σ s) (sv s) = some b → W'.heap[b]? = W.heap[b]? := fun s b hb => hg.block b (owns_lt (h2 s) hb) (fun e => by
    obtain ⟨o, e1, e2⟩ := owns_cells (h2 s) hb
    simp only [Option.some.injEq] at e
    subst e
    rw [ho1] at e1; cases e1; rw [ho2] at e2; cases e2)
  exact ⟨fun b o v hk => cell_kept (h1 b o v hk) hg (fun r e => by cases e; exact ⟨o0, ho1, isDat_no ho2⟩), fun s => owns_mono (Le.refl _ _ _) rfl (hne s) (h2 s), h3, h4, h5, hΦ M h6 h6', h7, h8, h9, Nat.le_trans h10 hg.size, hle,
    fun b o v hk hb => h12 b o v hk (hT b hb), fun s b hb hb' => h13 s b hb (hT b hb'), fun b hb => Nat.lt_of_lt_of_le (h14 b (hT b hb)) hg.size, h15⟩
def joinK (κ κi : Nat → Nat → Option Value) : Nat → Nat → Option Value := fun b o => match κ b o with | some v => some v | none => κi b o
theorem SimW.more {κ κi : Nat → Nat → Option Value} {sv : Nat → Value} {S : St} {W : World} {G : Nat → Prop} {its : List D} {vs : List Value} {cl : _} {fr : _} (h : SimW ⟨Z, nt, w0, κ0, ext, fun _ => False, κp, γp, svp, T, false, none, plainF w0 ext, cl, fr, fun _ => false⟩ κ sv S W) (hT : ∀ b, T b → w0.heap.size ≤ b) (hg : Given T G κp κi W its vs) :
    SimW ⟨Z, nt, w0, κ0, ext, fun _ => False, κp, γp, svp, giveT T G, false, none, plainF w0 ext, cl, fr, fun _ => false⟩ (joinK κ κi) sv S W ∧ (∀ b o v, κi b o = some v → joinK κ κi b o = some v) := by
  obtain ⟨h1, h2, h3, h4, h5, h6, h7, h8, h9, h10, h11, h12, h13, h14, h15⟩ := h
  have hle : Le κ (joinK κ κi) S.γ S.γ sv sv := ⟨fun b o v hk => by simp only [joinK, hk], fun _ => Nat.le_refl _, fun _ _ => rfl⟩
  have hnew : ∀ b o v, joinK κ κi b o = some v → κ b o = some v ∨ (κ b o = none ∧ κi b o = some v ∧ G b) := fun b o v hk => by
    unfold joinK at hk
    cases hq : κ b o with
    | some u => rw [hq] at hk; exact .inl hk
    | none =>
      rw [hq] at hk
      rcases (hg.from' b o v hk).1 with h | h
      · have := h11.cells b o v h; rw [hq] at this; cases this
      · exact .inr ⟨rfl, hk, h⟩
  refine ⟨⟨fun b o v hk => ?_, fun s => owns_mono hle rfl (fun _ _ => rfl) (h2 s), h3, fun s b o hs => ?_, h5, h6, fun g l hl => ?_, fun b o v hb hk => ?_, h9, h10, h11.trans hle, fun b o v hk hq => ?_, fun s b hb hq => h13 s b hb hq.1, fun b hb => h14 b hb.1, h15⟩, fun b o v hk => ?_⟩
  · rcases hnew b o v hk with h | ⟨_, h, _⟩
    · exact h1 b o v h
    · exact (hg.from' b o v h).2
  · cases hq : joinK κ κi b o with
    | none => rfl
    | some v =>
      rcases hnew b o v hq with h | ⟨_, _, h⟩
      · rw [h4 s b o hs] at h; cases h
      · exact absurd (hg.mine b h) (h13 s b hs)
  · obtain ⟨hc, u, hu, hk⟩ := h7 g l hl
    exact ⟨hc, u, hu.mono hle, fun j v hj => hle.cells _ _ _ (hk j v hj)⟩
  · rcases hnew b o v hk with h | ⟨_, _, h⟩
    · exact h8 b o v hb h
    · have := hT b (hg.mine b h)
      have hb : b < w0.heap.size := hb
      omega
  · rcases hnew b o v hk with h | ⟨_, _, h⟩
    · exact h12 b o v h hq.1
    · exact hq.2 h
  · unfold joinK
    cases hq : κ b o with
    | none => exact hk
    | some u =>
      have e1 := h1 b o u hq
      rw [(hg.from' b o v hk).2] at e1
      exact e1.symm
def setps (ρ : Nat → D) : List Nat → List D → Nat → D
  | t :: ts, d :: ds => setps (upd ρ t d) ts ds
  | _, _ => ρ
theorem slots_set {κ : Nat → Nat → Option Value} {γ : Nat → Nat} {sv : Nat → Value} : ∀ (ts : List Nat) (ds : List D) (vs : List Value) (ρ : Nat → D) (tm : Array Value), RepL κ γ sv ds vs → (∀ i, i < nt → Rep κ γ sv (ρ i) (tm.getD i Go.undef)) → tm.size = nt →
    (∀ i, i < nt → Rep κ γ sv (setps ρ ts ds i) (((ts.zip vs).foldl (fun (t : Array Value) (x : Nat × Value) => t.setIfInBounds x.1 x.2) tm).getD i Go.undef)) ∧ ((ts.zip vs).foldl (fun (t : Array Value) (x : Nat × Value) => t.setIfInBounds x.1 x.2) tm).size = nt
  | [], _, _, _, _, _, h, hz => ⟨h, hz⟩
  | t :: ts, _, _, ρ, tm, .nil, h, hz => ⟨h, hz⟩
  | t :: ts, _, _, ρ, tm, .cons d v ds vs h1 h2, h, hz => by
    simp only [setps, List.zip_cons_cons, List.foldl_cons]
    refine slots_set ts ds vs (upd ρ t d) (tm.setIfInBounds t v) h2 (fun i hi => ?_) (by simpa using hz)
    rw [getD_set]
    by_cases e : t = i
    · subst e; rw [if_pos ⟨rfl, by omega⟩, upd_same]; exact h1
    · rw [if_neg (fun h => e h.1), upd_ne _ _ _ _ (fun h => e h.symm)]; exact h i hi
noncomputable def rnd (S : St) (kp : List Nat) (gs : List (Nat × Nat)) (os : List (Nat × Own)) (h : Nat → Nat) : St := ⟨S.ρ, lookF h (gs ++ keepG S kp), look .none (os ++ keepO S kp)⟩
def ReachF (X : Ctx) (S S' : St) (kp : List Nat) (gs : List (Nat × Nat)) (os : List (Nat × Own)) : Prop := ∃ S'', Wk X S' S'' ∧ AllE S''.γ gs ∧ AllE S''.σ os ∧ KeepP S S'' kp
def roundX (Z : Seat) (nt : Nat) (w0 : World) (κ0 : Nat → Nat → Option Value) (ext : Option Nat) (κp : Nat → Nat → Option Value) (γp : Nat → Nat) (svp : Nat → Value) (T : Nat → Prop) (l : Nat) (Φ : (Nat → Prop) → World → Prop) (cl : ∀ M w w', Φ M w → Step M w w' → Φ (fun k => M k ∨ w.heap.size ≤ k) w') (fr : ∀ M w, Φ M w → ∀ g n, Z.gsz g = some n → g < w0.heap.size → ext ≠ some g → ¬ (fun _ : Nat => False) g → RowSz w0 g n → RowSz w g n) : Ctx :=
  ⟨Z, nt, w0, κ0, ext, fun _ => False, κp, γp, svp, T, false, some l, Φ, cl, fr, fun _ => false⟩
def bodyQ (X : Ctx) (S : St) (kp : List Nat) (gs : List (Nat × Nat)) (os : List (Nat × Own)) (Qx : Code → St → Prop) : Exit → St → Prop
  | .normal, S' => ReachF X S S' kp gs os
  | .ret, S' => Qx .ret S'
  | .exit i, S' => Qx (.exit i) S'
  | _, _ => False
def RoundOk (Z : Seat) (nt : Nat) (w0 : World) (κ0 : Nat → Nat → Option Value) (ext : Option Nat) (assign body : Code) (S S1 : St) (kp : List Nat) (gs' : List (Nat × Nat)) (os' : List (Nat × Own)) (Qx : Code → St → Prop) : Prop :=
  ∀ κp γp svp T l Φ cl fr, W (roundX Z nt w0 κ0 ext κp γp svp T l Φ cl fr) assign (fun e S2 => e = .normal ∧ ∀ Φ' cl' fr', W (roundX Z nt w0 κ0 ext κp γp svp T l Φ' cl' fr') body (bodyQ (roundX Z nt w0 κ0 ext κp γp svp T l Φ' cl' fr') S kp gs' os' Qx) S2) S1
theorem W_rangeFunc {g : Operand} {ps : Array Nat} {assign body : Code} {S : St} {Q : Exit → St → Prop} {gf : FuncId} {cap : List D} {n : Nat} (args : Nat → List D)
    (hg : S.ev (Ctx.plain Z nt w0 κ0 ext) g = .fn gf cap) (hc : ItC Z gf cap n args) (hps : ∀ k, k < n → (args k).length = ps.size)
    (kp : List Nat) (gs : Nat → List (Nat × Nat)) (os : Nat → List (Nat × Own)) (Qx : Code → St → Prop) (h0 : AllE S.γ (gs 0) ∧ AllE S.σ (os 0))
    (hround : ∀ k h, k < n → (∀ s, S.γ s ≤ lookF h (gs k ++ keepG S kp) s) → RoundOk Z nt w0 κ0 ext assign body S ⟨setps S.ρ ps.toList (args k), lookF h (gs k ++ keepG S kp), look .none (os k ++ keepO S kp)⟩ kp (gs (k + 1)) (os (k + 1)) Qx)
    (hdone : ∀ h, Q .normal (rnd S kp (gs n) (os n) h)) (hret : ∀ S', Qx .ret S' → Q .ret ⟨S.ρ, S'.γ, S'.σ⟩) (hexit : ∀ i S', Qx (.exit i) S' → Q (.exit i) ⟨S.ρ, S'.γ, S'.σ⟩) (hQx : ∀ c S', Qx c S' → c = .ret ∨ ∃ i, c = .exit i) :
    W (Ctx.plain Z nt w0 κ0 ext) (.rangeFunc g ps assign body) Q S := by
  intro κ sv a w hs
  have hev := hs.ev g
  rw [hg] at hev
  obtain ⟨lb, hae, hlb⟩ : ∃ lb : List Value, a.eval g = .func (.func gf) #[] lb.toArray ∧ RepL κ S.γ sv cap lb := by
    generalize a.eval g = v at hev
    cases hev with
    | fn _ _ vs hl => exact ⟨vs, rfl, hl⟩
  obtain ⟨fnb, cb, hf1, hf2, hf3⟩ := hc.body
  obtain ⟨Ds, d1, d2, d3, _⟩ := hs.defers
  refine wpIn_rangeFunc ?_
  intro fn hfn
  obtain ⟨rec, hrec⟩ : ∃ rec : LoopState → Option Code → Loop, rec = fun st pe => { state := st, pending := pe, fn, tmps := a.tmps, params := ps, assign, body, defers := w.heap.size } := ⟨_, rfl⟩
  obtain ⟨W1, hW1⟩ : ∃ W1, (w.alloc (.deferred (some []))).alloc (.loop (rec .ready none)) = W1 := ⟨_, rfl⟩
  have hsz1 : W1.heap.size = w.heap.size + 2 := by rw [← hW1]; simp
  have hL1 : W1.heap[w.heap.size + 1]? = some (.loop (rec .ready none)) := by
    rw [← hW1]; have := World.alloc_heap_new (w.alloc (.deferred (some []))) (.loop (rec .ready none)); rwa [World.size_alloc] at this
  have hK1 : W1.heap[w.heap.size]? = some (.deferred (some [])) := by
    rw [← hW1]; exact (Below.heap_alloc _ _ _ (by simp)).trans (World.alloc_heap_new w _)
  have hb1 : Below w.heap.size w W1 := by
    rw [← hW1]; exact ((Below.refl _ w).alloc (Nat.le_refl _) _).alloc (by simp) _
  have hs1 := hs.later hb1
  refine ⟨w.heap.size + 1, [mark w.heap.size], W1, { target := .fn (.func gf) lb.toArray, args := #[.func (.yield (w.heap.size + 1)) #[] #[]] }, W1, gf,
    (Value.func (.yield (w.heap.size + 1)) #[] #[] :: lb).toArray, W1, ?_, ?_, ?_, ?_, fun h => (by simp [Ctx.F, Fence.wide] at h), ?_⟩
  · rw [← hW1, hrec]; exact run_enterLoop_outer _ _ _ _ _
  · simp only [resolve, hae]
    simp [go_sem]
  · intro f' hf'; trivial
  · have eg : ∀ args w, (callFunc gf args).run (Ctx.plain Z nt w0 κ0 ext).Z.P w = .ok (.enter gf args) w := fun args w => by
      have h1 : fnb.name ≠ "runtime.NumGoroutine" := by simpa using hf3
      have hf1' : (Ctx.plain Z nt w0 κ0 ext).Z.P.funcs[gf]? = some fnb := hf1
      simp [callFunc, hf1', h1, hf2, Go.mark]
    simp [invoke, go_sem, eg]
  -- what holds between two rounds
  let XP : (Nat → Prop) → Ctx := fun T => ⟨Z, nt, w0, κ0, ext, fun _ => False, κ, S.γ, sv, T, false, none, plainF w0 ext, plain_cl w0 ext, plain_fr Z w0 ext, fun _ => false⟩
  let others : World → Prop := fun W => ∀ (b : Nat) (o : Obj), w.heap[b]? = some o → isDat o = false → W.heap[b]? = some o
  let J : (Nat → Prop) → Nat → World → Prop := fun T k W => (∃ κ' sv' h, SimW (XP T) κ' sv' (rnd S kp (gs k) (os k) h) W) ∧ (∀ b, T b → W1.heap.size ≤ b) ∧ W.heap[w.heap.size + 1]? = some (.loop (rec .ready none)) ∧ W.heap[w.heap.size]? = some (.deferred (some [])) ∧ others W
  let Jx : (Nat → Prop) → Nat → World → Prop := fun T _ W => ∃ c, (∃ κ' sv' S', SimW (XP T) κ' sv' S' W ∧ Qx c S') ∧ (∀ b, T b → W1.heap.size ≤ b) ∧ W.heap[w.heap.size + 1]? = some (.loop (rec .done (some c))) ∧ W.heap[w.heap.size]? = some (.deferred (some [])) ∧ others W
  have hbase := hs.wld.base
  have hbase' : w0.heap.size ≤ w.heap.size := hbase
  have stp : ∀ {T : Nat → Prop} {W W' : World} {b : Nat} {o : Obj}, Step T W W' → (∀ b, T b → W1.heap.size ≤ b) → b < W1.heap.size → W.heap[b]? = some o → W'.heap[b]? = some o := fun hst hT hb ho => by
    rw [hst.block _ (Array.getElem?_eq_some_iff.1 ho).1 (fun h => by have := hT _ h; omega)]; exact ho
  have growT_ge : ∀ {T : Nat → Prop} {W W' : World}, (∀ b, T b → W1.heap.size ≤ b) → W1.heap.size ≤ W.heap.size → ∀ b, growT T W W' b → W1.heap.size ≤ b := fun hT hW b hb => by
    rcases hb with hb | ⟨hb, _⟩
    · exact hT b hb
    · omega
  have szOf : ∀ {W : World} {o : Obj}, W.heap[w.heap.size + 1]? = some o → W1.heap.size ≤ W.heap.size := fun h => by
    have := (Array.getElem?_eq_some_iff.1 h).1; omega
  have oth_stp : ∀ {T : Nat → Prop} {W W' : World}, Step T W W' → (∀ b, T b → W1.heap.size ≤ b) → others W → others W' := fun hst hT ho b o hb hc => by
    refine stp hst hT ?_ (ho b o hb hc)
    have := (Array.getElem?_eq_some_iff.1 hb).1; omega
  have hJc : ∀ T k W W', J T k W → Step T W W' → J (growT T W W') k W' := by
    rintro T k W W' ⟨⟨κ', sv', h, hw⟩, hT, hl, hk, ho⟩ hst
    exact ⟨⟨κ', sv', h, hw.other hst (fun b hb => by have := hT b hb; omega)⟩, growT_ge hT (szOf hl), stp hst hT (by omega) hl, stp hst hT (by omega) hk, oth_stp hst hT ho⟩
  have hJxc : ∀ T k W W', Jx T k W → Step T W W' → Jx (growT T W W') k W' := by
    rintro T k W W' ⟨c, ⟨κ', sv', S', hw, hq⟩, hT, hl, hk, ho⟩ hst
    exact ⟨c, ⟨κ', sv', S', hw.other hst (fun b hb => by have := hT b hb; omega), hq⟩, growT_ge hT (szOf hl), stp hst hT (by omega) hl, stp hst hT (by omega) hk, oth_stp hst hT ho⟩
  have h00 : J (fun _ => False) 0 W1 := by
    refine ⟨⟨κ, sv, S.γ, ?_⟩, fun _ h => h.elim, hL1, hK1, fun b o hb _ => ?_⟩
    · have hm : AllE S.γ (gs 0 ++ keepG S kp) ∧ AllE S.σ (os 0 ++ keepO S kp) := ⟨allE_append h0.1 (keepG_ok S kp), allE_append h0.2 (keepO_ok S kp)⟩
      have hw := (sim_gen (S := S) (S' := rnd S kp (gs 0) (os 0) S.γ) (fun i => .inr rfl) (lookF_le (fun _ => Nat.le_refl _) hm.1) (look_ok hm.2) hs1).wld
      obtain ⟨e1, e2, e3, e4, e5, e6, e7, e8, e9, e10, e11, e12, e13, e14, e15⟩ := hw
      exact ⟨e1, e2, e3, e4, e5, e6, e7, e8, e9, e10, ⟨fun _ _ _ h => h, lookF_le (fun _ => Nat.le_refl _) hm.1, fun _ _ => rfl⟩, fun _ _ _ _ h => h, fun _ _ _ h => h, fun _ h => h.elim, e15⟩
    · rw [hb1.block b (Array.getElem?_eq_some_iff.1 hb).1]; exact hb
  have hfits1 : Fits κ W1 := hs1.wld.imm
  refine (calls_F (X := Ctx.plain Z nt w0 κ0 ext) (n := 0) ((callsIn_wide (n := 0)).1 (hc.it W1 κ lb hfits1 (Sim.globOk hs1.wld) (hlb.pure (fun _ _ _ h => h) hc.pureC) (w.heap.size + 1) J Jx hJc hJxc ?_ h00))).mono ?_
  · -- one round
    rintro T0 k W vs G κi ⟨⟨κ0', sv', h, hw0'⟩, hT0, hl, hk, ho⟩ hkn hcells hgv
    obtain ⟨hw, hji⟩ := hw0'.more (fun b hb => by have := hT0 b hb; omega) hgv
    have hT : ∀ b, giveT T0 G b → W1.heap.size ≤ b := fun b hb => hT0 b hb.1
    have hlen : vs.length = (args k).length := hgv.rep.length
    generalize giveT T0 G = T at hw hT ⊢
    generalize hκj : joinK κ0' κi = κ' at hw hji
    have hy := run_yield (P := Z.P) (args := vs.toArray) hl (by rw [hrec, List.size_toArray, hlen]; exact hps k hkn)
    rw [hrec] at hy
    refine ⟨fn, _, assign, body, hy, roundIn_of_wpIn trivial ?_⟩
    have hfold : (ps.zip vs.toArray).foldl (fun tmps (t, a) => tmps.setIfInBounds t a) a.tmps = (ps.toList.zip vs).foldl (fun (t : Array Value) (x : Nat × Value) => t.setIfInBounds x.1 x.2) a.tmps := by
      rw [← Array.foldl_toList, Array.toList_zip]
    have hlW : w.heap.size + 1 < W.heap.size := (Array.getElem?_eq_some_iff.1 hl).1
    let Ta : Nat → Prop := fun b => (T b ∨ ∃ o : Obj, W.heap[b]? = some o ∧ isDat o = false) ∨ ∃ o v, κ b o = some v
    have hTl : Ta (w.heap.size + 1) := .inl (.inr ⟨_, hl, rfl⟩)
    have hTlt : ∀ b, Ta b → b < W.heap.size := by
      rintro b ((hb | ⟨o, hb, _⟩) | ⟨o, v, hb⟩)
      · exact hw.aw3 b hb
      · exact (Array.getElem?_eq_some_iff.1 hb).1
      · have := World.block_lt_of_cell? W _ (hcells b o v hb); simpa using this
    have hκne : ∀ b o v, κ b o = some v → b ≠ w.heap.size + 1 := by
      intro b o v hb e
      subst e
      have := hcells _ o v hb
      simp [World.cell?, hl] at this
    -- the assignment
    have hsa : SimW (roundX Z nt w0 κ0 ext κ S.γ sv T (w.heap.size + 1) (protF w0 ext Ta W) (prot_cl w0 ext Ta W) (prot_fr Z w0 ext Ta W)) κ' sv' ⟨setps S.ρ ps.toList (args k), lookF h (gs k ++ keepG S kp), look .none (os k ++ keepO S kp)⟩ W := by
      have h1 : SimW (XP T) κ' sv' ⟨setps S.ρ ps.toList (args k), lookF h (gs k ++ keepG S kp), look .none (os k ++ keepO S kp)⟩ W := hw.slots rfl rfl
      refine h1.reframe (D := w.heap.size + 1) (below_grown (Below.refl _ _) _) ⟨_, hl, rfl⟩ (fun M hM1 hM2 => ⟨fun b => ∃ s, blk (look .none (os k ++ keepO S kp) s) (sv' s) = some b, ⟨⟨M, hM1, fun b ⟨s, hb⟩ => hM2 s b hb⟩, ?_, fun b hb => ⟨hTlt b hb, rfl⟩, Nat.le_refl _⟩, fun s b hb => ⟨s, hb⟩⟩) (fun _ h => h) hw.le
      rintro b ⟨s, hb⟩ ((hb2 | ⟨o, hb2, hb3⟩) | ⟨o, v, hb2⟩)
      · exact hw.aw2 s b hb hb2
      · obtain ⟨o', e1, e2⟩ := owns_cells (hw.own s) hb
        rw [e1] at hb2; cases hb2; rw [hb3] at e2; cases e2
      · have := hw.sep s b o hb
        rw [hw.le.cells b o v hb2] at this; cases this
    have hslots := slots_set ps.toList (args k) vs S.ρ a.tmps ((hgv.rep.pure hji (hc.pureI k hkn) : RepL κ' (lookF h (gs k ++ keepG S kp)) sv' (args k) vs)) (fun i hi => (hs.slot i hi).mono hw.le) hs.size
    have hra := hround k h hkn hw.le.gens κ S.γ sv T (w.heap.size + 1) (protF w0 ext Ta W) (prot_cl w0 ext Ta W) (prot_fr Z w0 ext Ta W) κ' sv' { tmps := (ps.toList.zip vs).foldl (fun (t : Array Value) (x : Nat × Value) => t.setIfInBounds x.1 x.2) a.tmps, defers := [] } W
      ⟨hslots.2, Dfr.nil rfl, hslots.1, hsa⟩
    rw [hfold]
    refine wpIn_mono hra ?_
    rintro e a1 w1 ⟨κ1, sv1, S1, hs1', rfl, hbody⟩
    obtain ⟨M1, ⟨⟨M1', p1, p2⟩, p3, p4, p5⟩, hM1⟩ := hs1'.wld.frame
    have hl1 : w1.heap[w.heap.size + 1]? = some (.loop (rec .ready none)) := (p4 _ hTl).2.trans hl
    refine ⟨_, run_beginRound hl1 (by rw [hrec]), ?_⟩
    obtain ⟨w2, hw2⟩ : ∃ w2, w1.putObj (w.heap.size + 1) (.loop { rec .ready none with state := .busy }) = w2 := ⟨_, rfl⟩
    rw [hw2]
    have hg2 : w1.grownBy w2 (some (w.heap.size + 1)) := by rw [← hw2]; exact grownBy_putObj' _ _ _
    have hz2 : w2.heap.size = w1.heap.size := by rw [← hw2]; simp
    have hl2 : w2.heap[w.heap.size + 1]? = some (.loop { rec .ready none with state := .busy }) := by rw [← hw2]; exact World.putObj_heap_same (Array.getElem?_eq_some_iff.1 hl1).1
    have ho2 : ∀ b, b ≠ w.heap.size + 1 → w2.heap[b]? = w1.heap[b]? := fun b hb => by rw [← hw2]; exact World.putObj_heap_other hb
    have frm : ∀ {M : Nat → Prop} {A B : World}, plainF w0 ext M A → A.grownBy B (some (w.heap.size + 1)) → plainF w0 ext M B := fun h1 hg =>
      ⟨⟨hg.os.trans h1.1.os, hg.tape.trans h1.1.tape, hg.output.trans h1.1.output, Nat.le_trans h1.1.size hg.size, fun k hk he =>
        (hg.block k (Nat.lt_of_lt_of_le hk h1.1.size) (fun e => by simp only [Option.some.injEq] at e; omega)).trans (h1.1.block k hk he)⟩, h1.2⟩
    have hsb : SimW (roundX Z nt w0 κ0 ext κ S.γ sv T (w.heap.size + 1) (protF w0 ext Ta w2) (prot_cl w0 ext Ta w2) (prot_fr Z w0 ext Ta w2)) κ1 sv1 S1 w2 := by
      refine hs1'.wld.reframe hg2 ⟨_, hl1, rfl⟩ (fun M hM2 hM3 => ⟨M, ?_, hM3⟩) (fun _ h => h) hs1'.wld.le
      obtain ⟨⟨M', q1, q2⟩, q3, q4, q5⟩ := hM2
      exact ⟨⟨M', frm q1 hg2, q2⟩, q3, fun b hb => ⟨by have := hTlt b hb; omega, rfl⟩, Nat.le_refl _⟩
    obtain ⟨Ds1, t1, t2, t3, t4⟩ := hs1'.defers
    have hrb := hbody (protF w0 ext Ta w2) (prot_cl w0 ext Ta w2) (prot_fr Z w0 ext Ta w2) κ1 sv1 a1 w2 ⟨hs1'.size, ⟨Ds1, t1, t2, fun D hD => ⟨(t3 D hD).1, (ho2 D (fun e => by
      have := (t3 D hD).2
      rw [e, hl1] at this; cases this)).trans (t3 D hD).2⟩, t4⟩, hs1'.slot, hsb⟩
    refine wpIn_mono hrb ?_
    rintro e a3 w3 ⟨κ3, sv3, S3, hs3, hq⟩
    obtain ⟨M3, ⟨⟨M3', r1, r2⟩, r3, r4, r5⟩, hM3⟩ := hs3.wld.frame
    have hl3 : w3.heap[w.heap.size + 1]? = some (.loop { rec .ready none with state := .busy }) := (r4 _ hTl).2.trans hl2
    have same3 : ∀ b, Ta b → b ≠ w.heap.size + 1 → w3.heap[b]? = W.heap[b]? := fun b hb hne => (r4 b hb).2.trans ((ho2 b hne).trans (p4 b hb).2)
    have fin : ∀ (jump : Option Code), ∃ w4, (Instr.endRound (w.heap.size + 1) jump).run Z.P w3 = .ok (.bool jump.isNone) w4 ∧ w3.grownBy w4 (some (w.heap.size + 1)) ∧ w4.heap[w.heap.size + 1]? = some (.loop (rec (if jump.isNone then .ready else .done) jump)) ∧
        w4.heap[w.heap.size]? = some (.deferred (some [])) ∧ others w4 ∧ Kept T κ W w4 := fun jump => by
      have h1 := run_endRound (P := Z.P) jump hl3
      rw [hrec] at h1 ⊢
      refine ⟨_, h1, grownBy_putObj' _ _ _, World.putObj_heap_same (Array.getElem?_eq_some_iff.1 hl3).1, ?_, ?_, ?_⟩
      · rw [World.putObj_heap_other (by omega), same3 _ (.inl (.inr ⟨_, hk, rfl⟩)) (by omega)]; exact hk
      · intro b o hb hc
        have hlt := (Array.getElem?_eq_some_iff.1 hb).1
        rw [World.putObj_heap_other (by omega), same3 _ (.inl (.inr ⟨_, ho b o hb hc, hc⟩)) (by omega)]; exact ho b o hb hc
      · refine ⟨by simp; omega, fun b hb => ?_, fun b o v hb => ?_, fun b o v hb => ?_⟩
        · have := hT b hb
          rw [World.putObj_heap_other (by omega), same3 _ (.inl (.inl hb)) (by omega)]
        · have hne := hκne b o v hb
          rw [World.cell?_of_block (w := W) (by rw [World.putObj_heap_other hne, same3 _ (.inr ⟨o, v, hb⟩) hne])]
          exact hcells b o v hb
        · have hne := hκne b o v hb
          rw [World.putObj_heap_other hne, same3 _ (.inr ⟨o, v, hb⟩) hne]
    have out : ∀ {κ4 sv4 S4 w4}, SimW (roundX Z nt w0 κ0 ext κ S.γ sv T (w.heap.size + 1) (protF w0 ext Ta w2) (prot_cl w0 ext Ta w2) (prot_fr Z w0 ext Ta w2)) κ4 sv4 S4 w3 → w3.grownBy w4 (some (w.heap.size + 1)) → SimW (XP T) κ4 sv4 S4 w4 := fun h4 hg4 =>
      h4.reframe hg4 ⟨_, hl3, rfl⟩ (fun M hM2 hM3 => by
        obtain ⟨⟨M', q1, q2⟩, _⟩ := hM2
        exact ⟨M', frm q1 hg4, fun s b hb => q2 b (hM3 s b hb)⟩) (fun _ h => h) h4.le
    cases e with
    | normal =>
      obtain ⟨S4, hwk, m1, m2, m3⟩ := hq
      obtain ⟨κ4, sv4, hs4⟩ := hwk κ3 sv3 a3 w3 hs3
      obtain ⟨w4, f1, f2, f3, f4, f5, f6⟩ := fin none
      have hm : AllE S4.γ (gs (k + 1) ++ keepG S kp) ∧ AllE S4.σ (os (k + 1) ++ keepO S kp) := ⟨allE_append m1 (keepG_all m3), allE_append m2 (keepO_all m3)⟩
      have h5 := (sim_gen (S := S4) (S' := ⟨S4.ρ, lookF S4.γ (gs (k + 1) ++ keepG S kp), look .none (os (k + 1) ++ keepO S kp)⟩) (fun i => .inr rfl) (lookF_le (fun _ => Nat.le_refl _) hm.1) (look_ok hm.2) hs4).wld
      exact ⟨_, w4, f1, .inl ⟨rfl, ⟨κ4, sv4, S4.γ, (out h5 f2).slots rfl rfl⟩, hT, f3, f4, f5⟩, f6⟩
    | ret =>
      obtain ⟨w4, f1, f2, f3, f4, f5, f6⟩ := fin (some .ret)
      exact ⟨_, w4, f1, .inr ⟨rfl, .ret, ⟨κ3, sv3, S3, out hs3.wld f2, hq⟩, hT, f3, f4, f5⟩, f6⟩
    | exit i =>
      obtain ⟨w4, f1, f2, f3, f4, f5, f6⟩ := fin (some (.exit i))
      exact ⟨_, w4, f1, .inr ⟨rfl, .exit i, ⟨κ3, sv3, S3, out hs3.wld f2, hq⟩, hT, f3, f4, f5⟩, f6⟩
    | goto t => exact hq.elim
    | panic ch => exact hq.elim
    | outgrown => exact hq.elim
  · -- behind the iterator
    have last : ∀ {T : Nat → Prop} {κ' : Nat → Nat → Option Value} {sv' : Nat → Value} {S' : St} {W : World} {st : LoopState} {pe : Option Code}, SimW (XP T) κ' sv' S' W → W.heap[w.heap.size + 1]? = some (.loop (rec st pe)) → W.heap[w.heap.size]? = some (.deferred (some [])) → others W →
        ∀ o', Sim (Ctx.plain Z nt w0 κ0 ext) κ' sv' ⟨S.ρ, S'.γ, S'.σ⟩ { a with defers := mark w.heap.size :: a.defers } (W.putObj (w.heap.size + 1) o') := by
      intro T κ' sv' S' W st pe hw hl hk ho o'
      have hg := grownBy_putObj' W (w.heap.size + 1) o'
      refine ⟨hs.size, ⟨w.heap.size :: Ds, by rw [d1]; rfl, List.nodup_cons.2 ⟨fun hm => ?_, d2⟩, fun D hD => ?_, fun h => ?_⟩, fun i hi => (hs.slot i hi).mono hw.le, ?_⟩
      · have := (d3 _ hm).2
        rw [Array.getElem?_eq_none (by simp)] at this; cases this
      · rcases List.mem_cons.1 hD with rfl | hD
        · exact ⟨hbase', (World.putObj_heap_other (by omega)).trans hk⟩
        · obtain ⟨e1, e2⟩ := d3 D hD
          have hlt := (Array.getElem?_eq_some_iff.1 e2).1
          exact ⟨e1, (World.putObj_heap_other (by omega)).trans (ho D _ e2 rfl)⟩
      · rename_i h; cases h
      · have h1 : SimW (XP T) κ' sv' ⟨S.ρ, S'.γ, S'.σ⟩ W := hw.slots rfl rfl
        refine h1.reframe hg ⟨_, hl, rfl⟩ (fun M hM2 hM3 => ⟨M, ?_, hM3⟩) (fun _ h => h.elim) (hs.wld.le.trans hw.le)
        exact ⟨⟨hg.os.trans hM2.1.os, hg.tape.trans hM2.1.tape, hg.output.trans hM2.1.output, Nat.le_trans hM2.1.size hg.size, fun k hk he =>
          (hg.block k (Nat.lt_of_lt_of_le hk hM2.1.size) (fun e => by simp only [Option.some.injEq] at e; omega)).trans (hM2.1.block k hk he)⟩, hM2.2⟩
    rintro e W2 ⟨⟨v, rfl⟩, (⟨T, ⟨κ', sv', h, hw⟩, hT, hl, hk, ho⟩ | ⟨T, k, _, c, ⟨κ', sv', S', hw, hq⟩, hT, hl, hk, ho⟩)⟩
    · exact ⟨none, _, by have := run_endLoop (P := Z.P) hl (by rw [hrec]; simp); rw [hrec] at this; exact this, κ', sv', _, last hw hl hk ho _, hdone h⟩
    · refine ⟨some c, _, by have := run_endLoop (P := Z.P) hl (by rw [hrec]; simp); rw [hrec] at this; exact this, ?_⟩
      rcases hQx c S' hq with rfl | ⟨i, rfl⟩
      · exact wpIn_ret ⟨κ', sv', _, last hw hl hk ho _, hret S' hq⟩
      · exact wpIn_exit ⟨κ', sv', _, last hw hl hk ho _, hexit i S' hq⟩
end
end Go.Ab
namespace Go.Ab
open Go Go.RowKit
def itF (w : World) (J : (Nat → Prop) → World → Prop) (U P : Nat → Prop) (w1 : World) (M : Nat → Prop) (W : World) : Prop := ∃ T, J T W ∧ (∀ b, b < W.heap.size → M b → T b) ∧ (∀ b, w.heap.size ≤ b → b < W.heap.size → ¬ U b → T b) ∧ ∀ b, P b → T b ∧ ¬ M b ∧ ¬ U b ∧ b < W.heap.size ∧ W.heap[b]? = w1.heap[b]?
theorem itF_cl {w : World} {J : (Nat → Prop) → World → Prop} {U P : Nat → Prop} {w1 : World} (hJ : ∀ T W W', J T W → Step T W W' → J (growT T W W') W') : ∀ M W W', itF w J U P w1 M W → Step M W W' → itF w J U P w1 (fun k => M k ∨ W.heap.size ≤ k) W' := by
  rintro M W W' ⟨T, h1, h2, h3, h4⟩ hs
  refine ⟨growT T W W', hJ T W W' h1 ⟨hs.os, hs.tape, hs.output, hs.size, fun k hk hT => hs.block k hk (fun hm => hT (h2 k hk hm))⟩, fun b hb hM => ?_, fun b h4 h5 h6 => ?_, fun b hb => ?_⟩
  · by_cases e : b < W.heap.size
    · rcases hM with hM | hM
      · exact .inl (h2 b e hM)
      · omega
    · exact .inr ⟨by omega, hb⟩
  · by_cases e : b < W.heap.size
    · exact .inl (h3 b h4 e h6)
    · exact .inr ⟨by omega, h5⟩
  · obtain ⟨q1, q2, q3, q4, q5⟩ := h4 b hb
    exact ⟨.inl q1, fun h => h.elim q2 (fun h => by omega), q3, Nat.lt_of_lt_of_le q4 hs.size, (hs.block b q4 q2).trans q5⟩
structure Env where
  Z : Seat
  nt : Nat
  w : World
  κ : Nat → Nat → Option Value
  l : Nat
  n : Nat
  its : Nat → List D
  J : (Nat → Prop) → Nat → World → Prop
  Jx : (Nat → Prop) → Nat → World → Prop
  w1 : World
  κ1 : Nat → Nat → Option Value
  ex : Nat → Prop
  γp : Nat → Nat
  svp : Nat → Value
  P : Nat → Prop
  hw : w.heap.size ≤ w1.heap.size
  hex : ∀ b, ex b → w.heap.size ≤ b
  hκ : ∀ b o v, κ b o = some v → κ1 b o = some v
  hκ1 : ∀ b o v, b < w.heap.size → κ1 b o = some v → κ b o = some v
  hJ : ∀ T k W W', J T k W → Step T W W' → J (growT T W W') k W'
  hJx : ∀ T k W W', Jx T k W → Step T W W' → Jx (growT T W W') k W'
  hY : ∀ T k W vs G κi, J T k W → k < n → (∀ b o v, κ b o = some v → W.cell? ⟨b, o, none⟩ = some v) → Given T G κ κi W (its k) vs → YieldAt Fence.wide 0 Z.P l vs.toArray W fun e W' =>
      ((e = .returned (.bool true) ∧ J (giveT T G) (k + 1) W') ∨ (e = .returned (.bool false) ∧ Jx (giveT T G) (k + 1) W')) ∧ Kept (giveT T G) κ W W'
def KZ (E : Env) (T : Nat → Prop) (W : World) : Prop := (∀ b, T b → E.w.heap.size ≤ b) ∧ E.w.heap.size ≤ W.heap.size ∧ ∀ g n, E.Z.gsz g = some n → g < E.w.heap.size ∧ (∃ v, E.κ g 0 = some v) ∧ RowSz W g n
theorem KZ.step {E : Env} {T : Nat → Prop} {W W' : World} (h : KZ E T W) (hs : Step T W W') : KZ E (growT T W W') W' :=
  ⟨fun b hb => hb.elim (h.1 b) (fun e => Nat.le_trans h.2.1 e.1), Nat.le_trans h.2.1 hs.size, fun g n hn => by
    obtain ⟨h1, h2, h3⟩ := h.2.2 g n hn
    exact ⟨h1, h2, h3.eq (hs.block g (Nat.lt_of_lt_of_le h1 h.2.1) (fun ht => by have := h.1 g ht; omega))⟩⟩
def Env.K (E : Env) (k : Nat) (s : Bool) (T : Nat → Prop) (W : World) : Prop := (match s with | true => E.Jx T k W | false => E.J T k W) ∧ KZ E T W
theorem Env.hK (E : Env) (k : Nat) (s : Bool) : ∀ T W W', E.K k s T W → Step T W W' → E.K k s (growT T W W') W' := by
  cases s
  · exact fun T W W' h hs => ⟨E.hJ T k W W' h.1 hs, h.2.step hs⟩
  · exact fun T W W' h hs => ⟨E.hJx T k W W' h.1 hs, h.2.step hs⟩
def Env.X (E : Env) (k : Nat) (s : Bool) (U : Nat → Prop) : Ctx := ⟨E.Z, E.nt, E.w1, E.κ1, none, E.ex, E.κ1, E.γp, E.svp, U, true, none, itF E.w (E.K k s) U E.P E.w1, itF_cl (E.hK k s), fun M W h g n hn _ _ _ _ => by obtain ⟨T, h1, _⟩ := h; exact (h1.2.2.2 g n hn).2.2, fun _ => false⟩
def liftI (E : Env) (Q : Nat → Bool → Exit → St → Prop) : Exit → Act → World → Prop := fun e a W => ∃ k s U κ sv S, Sim (E.X k s U) κ sv S a W ∧ Q k s e S
def WI (E : Env) (c : Code) (Q : Nat → Bool → Exit → St → Prop) (k : Nat) (s : Bool) (S : St) : Prop := ∀ U κ sv a W, Sim (E.X k s U) κ sv S a W → c.wpIn Fence.wide 0 E.Z.P (liftI E Q) a W
def WIL (E : Env) (ops : Array Oper) (l : List Oper) (Q : Nat → Bool → Exit → St → Prop) (k : Nat) (s : Bool) (S : St) : Prop := ∀ U κ sv a W, Sim (E.X k s U) κ sv S a W → wpListIn Fence.wide 0 E.Z.P ops (liftI E Q) l a W
section
variable {E : Env} {Q : Nat → Bool → Exit → St → Prop} {k : Nat} {s : Bool} {S S1 : St}
theorem WI_of {c : Code} (h : ∀ U, W (E.X k s U) c (Q k s) S) : WI E c Q k s S := fun U κ sv a W hs => by
  refine wpIn_mono (h U κ sv a W hs) ?_
  rintro e a' W' ⟨κ', sv', S', h1, h2⟩
  exact ⟨k, s, U, κ', sv', S', h1, h2⟩
def thenI (E : Env) (y : Code) (Q : Nat → Bool → Exit → St → Prop) : Nat → Bool → Exit → St → Prop
  | k, s, .normal, S => WI E y Q k s S
  | k, s, e, S => Q k s e S
def blockI (id : Nat) (Q : Nat → Bool → Exit → St → Prop) : Nat → Bool → Exit → St → Prop
  | k, s, .exit i, S => bif Nat.beq i id then Q k s .normal S else Q k s (.exit i) S
  | k, s, e, S => Q k s e S
theorem WI_seq {x y : Code} (h : WI E x (thenI E y Q) k s S) : WI E (.seq x y) Q k s S := fun U κ sv a W hs => by
  refine wpIn_seq (wpIn_mono (h U κ sv a W hs) ?_)
  rintro e a' W' ⟨k', s', U', κ', sv', S', h1, h2⟩
  cases e <;> first | exact h2 U' κ' sv' a' W' h1 | exact ⟨k', s', U', κ', sv', S', h1, h2⟩
theorem WI_block {id : Nat} {c : Code} (h : WI E c (blockI id Q) k s S) : WI E (.block id c) Q k s S := fun U κ sv a W hs => by
  refine wpIn_block (wpIn_mono (h U κ sv a W hs) ?_)
  rintro e a' W' ⟨k', s', U', κ', sv', S', h1, h2⟩
  cases e with
  | exit i =>
    simp only [Exit.inBlock]
    simp only [blockI] at h2
    split
    · rename_i e; subst e; rw [Nat.beq_refl] at h2; exact ⟨k', s', U', κ', sv', S', h1, h2⟩
    · rename_i e
      have : Nat.beq i id = false := by
        cases hb : Nat.beq i id
        · rfl
        · exact absurd (Nat.eq_of_beq_eq_true hb) e
      rw [this] at h2; exact ⟨k', s', U', κ', sv', S', h1, h2⟩
  | _ => exact ⟨k', s', U', κ', sv', S', h1, h2⟩
theorem WI_loop {c : Code} {α : Type} (F : α → Nat × Bool × St) (inv : α → Prop) (μ : α → Nat) (x0 : α) (h0 : inv x0) (hs : (F x0).1 = k ∧ (F x0).2.1 = s ∧ ∀ U, Wk (E.X k s U) S (F x0).2.2)
    (round : ∀ x, inv x → WI E c (fun k' s' e S' => match e with | .normal => ∃ x', inv x' ∧ μ x' < μ x ∧ (F x').1 = k' ∧ (F x').2.1 = s' ∧ ∀ U, Wk (E.X k' s' U) S' (F x').2.2 | e => Q k' s' e S') (F x).1 (F x).2.1 (F x).2.2) : WI E (.loop c) Q k s S := by
  intro U κ sv a W hsim
  have key : ∀ m x U κ sv a W, inv x → μ x < m → Sim (E.X (F x).1 (F x).2.1 U) κ sv (F x).2.2 a W → Code.roundsIn Fence.wide 0 E.Z.P c (liftI E Q) m a W := by
    intro m
    induction m with
    | zero => intro x U κ sv a W _ h; omega
    | succ m ih =>
      intro x U κ sv a W hi hm hx
      rw [roundsIn_succ]
      refine wpIn_mono (round x hi U κ sv a W hx) ?_
      rintro e a' W' ⟨k', s', U', κ', sv', S', h1, h2⟩
      cases e with
      | normal =>
        obtain ⟨x', hi', hm', rfl, rfl, hw⟩ := h2
        obtain ⟨κ2, sv2, hx'⟩ := hw U' κ' sv' a' W' h1
        exact ih x' U' κ2 sv2 a' W' hi' (by omega) hx'
      | _ => exact ⟨k', s', U', κ', sv', S', h1, h2⟩
  obtain ⟨e1, e2, e3⟩ := hs
  obtain ⟨κ1, sv1, hx⟩ := e3 U κ sv a W hsim
  subst e1 e2
  exact wpIn_loop_rounds (μ x0 + 1) (key _ x0 U κ1 sv1 a W h0 (Nat.lt_succ_self _) hx)
theorem opIn_mono {F : Fence} {n : Nat} {P : Program} {o : Oper} {a : Act} {w : World} {K K' : Act → World → Prop} {Q1 Q2 : Exit → Act → World → Prop} (h : ∀ a w, K a w → K' a w) (hq : ∀ e a w, e ≠ .normal → Q1 e a w → Q2 e a w)
    (hh : o.wpIn F n P a w K Q1) : o.wpIn F n P a w K' Q2 := by
  unfold Oper.wpIn at *
  refine ⟨hh.1, ?_⟩
  have hh := hh.2
  generalize (o.semAt F.round a.eval).run P w = r at *
  have lo : LetsOut Q1 → LetsOut Q2 := fun ⟨a, w, h⟩ => ⟨a, w, hq _ _ _ (by simp) h⟩
  cases r with
  | ok x w' =>
    cases x <;> simp only [Oper.uponIn] at hh ⊢ <;>
      first
        | exact h _ _ hh
        | exact ⟨hh.1, CallsIn.mono hh.2 (fun e w'' he => by cases e <;> first | exact h _ _ he | exact hq _ _ _ (by simp) he | exact lo he)⟩
        | exact ⟨hh.1, RowsIn.mono hh.2 (fun _ _ he => h _ _ he)⟩
        | exact ⟨hh.1, RoundIn.mono hh.2 (fun e w'' he => by cases e <;> first | exact h _ _ he | exact hq _ _ _ (by simp) he | exact lo he)⟩
  | halt x w' => cases x <;> simp only [Oper.uponIn] at hh ⊢ <;> first | exact hq _ _ _ (by simp) hh | exact hh
theorem wpListIn_append {F : Fence} {n : Nat} {P : Program} {ops : Array Oper} {Q1 Q2 : Exit → Act → World → Prop} {l2 : List Oper} (hn : ∀ a w, Q1 .normal a w → wpListIn F n P ops Q2 l2 a w) (hq : ∀ e a w, e ≠ .normal → Q1 e a w → Q2 e a w) :
    ∀ (l1 : List Oper) (a : Act) (w : World), wpListIn F n P ops Q1 l1 a w → wpListIn F n P ops Q2 (l1 ++ l2) a w
  | [], a, w, h => hn a w h
  | o :: l1, a, w, h => by
    simp only [List.cons_append, wpListIn] at h ⊢
    split
    · rename_i hw
      rw [if_pos hw] at h
      exact opIn_mono (fun a w h => wpListIn_append hn hq l1 a w h) hq h
    · rename_i hw
      rw [if_neg hw] at h
      exact ⟨h.1, wpListIn_append hn hq l1 _ _ h.2⟩
theorem WI_region {id : Nat} {l : List Oper} (h : WIL E l.toArray l Q k s S) : WI E (.region id l.toArray false) Q k s S := fun U κ sv a W hs => wpIn_region_lit (h U κ sv a W hs)
theorem WIL_of {ops : Array Oper} {l : List Oper} (h : ∀ U, WL (E.X k s U) ops l (Q k s) S) : WIL E ops l Q k s S := fun U κ sv a W hs => by
  have := wpListIn_append (l2 := []) (Q2 := liftI E Q) (fun a w ⟨κ', sv', S', h1, h2⟩ => ⟨k, s, U, κ', sv', S', h1, h2⟩) (fun e a w _ ⟨κ', sv', S', h1, h2⟩ => ⟨k, s, U, κ', sv', S', h1, h2⟩) l a W (h U κ sv a W hs)
  rwa [List.append_nil] at this
theorem WIL_part {ops : Array Oper} (l1 l2 : List Oper) (h1 : ∀ U, WL (E.X k s U) ops l1 (fun e S' => e = .normal ∧ WIL E ops l2 Q k s S') S) : WIL E ops (l1 ++ l2) Q k s S := fun U κ sv a W hs =>
  wpListIn_append (fun a w ⟨κ', sv', S', h, _, h2⟩ => h2 U κ' sv' a w h) (fun e a w hne ⟨_, _, _, _, h, _⟩ => absurd h hne) l1 a W (h1 U κ sv a W hs)
inductive Giv (S : St) (ps : List Nat) : D → D → Prop
  | conv (d d' : D) : (∀ (κ : Nat → Nat → Option Value) (γ : Nat → Nat) (sv : Nat → Value) (v : Value), Rep κ γ sv d v → ∀ (κ' : Nat → Nat → Option Value) (γ' : Nat → Nat) (sv' : Nat → Value), Rep κ' γ' sv' d' v) → Giv S ps d d'
  | os (s g E z n : Nat) (f : Nat → List D) : S.γ s = g → S.σ s = .arr E z n f → s ∈ ps → (∀ i, i < n → ∃ vs, scalL (f i) = some vs) → Giv S ps (.os s g) (.sl z n f)
inductive GivL (S : St) (ps : List Nat) : List D → List D → Prop
  | nil : GivL S ps [] []
  | cons (d d' : D) (l l' : List D) : Giv S ps d d' → GivL S ps l l' → GivL S ps (d :: l) (d' :: l')
def St.drop (S : St) (ps : List Nat) : St := ⟨S.ρ, S.γ, fun s => bif memN s ps then .none else S.σ s⟩
open Classical in
noncomputable def giveK (κ : Nat → Nat → Option Value) (G : Nat → Prop) (W : World) : Nat → Nat → Option Value := fun b o => if G b then W.cell? ⟨b, o, none⟩ else κ b o
section
variable {κ' : Nat → Nat → Option Value} {sv : Nat → Value} {S : St} {ps : List Nat} {W : World} {X : Ctx}
open Classical in
theorem Giv.rep (h : SimW X κ' sv S W) {κ : Nat → Nat → Option Value} {G : Nat → Prop} (hG : ∀ p ∈ ps, ∀ b, blk (S.σ p) (sv p) = some b → G b) {d d' : D} {v : Value} (hd : Giv S ps d d') (hr : Rep κ' S.γ sv d v) : Rep (giveK κ G W) γ0 sv0 d' v := by
  cases hd with
  | conv _ _ hc => exact hc _ _ _ _ hr _ _ _
  | os s g E z n f hg hσ hm hf =>
    have hown := h.own s
    rw [hσ] at hown
    obtain ⟨xs, e1, e2, e3, e4⟩ := hown
    cases hr with
    | os _ _ _ _ hh _ =>
      have hv := hh hg.symm
      have hrow : ∀ i, i < n → RepL (giveK κ G W) γ0 sv0 (f i) ((xs.drop (i * z)).take z) := fun i hi => by
        obtain ⟨vs, hvs⟩ := hf i hi
        rw [scalL_eq hvs (e4 i hi)]
        exact scalL_rep hvs
      rcases e1.2 with ⟨hn, h0⟩ | ⟨b, off, cap, cur, hn, h0, h5, h6, h7, h8, h9⟩
      · rw [hv, hn, h0]; exact .sl0 _ _
      · have hb : G b := hG s hm b (by rw [hσ, hn]; rfl)
        rw [hv, hn]
        refine .sl z n f b off cap (fun i => (xs.drop (i * z)).take z) h6 e2 e3 hrow (fun i j u hi hj => ?_)
        unfold giveK
        rw [if_pos hb, cell_of_row W b (off + i * z + j) cur E (0, 0) h5]
        rw [List.getElem?_take] at hj
        split at hj
        · rename_i hjz
          rw [List.getElem?_drop] at hj
          rw [← h9, List.getElem?_take] at hj
          split at hj
          · rw [List.getElem?_drop] at hj
            rw [show off + i * z + j = off + (i * z + j) by omega]
            simpa using hj
          · cases hj
        · cases hj
open Classical in
theorem GivL.rep (h : SimW X κ' sv S W) {κ : Nat → Nat → Option Value} {G : Nat → Prop} (hG : ∀ p ∈ ps, ∀ b, blk (S.σ p) (sv p) = some b → G b) : ∀ {l l' : List D} {vs : List Value}, GivL S ps l l' → RepL κ' S.γ sv l vs → RepL (giveK κ G W) γ0 sv0 l' vs
  | _, _, _, .nil, hr => by cases hr; exact .nil
  | _, _, _, .cons d d' l l' a b, hr => by
    cases hr with
    | cons _ _ _ _ r1 r2 => exact .cons _ _ _ _ (a.rep h hG r1) (GivL.rep h hG b r2)
end
open Classical in
theorem WIL_yield {ops : Array Oper} {o : Oper} {rest : List Oper} {x : Operand} {xs : Array Operand} {ts : Array TypeId} {d : Nat} {A : List D} {ps : List Nat} (ho : o.op = .call { callee := .value x, args := xs, argTypes := ts }) (hg : o.guard = none) (hd : o.dst = some d)
    (hx : S.ev (E.X k false fun _ => False) x = .yl E.l) (hA : xs.toList.map (S.ev (E.X k false fun _ => False)) = A) (hv : GivL S ps A (E.its k)) (hk : k < E.n)
    (hT : WIL E ops rest Q (k + 1) false ((S.drop ps).set d (.bool true))) (hF : WIL E ops rest Q (k + 1) true ((S.drop ps).set d (.bool false))) : WIL E ops (o :: rest) Q k false S := fun U κ' sv a W hs => by
  obtain ⟨M, ⟨T, t1, t2, t3, t4⟩, hown⟩ := hs.wld.frame
  have hκ : ∀ b o v, E.κ b o = some v → W.cell? ⟨b, o, none⟩ = some v := fun b o v hb => hs.wld.imm b o v (hs.wld.le.cells b o v (E.hκ b o v hb))
  let G : Nat → Prop := fun b => ∃ p ∈ ps, blk (S.σ p) (sv p) = some b
  have hav := evs_rep hs xs.toList
  have hA' : xs.toList.map (S.ev (E.X k false U)) = A := hA
  rw [hA'] at hav
  have hgiv : Given T G E.κ (giveK E.κ G W) W (E.its k) (xs.toList.map a.eval) := by
    refine ⟨fun b ⟨p, hp, hb⟩ => t2 b (owns_lt (hs.wld.own p) hb) (hown p b hb), fun b o v hq => ?_, hv.rep (G := G) hs.wld (fun p hp b hb => ⟨p, hp, hb⟩) hav⟩
    unfold giveK at hq
    split at hq
    · rename_i hgb; exact ⟨.inr hgb, hq⟩
    · exact ⟨.inl hq, hκ b o v hq⟩
  obtain ⟨fn, tmps, assign, body, y1, y2⟩ := E.hY T k W _ G _ t1.1 hk hκ hgiv
  have hxv : a.eval x = .func (.yield E.l) #[] #[] := by
    have := hs.ev x
    have h2 : S.ev (E.X k false U) x = .yl E.l := hx
    rw [h2] at this
    generalize a.eval x = v at this
    cases this; rfl
  have hrun : (execOp a.eval o).run E.Z.P W = .ok (.round E.l fn tmps assign body) W := by
    have h4 : execOp a.eval o = Instr.yield E.l (xs.map a.eval) := by
      unfold execOp; rw [ho]; simp [resolve, Deferred.ofValue, hxv, invoke]
    have h5 : xs.map a.eval = (xs.toList.map a.eval).toArray := by simp [← Array.toList_map]
    rw [h4, h5]; exact y1
  refine wpListIn_plain hg fun K hK => ⟨fun _ _ => trivial, ?_⟩
  rw [show Fence.wide.round = none from rfl, Oper.semAt_none, hrun]
  refine ⟨fun h => (by simp [Fence.wide] at h), y2.mono ?_⟩
  rintro e W' ⟨hor, hkept⟩
  let U' : Nat → Prop := fun b => U b ∨ (W.heap.size ≤ b ∧ b < W'.heap.size) ∨ G b
  have hlt : ∀ b o v, κ' b o = some v → b < W.heap.size := fun b o v hb => by have := World.block_lt_of_cell? W _ (hs.wld.imm b o v hb); simpa using this
  have hnG : ∀ b o v, κ' b o = some v → ¬ G b := fun b o v hb ⟨p, hp, hpb⟩ => by rw [hs.wld.sep p b o hpb] at hb; cases hb
  have same : ∀ b o v, κ' b o = some v → W'.cell? ⟨b, o, none⟩ = some v := by
    intro b o v hb
    by_cases e : b < E.w.heap.size
    · exact hkept.cell b o v (E.hκ1 b o v e (hs.wld.old b o v (Nat.lt_of_lt_of_le e E.hw) hb))
    · have hT : T b := t3 b (by omega) (hlt b o v hb) (hs.wld.aw1 b o v hb)
      rw [World.cell?_of_block (hkept.mine b ⟨hT, hnG b o v hb⟩)]; exact hs.wld.imm b o v hb
  have hdr : ∀ t b, blk ((S.drop ps).σ t) (sv t) = some b → t ∉ ps ∧ blk (S.σ t) (sv t) = some b := fun t b hb => by
    have hb : blk (bif memN t ps then .none else S.σ t) (sv t) = some b := hb
    cases hm : memN t ps with
    | true => rw [hm] at hb; cases hb
    | false => rw [hm] at hb; exact ⟨fun h => (by rw [memN_iff.2 h] at hm; cases hm), hb⟩
  have hnot : ∀ t b, blk ((S.drop ps).σ t) (sv t) = some b → ¬ G b := fun t b hb ⟨p, hp, hpb⟩ => by
    obtain ⟨h1, h2⟩ := hdr t b hb
    exact h1 (hs.wld.inj t p b h2 hpb ▸ hp)
  have goon : ∀ (s' : Bool), E.K (k + 1) s' (giveT T G) W' → SimW (E.X (k + 1) s' U') κ' sv (S.drop ps) W' := fun s' hK' => by
    obtain ⟨h1, h2, h3, h4, h5, _, h7, h8, h9, h10, h11, h12, h13, h14, h15⟩ := hs.wld
    refine ⟨same, fun t => ?_, fun t u b ht hu => h3 t u b (hdr t b ht).2 (hdr u b hu).2, fun t b o ht => h4 t b o (hdr t b ht).2, fun t b ht => h5 t b (hdr t b ht).2,
      ⟨fun b => (M b ∧ b < W.heap.size) ∧ ¬ G b, ⟨giveT T G, hK', fun b _ hM => ⟨t2 b hM.1.2 hM.1.1, hM.2⟩, fun b e1 e2 e3 => ?_, fun b hP => ?_⟩, fun t b hb => ⟨⟨hown t b (hdr t b hb).2, owns_lt (h2 t) (hdr t b hb).2⟩, hnot t b hb⟩⟩, h7, h8, h9, Nat.le_trans h10 hkept.size, h11, fun b o v hb hU => ?_, fun t b hb hU => ?_, fun b hU => ?_, h15⟩
    · show Owns _ _ _ _ _ t (bif memN t ps then .none else S.σ t)
      cases hm : memN t ps with
      | true => trivial
      | false =>
        refine owns_mono (Le.refl _ _ _) rfl (fun b hb => hkept.mine b ⟨t2 b (owns_lt (h2 t) hb) (hown t b hb), fun ⟨p, hp, hpb⟩ => ?_⟩) (h2 t)
        rw [h3 t p b hb hpb] at hm
        rw [memN_iff.2 hp] at hm; cases hm
    · by_cases e : b < W.heap.size
      · exact ⟨t3 b e1 e (fun h => e3 (.inl h)), fun hgb => e3 (.inr (.inr hgb))⟩
      · exact absurd (.inr (.inl ⟨by omega, e2⟩)) e3
    · obtain ⟨q1, q2, q3, q4, q5⟩ := t4 b hP
      have hg : ¬ G b := fun ⟨p, hp, hpb⟩ => q2 (hown p b hpb)
      exact ⟨⟨q1, hg⟩, fun h => q2 h.1.1, fun h => by
        rcases h with h | ⟨h, _⟩ | h
        · exact q3 h
        · omega
        · exact hg h, Nat.lt_of_lt_of_le q4 hkept.size, (hkept.mine b ⟨q1, hg⟩).trans q5⟩
    · rcases hU with hU | ⟨hU, _⟩ | hU
      · exact h12 b o v hb hU
      · have := hlt b o v hb; omega
      · exact hnG b o v hb hU
    · rcases hU with hU | ⟨hU, _⟩ | hU
      · exact h13 t b (hdr t b hb).2 hU
      · have := owns_lt (h2 t) (hdr t b hb).2; omega
      · exact hnot t b hb hU
    · rcases hU with hU | ⟨_, hU⟩ | ⟨p, hp, hpb⟩
      · exact Nat.lt_of_lt_of_le (h14 b hU) hkept.size
      · exact hU
      · exact Nat.lt_of_lt_of_le (owns_lt (h2 p) hpb) hkept.size
  have dfr : ∀ s', Dfr (E.X (k + 1) s' U').nd (E.X (k + 1) s' U').w0.heap.size a W' := fun s' => by
    obtain ⟨Ds, e1, e2, e3, e4⟩ := hs.defers
    have : Ds = [] := e4 rfl
    subst this
    exact .nil (by simpa using e1)
  have hKZ : KZ E (giveT T G) W' := ⟨fun b hb => t1.2.1 b hb.1, Nat.le_trans t1.2.2.1 hkept.size, fun g n hn => by
    obtain ⟨q1, ⟨v, q2⟩, q3⟩ := t1.2.2.2 g n hn
    exact ⟨q1, ⟨v, q2⟩, q3.eq (hkept.row g 0 v q2)⟩⟩
  rcases hor with ⟨rfl, hJ⟩ | ⟨rfl, hJ⟩
  · show K (a.put o.dst (.bool true)) W'
    rw [hd]
    have h1 : Sim (E.X (k + 1) false U') κ' sv (S.drop ps) a W' := ⟨hs.size, dfr false, hs.slot, goon false ⟨hJ, hKZ⟩⟩
    exact hK _ _ (hT U' κ' sv _ W' (h1.put (some d) (.bool true)))
  · show K (a.put o.dst (.bool false)) W'
    rw [hd]
    have h1 : Sim (E.X (k + 1) true U') κ' sv (S.drop ps) a W' := ⟨hs.size, dfr true, hs.slot, goon true ⟨hJ, hKZ⟩⟩
    exact hK _ _ (hF U' κ' sv _ W' (h1.put (some d) (.bool false)))
end
theorem itC_intro {Z : Seat} {f : FuncId} {fn : Func} {c : Code} {cap : List D} {n : Nat} {its : Nat → List D} (hf : Z.P.funcs[f]? = some fn) (hb : fn.body = some c) (hname : (fn.name == "runtime.NumGoroutine") = false) (hn : Nat.ble (cap.length + 1) fn.ntmps = true) (hA : PureL cap) (hI : ∀ k, k < n → PureL (its k)) (hres : fn.results = #[])
    (h : ∀ E : Env, E.Z = Z → E.nt = fn.ntmps → E.n = n → E.its = its → WI E c (fun k s e _ => (e = .normal ∨ e = .ret) ∧ (s = false → k = n) ∧ k ≤ n) 0 false (St.init (.yl E.l :: cap))) : ItC Z f cap n its := by
  refine ⟨⟨fn, c, hf, hb, hname⟩, hI, hA, fun w κ lb hκ hglob hrep l J Jx hJ hJx hY h0 => ?_⟩
  refine callsIn_of_wp_marks hf hb trivial ?_ rfl
  have hlen : cap.length + 1 ≤ fn.ntmps := Nat.le_of_ble_eq_true hn
  have hal := hrep.length
  let E : Env := ⟨Z, fn.ntmps, w, κ, l, n, its, J, Jx, w, κ, fun _ => False, fun _ => 0, fun _ => Go.undef, fun _ => False, Nat.le_refl _, fun _ h => h.elim, fun _ _ _ h => h, fun _ _ _ _ h => h, hJ, hJx, hY⟩
  have hrep' : RepL κ γ0 sv0 (.yl l :: cap) (Value.func (.yield l) #[] #[] :: lb) := .cons _ _ _ _ (.yl _) hrep
  have hz0 : ∀ g n, Z.gsz g = some n → g < w.heap.size ∧ (∃ v, κ g 0 = some v) ∧ RowSz w g n := fun g n hn => by
    obtain ⟨l1, e1, e2⟩ := Z.gszOk g n hn
    obtain ⟨_, u, e3, e4⟩ := hglob.1 g l1 e1
    obtain ⟨cs, T, fr, e5, e6⟩ := hglob.2 g n hn
    refine ⟨(Array.getElem?_eq_some_iff.1 e5).1, ?_, cs, T, fr, e5, e6⟩
    cases e3 with
    | nil => exact absurd rfl e2
    | cons d v l vs _ _ => exact ⟨v, e4 0 v rfl⟩
  have hsim : Sim (E.X 0 false fun _ => False) κ sv0 (St.init (.yl l :: cap)) { tmps := (Value.func (.yield l) #[] #[] :: lb).toArray ++ Array.replicate (fn.ntmps - (Value.func (.yield l) #[] #[] :: lb).toArray.size) Go.undef, defers := [] } w := by
    refine ⟨by simp [Env.X, E]; omega, Dfr.nil rfl, fun i _ => slot_init hrep' _ i, ?_⟩
    exact ⟨hκ, fun _ => trivial, (fun s t b hs => by cases hs), (fun s b o hs => by cases hs), (fun s b hs => by cases hs), ⟨fun _ => False, ⟨fun _ => False, ⟨h0, fun _ h => h.elim, Nat.le_refl _, hz0⟩, fun _ _ h => h, fun b h1 h2 _ => (by have h1 : w.heap.size ≤ b := h1; omega), fun b h => h.elim⟩, fun s b hs => by cases hs⟩, hglob.1, fun b o v _ hk => hk, (fun b hb => by cases hb), Nat.le_refl _,
      ⟨fun _ _ _ h => h, fun _ => Nat.zero_le _, fun _ _ => rfl⟩, fun _ _ _ _ h => h, fun _ _ _ h => h, fun _ h => h.elim, gz_init hglob (fun _ e => by cases e) (fun _ e => e.elim)⟩
  refine wpIn_mono (h E rfl rfl rfl rfl _ κ sv0 _ w hsim) ?_
  rintro e a' W' ⟨k, s, U, κ', sv', S', hs, he, hk, hk2⟩
  obtain ⟨Ds, e1, _, _, e4⟩ := hs.defers
  have : Ds = [] := e4 rfl
  subst this
  have hd : a'.defers = [] := by simpa using e1
  obtain ⟨M, ⟨T, t1, _⟩, _⟩ := hs.wld.frame
  have fin : LeavesInM Fence.wide 0 Z.P fn a'.tmps (fun e W' => (∃ v, e = .returned v) ∧ ((∃ T, J T n W') ∨ (∃ T k, k ≤ n ∧ Jx T k W'))) a'.defers .returning W' := by
    rw [hd]
    refine ⟨.tuple #[], by simp [results, hres], ⟨_, rfl⟩, ?_⟩
    cases s with
    | false => rw [← hk rfl]; exact .inl ⟨T, t1.1⟩
    | true => exact .inr ⟨T, k, hk2, t1.1⟩
  rcases he with rfl | rfl <;> exact fin
section
variable {E : Env} {Q : Nat → Bool → Exit → St → Prop} {k : Nat} {s : Bool} {S : St}
theorem WI_ofR {id : Nat} {ops : Array Oper} {b : Bool} (h : ∀ U, W (E.X k s U) (.region id ops b) (Q k s) S) : WI E (.region id ops b) Q k s S := WI_of h
theorem WI_ofC {c : Operand} {x y : Code} (h : ∀ U, W (E.X k s U) (.cond c x y) (Q k s) S) : WI E (.cond c x y) Q k s S := WI_of h
theorem TI_normal {y : Code} (h : WI E y Q k s S) : thenI E y Q k s .normal S := h
theorem TI_exit {y : Code} {i : Nat} (h : Q k s (.exit i) S) : thenI E y Q k s (.exit i) S := h
theorem BI_normal {id : Nat} (h : Q k s .normal S) : blockI id Q k s .normal S := h
theorem BI_exit_eq {id : Nat} (h : Q k s .normal S) : blockI id Q k s (.exit id) S := by
  show (bif Nat.beq id id then Q k s .normal S else Q k s (.exit id) S)
  rw [Nat.beq_refl]; exact h
theorem WIL_split {ops : Array Oper} {l : List Oper} (n : Nat) (h1 : ∀ U, WL (E.X k s U) ops (l.take n) (fun e S' => e = .normal ∧ WIL E ops (l.drop n) Q k s S') S) : WIL E ops l Q k s S := by
  have := WIL_part (l.take n) (l.drop n) h1
  rwa [List.take_append_drop] at this
theorem WI_loopK {c : Code} {α : Type} (kr kp : List Nat) (ki : α → Nat × Bool) (rs : α → List (Nat × D)) (gs : α → List (Nat × Nat)) (os : α → List (Nat × Own)) (inv : α → Prop) (μ : α → Nat) (x0 : α) (h0 : inv x0) (hk : ki x0 = (k, s)) (hs : AllE S.ρ (rs x0) ∧ AllE S.γ (gs x0) ∧ AllE S.σ (os x0))
    (round : ∀ x h, inv x → WI E c (fun k' s' e S' => match e with | .normal => ∃ x', inv x' ∧ μ x' < μ x ∧ ki x' = (k', s') ∧ ∀ U, ReachK (E.X k' s' U) S S' kr kp (rs x') (gs x') (os x') | e => Q k' s' e S') (ki x).1 (ki x).2 (mkK S kr kp (rs x) (gs x) (os x) h)) : WI E (.loop c) Q k s S := by
  refine WI_loop (α := α × (Nat → Nat)) (fun x => ((ki x.1).1, (ki x.1).2, mkK S kr kp (rs x.1) (gs x.1) (os x.1) x.2)) (fun x => inv x.1) (fun x => μ x.1) (x0, S.γ) h0
    ⟨by rw [hk], by rw [hk], fun U => wk_mk ⟨allE_append hs.1 (keepR_ok S kr), allE_append hs.2.1 (keepG_ok S kp), allE_append hs.2.2 (keepO_ok S kp)⟩⟩ (fun x hi => ?_)
  intro U κ sv a W hsim
  refine wpIn_mono (round x.1 x.2 hi U κ sv a W hsim) ?_
  rintro e a' W' ⟨k', s', U', κ', sv', S', h1, h2⟩
  cases e with
  | normal =>
    obtain ⟨x', i1, i2, i3, i4⟩ := h2
    obtain ⟨S'', w1, w2⟩ := i4 U'
    obtain ⟨κ2, sv2, h3⟩ := w1 κ' sv' a' W' h1
    exact ⟨k', s', U', κ2, sv2, S'', h3, (x', S''.γ), i1, i2, by rw [i3], by rw [i3], fun U2 => wk_mk (matchK_match w2)⟩
  | _ => exact ⟨k', s', U', κ', sv', S', h1, h2⟩
end
section
variable {X : Ctx} {S : St}
theorem bq_now {S' : St} {kp : List Nat} {gs : List (Nat × Nat)} {os : List (Nat × Own)} {Qx : Code → St → Prop} (h : AllE S'.γ gs ∧ AllE S'.σ os ∧ KeepP S S' kp) : bodyQ X S kp gs os Qx .normal S' := ⟨S', Wk.refl _ _, h.1, h.2.1, h.2.2⟩
theorem q_asU {o : Oper} {x : Operand} (ho : o.op = .assign x) (hd : S.ev X x = .undef) : QOp X o S .undef := q_assign ho hd
theorem fin_Fn {rs : List ResultVar} {t : Nat} {f : FuncId} {c c' : List D} (hr : rs = [.tmp t]) (h : S.ev X (.tmp t) = .fn f c) (e : c = c') : FinQ X rs (.fn f c') .ret S := ⟨[.fn f c], by rw [hr]; exact ⟨h, trivial⟩, by rw [e]; rfl⟩
theorem q_mvYl {o : Oper} {x : Operand} {l : Nat} (ho : o.op = .move x) (hd : S.ev X x = .yl l) : QOp X o S (.yl l) := q_move ho hd
theorem wk_freeze_cap (i j : Nat) {s g o : Nat} {f : FuncId} {c c' l : List D} (hX : X.ext = none ∧ ∀ b, ¬ X.ex b) (h : S.ρ i = .fn f c) (hj : nth c j = some (.bx s g o)) (hg : S.γ s = g) (hσ : S.σ s = .box l) (hc' : overN c j [.rp l o] = some c') :
    Wk X S ⟨upd S.ρ i (.fn f c'), S.γ, upd S.σ s .none⟩ := fun κ sv a w hs => by
  have hle := freeze_le hs.wld s
  obtain ⟨rfl, hlen⟩ := overN_eq hc'
  have hnew : ∀ b, blk (S.σ s) (sv s) = some b → X.w0.heap.size ≤ b := fun b hb => (hs.wld.frsh s b hb).resolve_right (fun h => h.elim (fun h => by rw [hX.1] at h; cases h) (hX.2 b))
  refine ⟨_, sv, ⟨hs.size, hs.defers, fun k hk => ?_, hs.wld.freeze s hnew _⟩⟩
  by_cases e : k = i
  · subst e
    simp only [upd_same]
    have h1 := hs.slot k hk
    rw [h] at h1
    generalize a.tmps.getD k Go.undef = v at h1
    cases h1 with
    | fn _ _ vs hl =>
      rw [nth_eq] at hj
      obtain ⟨vj, hvj, hrj⟩ := hl.get hj
      have hjl : j < vs.length := (List.getElem?_eq_some_iff.1 hvj).1
      have hvs : vs = vs.take j ++ [vj] ++ vs.drop (j + 1) := by
        have h3 : vs[j] = vj := by simpa [List.getElem?_eq_getElem hjl] using hvj
        rw [← h3, List.append_assoc, List.singleton_append, List.getElem_cons_drop, List.take_append_drop]
      rw [hvs]
      refine .fn _ _ _ ((((hl.take j).mono hle).append (.cons _ _ _ _ ?_ .nil)).append ((hl.drop _).mono hle))
      have hown := hs.wld.own s
      rw [hσ] at hown
      obtain ⟨b, T, cs, e1, e2, e3, e4⟩ := hown
      cases hrj with
      | bx _ _ _ _ _ hh _ =>
        obtain ⟨b', h5, h6⟩ := hh hg.symm
        rw [e1] at h5
        simp only [Value.pointer.injEq, Option.some.injEq, Addr.mk.injEq, and_true] at h5
        subst h5
        rw [h6]
        have := Rep.rp (κ := fun b o => if blk (S.σ s) (sv s) = some b then w.cell? ⟨b, o, none⟩ else κ b o) (γ := S.γ) (sv := sv) l o b 0 cs e4.1 (e3.mono hle) (fun j v hj => by
          have hb : blk (S.σ s) (sv s) = some b := by rw [hσ, e1]; rfl
          simp only [hb, if_true]
          rw [cell_of_row w b _ _ _ _ e2, Nat.zero_add]; simpa using hj)
        simpa using this
  · simp only [upd_ne _ _ _ _ e]; exact (hs.slot k hk).mono hle
end
end Go.Ab
namespace Go.Ab
open Go Go.RowKit
section
variable {X : Ctx} {Q : Exit → St → Prop} {S T S0 : St} {ops : Array Oper} {o : Oper} {rest : List Oper} {E : List Ent} {V : List Vl}
theorem run_callv {P : Program} {f : FuncId} (h : HasBody P f) {a : Act} {w : World} {x : Operand} {xs : Array Operand} {ts : Array TypeId} {lb : List Value} (ho : o.op = .call { callee := .value x, args := xs, argTypes := ts }) (hx : a.eval x = .func (.func f) #[] lb.toArray) :
    (execOp a.eval o).run P w = .ok (.enter f (xs.toList.map a.eval ++ lb).toArray) w := by
  obtain ⟨fn, c, h1, h2, h3⟩ := h
  have h4 : execOp a.eval o = callFunc f (#[] ++ xs.map a.eval ++ lb.toArray) := by
    unfold execOp; rw [ho]; simp [resolve, Deferred.ofValue, hx, invoke]
  rw [h4]
  have h5 : (#[] ++ xs.map a.eval ++ lb.toArray) = (xs.toList.map a.eval ++ lb).toArray := by simp [← Array.toList_map]
  rw [h5]
  have h6 : ¬ fn.name = "runtime.NumGoroutine" := by simpa using h3
  simp [callFunc, h1, h2, h6]
theorem ev_fn {κ : Nat → Nat → Option Value} {sv : Nat → Value} {a : Act} {w : World} (hs : Sim X κ sv S a w) {x : Operand} {f : FuncId} {c : List D} (h : S.ev X x = .fn f c) : ∃ lb : List Value, a.eval x = .func (.func f) #[] lb.toArray ∧ RepL κ S.γ sv c lb := by
  have h1 := hs.ev x
  rw [h] at h1
  generalize a.eval x = v at h1
  cases h1 with
  | fn _ _ vs hl => exact ⟨vs, rfl, hl⟩
theorem call_scalL {κ : Nat → Nat → Option Value} {sv : Nat → Value} {a : Act} {w : World} (hs : Sim X κ sv S a w) {f : FuncId} {L A : List D} {vs : List Value} {R : D} {v0 : Value} (hc : Contract X.Z f A R) (hr : RepL κ S.γ sv L vs) (hA : FzL S L A) (hR : scal R = some v0) :
    Calls X.Z.P f vs.toArray w fun e w'' => e = .returned v0 ∧ Below w.heap.size w w'' := by
  let κ' : Nat → Nat → Option Value := fun b o => w.cell? ⟨b, o, none⟩
  have hle : Le κ κ' S.γ S.γ sv sv := ⟨fun b o v hk => hs.wld.imm b o v hk, fun _ => Nat.le_refl _, fun _ _ => rfl⟩
  have hr2 := hA.rep hs.wld hle (fun b o v h => h) hr
  refine (hc.calls w κ' _ (fun b o v h => h) ⟨fun g l hg => ?_, (Sim.globOk hs.wld).2⟩ (hr2.pure (fun _ _ _ h => h) hc.pureA)).mono ?_
  · obtain ⟨h1, u, h2, h3⟩ := (Sim.globOk hs.wld).1 g l hg
    exact ⟨h1, u, h2.mono ⟨fun b o v hk => hs.wld.imm b o v hk, fun _ => Nat.le_refl _, fun _ _ => rfl⟩, fun j v hj => hs.wld.imm _ _ _ (h3 j v hj)⟩
  · rintro e w'' ⟨v, rfl, hv, hb2⟩
    rw [scal_eq hR hv]
    exact ⟨rfl, hb2⟩
theorem WL_callv {x : Operand} {f : FuncId} {c : List D} {xs : Array Operand} {ts : Array TypeId} {A : List D} {R : D} {v0 : Value} (hg : o.guard = none) (ho : o.op = .call { callee := .value x, args := xs, argTypes := ts }) (hx : S.ev X x = .fn f c) (hc : Contract X.Z f A R) (hA : FzL S (xs.toList.map (S.ev X) ++ c) A) (hR : scal R = some v0)
    {t : Nat} (hd : o.dst = some t) (hk : WL X ops rest Q (S.set t R)) : WL X ops (o :: rest) Q S := fun κ sv a w hs => by
  obtain ⟨lb, h1, h2⟩ := ev_fn hs hx
  refine wpListIn_plain hg fun K hK => op_call (run_callv hc.body ho h1) (call_scalL hs hc ((evs_rep hs xs.toList).append h2) hA hR) ?_
  rintro e w' ⟨rfl, hb⟩
  refine ⟨v0, rfl, ?_⟩
  rw [hd]
  exact hK _ _ (hk κ sv _ w' ((hs.later hb).put (some t) (scal_rep hR)))
theorem toArr {x : Ab.Own} {E z n : Nat} {f f' : Nat → List D} (h : x = .arr E z n f) (e : ∀ i, f i = f' i) : x = .arr E z n f' := by rw [h, show f = f' from funext e]
end
section
variable {X : Ctx} {Q : Exit → St → Prop} {S T S0 : St} {ops : Array Oper} {o : Oper} {rest : List Oper} {E : List Ent} {V : List Vl} {x y : Operand}
theorem q_mf {cs : Array Operand} {f : FuncId} (ho : o.op = .makeFunc (.func f) cs #[]) : QOp X o S (.mf f (cs.toList.map (S.ev X))) := fun κ sv a w hs => by
  refine ⟨.func (.func f) (cs.map a.eval) #[], ?_, fun w' _ => by simp [execOp, ho, Instr.makeFunc]⟩
  have := Rep.mf (κ := κ) (γ := S.γ) (sv := sv) f _ _ (evs_rep hs cs.toList)
  have e : (cs.toList.map a.eval).toArray = cs.map a.eval := by simp [← Array.toList_map]
  rwa [e] at this
theorem fq_mf {cs : Array Operand} {f : FuncId} (ho : o.op = .makeFunc (.func f) cs #[]) : FQ X o S (.mf f (cs.toList.map (S.ev X))) := fun h => by
  have h1 : cs.toList.map (S.ev X) = cs.toList.map ((restr S (lcOf X S o) h).ev X) := List.map_congr_left fun x hx => (restr_ev (by rw [ho]; simp [Op.operands]; simpa using hx)).symm
  rw [h1]; exact q_mf ho
theorem q_mvMf {f : FuncId} {l : List D} (ho : o.op = .move x) (hd : S.ev X x = .mf f l) : QOp X o S (.mf f l) := q_move ho hd
theorem q_asMf {f : FuncId} {l : List D} (ho : o.op = .assign x) (hd : S.ev X x = .mf f l) : QOp X o S (.mf f l) := q_assign ho hd
theorem run_callm {P : Program} {f : FuncId} (h : HasBody P f) {a : Act} {w : World} {xs : Array Operand} {ts : Array TypeId} {lb : List Value} (ho : o.op = .call { callee := .value x, args := xs, argTypes := ts }) (hx : a.eval x = .func (.func f) lb.toArray #[]) :
    (execOp a.eval o).run P w = .ok (.enter f (lb ++ xs.toList.map a.eval).toArray) w := by
  obtain ⟨fn, c, h1, h2, h3⟩ := h
  have h4 : execOp a.eval o = callFunc f (lb.toArray ++ xs.map a.eval ++ #[]) := by
    unfold execOp; rw [ho]; simp [resolve, Deferred.ofValue, hx, invoke]
  rw [h4]
  have h5 : (lb.toArray ++ xs.map a.eval ++ #[]) = (lb ++ xs.toList.map a.eval).toArray := by simp [← Array.toList_map]
  rw [h5]
  have h6 : ¬ fn.name = "runtime.NumGoroutine" := by simpa using h3
  simp [callFunc, h1, h2, h6]
theorem ev_mf {κ : Nat → Nat → Option Value} {sv : Nat → Value} {a : Act} {w : World} (hs : Sim X κ sv S a w) {f : FuncId} {c : List D} (h : S.ev X x = .mf f c) : ∃ lb : List Value, a.eval x = .func (.func f) lb.toArray #[] ∧ RepL κ S.γ sv c lb := by
  have h1 := hs.ev x
  rw [h] at h1
  generalize a.eval x = v at h1
  cases h1 with
  | mf _ _ vs hl => exact ⟨vs, rfl, hl⟩
theorem WG_callm {f : FuncId} {c : List D} {xs : Array Operand} {ts : Array TypeId} {A : List D} {R : D} {v0 : Value} {t : Nat} {gs : List Nat} (hw : Want X S ops o gs) (ho : o.op = .call { callee := .value x, args := xs, argTypes := ts }) (hd : o.dst = some t) (hx : S.ev X x = .mf f c) (hc : Contract X.Z f A R) (hA : FzL S (c ++ xs.toList.map (S.ev X)) A) (hR : scal R = some v0)
    (hk : WG X Q ops S0 (E ++ [(⟨gs ++ slotsOf (x :: xs.toList), plL (c ++ xs.toList.map (S.ev X)), plL (c ++ xs.toList.map (S.ev X))⟩, ⟨some t, none, none⟩)]) (V ++ [⟨R, 0, .none⟩]) rest (S.set t R)) : WG X Q ops S0 E V (o :: rest) S := by
  refine WG_step rfl (fun hoi T hT κ sv a w hs => ?_) hk
  have hm : xs.toList.map (T.ev X) = xs.toList.map (S.ev X) := List.map_congr_left fun y hy => ev_congr fun t e => by subst e; exact hT.rr t (List.mem_append_right _ (slots_mem (List.mem_cons_of_mem _ hy)))
  have hxT : T.ev X x = .mf f c := (ev_congr fun t e => by subst e; exact hT.rr t (List.mem_append_right _ (slots_mem (List.mem_cons_self ..)))).trans hx
  have hA' : FzL T (c ++ xs.toList.map (T.ev X)) A := by
    rw [hm]
    exact fzL_agree hA (fun s hs => hT.rg s hs) (fun s hs => hT.ro s hs)
  unfold wpOpIn
  rw [hoi]
  simp only
  rw [if_pos (want_at hw (fun t ht => hT.rr t (List.mem_append_left _ ht)) hs)]
  obtain ⟨lb, h1, h2⟩ := ev_mf hs hxT
  refine op_call (run_callm hc.body ho h1) (call_scalL hs hc (h2.append (evs_rep hs xs.toList)) hA' hR) ?_
  rintro e w' ⟨rfl, hb⟩
  refine ⟨v0, rfl, ?_⟩
  rw [hd]
  exact ⟨κ, sv, (hs.later hb).put (some t) (scal_rep hR)⟩
theorem array_row {P : Program} {T : TypeId} {r : TRow} (hok : rowOk P T r = true) (hk : Nat.beq r.k 2 = true) : P.underlying T = some (.array r.ln r.el) := by
  obtain ⟨i, d, _, hd, _, _, _, h4⟩ := row_info hok
  have hk2 := Nat.eq_of_beq_eq_true hk
  cases d <;> try (simp only at h4; omega)
  obtain ⟨_, h5, h6⟩ := h4
  rw [hd, h5, h6]
theorem q_iab {T : TypeId} {r q : TRow} {s g j : Nat} {k : Int} (ho : o.op = .indexAddr T x y) (hx : S.ev X x = .bx s g j) (hg : S.γ s = g) (hy : S.ev X y = .int .i64 k) (h0 : 0 ≤ k)
    (hr : nth X.Z.tab T = some r) (hk : Nat.beq r.k 2 = true) (h1 : k < r.ln) (hq : nth X.Z.tab r.el = some q) (hq9 : Nat.beq q.k 9 = false) : QOp X o S (.bx s g (j + k.toNat * q.sz)) := fun κ sv a w hs => by
  have hok := X.Z.tabOk _ _ hr (by intro e; rw [e] at hk; cases hk)
  have hokq := X.Z.tabOk _ _ hq (by intro e; rw [e] at hq9; cases hq9)
  have hyv := rep_int (hy ▸ hs.ev y)
  obtain ⟨b, e1, e2⟩ := live_bx hs hx hg
  exact ⟨.pointer (some ⟨b, j + k.toNat * q.sz, none⟩), .bx _ _ _ _ (by omega) (fun _ => ⟨b, e1, rfl⟩) rfl, fun w' _ => by
    simp [execOp, ho, e2, hyv, Instr.indexAt, asIntOf, run_underlying (array_row hok hk), Instr.sureAddr, h0, h1, run_size_row hokq, addr_add]⟩
theorem q_idx {T : TypeId} {r q : TRow} {l m : List D} {k : Int} (ho : o.op = .index T x y) (hx : S.ev X x = .agg l) (hy : S.ev X y = .int .i64 k) (h0 : 0 ≤ k)
    (hr : nth X.Z.tab T = some r) (hk : Nat.beq r.k 2 = true) (h1 : k < r.ln) (hq : nth X.Z.tab r.el = some q) (hqk : (Nat.beq q.k 1 || Nat.beq q.k 2) = true) (hm : takeN q.sz (dropN (k.toNat * q.sz) l) = some m) : QOp X o S (.agg m) := fun κ sv a w hs => by
  have hok := X.Z.tabOk _ _ hr (by intro e; rw [e] at hk; cases hk)
  have hokq := X.Z.tabOk _ _ hq (by intro e; rw [e] at hqk; simp at hqk)
  have hyv := rep_int (hy ▸ hs.ev y)
  obtain ⟨vs, e1, hl⟩ := ev_agg hs hx
  obtain ⟨rfl, hlen⟩ := takeN_eq hm
  rw [dropN_eq] at hlen ⊢
  obtain ⟨iq, dq, hiq, hdq, hsq, _⟩ := row_info hokq
  refine ⟨.agg ((vs.drop (k.toNat * q.sz)).take q.sz).toArray, .agg _ _ ((hl.drop _).take _), fun w' _ => ?_⟩
  have hagg : (isAgg r.el).run X.Z.P w' = .ok true w' := by rw [run_isAgg hdq, aggOf_k hokq, hqk]
  have hext : vs.toArray.extract (k.toNat * q.sz) (k.toNat * q.sz + q.sz) = ((vs.drop (k.toNat * q.sz)).take q.sz).toArray := by
    simp [List.extract_eq_drop_take]
  simp [execOp, ho, e1, hyv, Instr.index, asIntOf, run_underlying (array_row hok hk), h0, h1, run_size_row hokq, part, hagg, hext]
end
end Go.Ab
namespace Go.Ab
open Go Go.RowKit
mutual
def renO (p g : Nat) : D → D
  | .os _ _ => .os p g
  | .agg l => .agg (renL p g l)
  | d => d
def renL (p g : Nat) : List D → List D
  | [] => []
  | d :: l => renO p g d :: renL p g l
end
mutual
inductive PO : D → Prop
  | pure (d : D) : Pure d → PO d
  | os (s g : Nat) : PO (.os s g)
  | agg (l : List D) : POL l → PO (.agg l)
inductive POL : List D → Prop
  | nil : POL []
  | cons (d : D) (l : List D) : PO d → POL l → POL (d :: l)
end
section
variable {κ κ' : Nat → Nat → Option Value} {γ γ' : Nat → Nat} {sv sv' : Nat → Value}
mutual
theorem rep_ren (hκ : ∀ b o v, κ b o = some v → κ' b o = some v) {p g p' g' : Nat} (hg : γ p = g) (hg' : γ' p' = g') (hv : sv' p' = sv p) : ∀ {d : D} {v : Value}, PO d → Rep κ γ sv (renO p g d) v → Rep κ' γ' sv' (renO p' g' d) v
  | .os s0 g0, v, _, hr => by
    simp only [renO] at hr ⊢
    cases hr with
    | os _ _ _ h1 h2 h3 => exact .os _ _ _ (Nat.le_of_eq hg'.symm) (fun _ => by rw [hv]; exact h2 hg.symm) h3
  | .agg l, v, hp, hr => by
    simp only [renO] at hr ⊢
    cases hr with
    | agg _ vs hl => exact .agg _ _ (repL_ren hκ hg hg' hv (by
        cases hp with
        | pure _ hp => exact pol_of (by cases hp; assumption)
        | agg _ hp => exact hp) hl)
  | .int k n, v, hp, hr => by cases hr; exact .int _ _
  | .bool b, v, hp, hr => by cases hr; exact .bool _
  | .str s, v, hp, hr => by cases hr; exact .str _
  | .tup l, v, hp, hr => by cases hp with | pure _ hp => exact Rep.pure hκ hr hp
  | .sl z n f, v, hp, hr => by cases hp with | pure _ hp => exact Rep.pure hκ hr hp
  | .nil, v, hp, hr => by cases hr; exact .nil
  | .rp l o, v, hp, hr => by cases hp with | pure _ hp => exact Rep.pure hκ hr hp
  | .bx s g o, v, hp, hr => by cases hp with | pure _ hp => cases hp
  | .mb s g T, v, hp, hr => by cases hp with | pure _ hp => cases hp
  | .op s g z i o, v, hp, hr => by cases hp with | pure _ hp => cases hp
  | .ow s g z a m, v, hp, hr => by cases hp with | pure _ hp => cases hp
  | .fn f c, v, hp, hr => by cases hp with | pure _ hp => exact Rep.pure hκ hr hp
  | .yl l, v, hp, hr => by cases hr; exact .yl _
  | .mf f c, v, hp, hr => by cases hp with | pure _ hp => exact Rep.pure hκ hr hp
  | .one, v, _, hr => by cases hr; exact .one _ (by assumption)
  | .lk c, v, _, hr => by cases hr; exact .lk _ _ (by assumption)
  | .undef, v, _, _ => .undef v
theorem repL_ren (hκ : ∀ b o v, κ b o = some v → κ' b o = some v) {p g p' g' : Nat} (hg : γ p = g) (hg' : γ' p' = g') (hv : sv' p' = sv p) : ∀ {l : List D} {vs : List Value}, POL l → RepL κ γ sv (renL p g l) vs → RepL κ' γ' sv' (renL p' g' l) vs
  | [], vs, _, hr => by simp only [renL] at hr ⊢; cases hr; exact .nil
  | d :: l, vs, hp, hr => by
    simp only [renL] at hr ⊢
    cases hr with
    | cons _ v _ vs h1 h2 =>
      cases hp with
      | cons _ _ p1 p2 => exact .cons _ _ _ _ (rep_ren hκ hg hg' hv p1 h1) (repL_ren hκ hg hg' hv p2 h2)
theorem pol_of : ∀ {l : List D}, (∀ d ∈ l, Pure d) → POL l
  | [], _ => .nil
  | d :: l, h => .cons d l (.pure d (h d (List.mem_cons_self ..))) (pol_of fun x hx => h x (List.mem_cons_of_mem _ hx))
end
end
structure ContractO (Z : Seat) (f : FuncId) (A : List D) (R : D) (E z n : Nat) (el : Nat → List D) : Prop where
  pureA : PureL A
  poR : PO R
  pureE : ∀ i, i < n → PureL (el i)
  body : HasBody Z.P f
  calls : ∀ (w : World) (κ : Nat → Nat → Option Value) (args : List Value), Fits κ w → GlobOk Z κ w → RepL κ γ0 sv0 A args →
    Calls Z.P f args.toArray w fun e w' => ∃ v sl κ', e = .returned v ∧ Rep κ' (fun _ => 1) (fun _ => sl) (renO 0 1 R) v ∧ (∀ b o u, κ b o = some u → κ' b o = some u) ∧ (∀ b o u, b < w.heap.size → κ' b o = some u → κ b o = some u) ∧
      (∀ b o u, κ' b o = some u → w'.cell? ⟨b, o, none⟩ = some u) ∧ sl.oneCell' = true ∧ Owns w.heap.size κ' (fun _ => 1) (fun _ => sl) w' 0 (.arr E z n el) ∧ (∀ b, blk (.arr E z n el) sl = some b → ∀ o, κ' b o = none) ∧ Below w.heap.size w w'
def FinO (X : Ctx) (rs : List ResultVar) (R : D) (E z n : Nat) (el : Nat → List D) : Exit → St → Prop
  | .normal, S | .ret, S => ∃ s g, S.γ s = g ∧ S.σ s = .arr E z n el ∧ ∃ ds, ResL X S rs ds ∧ tupOf ds = renO s g R
  | _, _ => False
theorem contractO_intro {Z : Seat} {f : FuncId} {fn : Func} {c : Code} {A : List D} {R : D} {E z n : Nat} {el : Nat → List D} (hf : Z.P.funcs[f]? = some fn) (hb : fn.body = some c) (hname : (fn.name == "runtime.NumGoroutine") = false) (hn : Nat.ble A.length fn.ntmps = true) (hA : PureL A) (hR : PO R) (hE : ∀ i, i < n → PureL (el i))
    (h : ∀ w κ, W (Ctx.plain Z fn.ntmps w κ none) c (FinO (Ctx.plain Z fn.ntmps w κ none) fn.results.toList R E z n el) (St.init A)) : ContractO Z f A R E z n el := by
  refine ⟨hA, hR, hE, ⟨fn, c, hf, hb, hname⟩, fun w κ args hκ hglob hrep => ?_⟩
  refine (callsIn_wide (n := 0)).1 (callsIn_of_wp_marks hf hb trivial ?_ rfl)
  have hlen : A.length ≤ fn.ntmps := Nat.le_of_ble_eq_true hn
  have hal := hrep.length
  have hsim : Sim (Ctx.plain Z fn.ntmps w κ none) κ sv0 (St.init A) { tmps := args.toArray ++ Array.replicate (fn.ntmps - args.toArray.size) Go.undef, defers := [] } w := by
    refine ⟨by simp [Ctx.plain]; omega, Dfr.nil rfl, fun i _ => slot_init hrep _ i, ?_⟩
    exact ⟨hκ, fun _ => trivial, (fun s t b hs => by cases hs), (fun s b o hs => by cases hs), (fun s b hs => by cases hs), ⟨fun _ => False, ⟨Frame.refl _ _, fun _ h => h.elim⟩, fun s b hs => by cases hs⟩, hglob.1, fun b o v _ hk => hk, (fun b hb => by cases hb), Nat.le_refl _, ⟨fun _ _ _ h => (by cases h), fun _ => Nat.zero_le _, fun _ _ => rfl⟩, fun _ _ _ _ h => h, fun _ _ _ h => h, fun _ h => h.elim, gz_init hglob (fun _ e => by cases e) (fun _ e => e.elim)⟩
  refine wpIn_mono (h w κ κ sv0 _ w hsim) ?_
  rintro e a' w' ⟨κ', sv', S', hs, hq⟩
  cases e <;> first | exact hq.elim | skip
  all_goals
    obtain ⟨s, g, hg, hσ, ds, hd, hren⟩ := hq
    obtain ⟨Ds, d1, d2, d3, _⟩ := hs.defers
    show LeavesInM _ _ _ _ _ _ a'.defers _ _
    rw [d1]
    refine leaves_of rfl plainF_turn hd (fun a w' v hs h2 => ?_) Ds a' w' hs d1 d2 d3
    rw [hren] at h2
    obtain ⟨M, h1, _⟩ := hs.wld.frame
    have hown := hs.wld.own s
    rw [hσ] at hown
    have hk : ∀ b o u, κ' b o = some u → (fun b o => if b < w.heap.size then κ b o else κ' b o) b o = some u := fun b o u hu => by
      simp only
      split
      · exact hs.wld.old b o u (by assumption) hu
      · exact hu
    have hsl : (sv' s).oneCell' = true := by
      obtain ⟨xs, e1, _⟩ := hown
      rcases e1.2 with ⟨hv, _⟩ | ⟨b, off, cap, cur, hv, _⟩ <;> rw [hv] <;> rfl
    refine ⟨v, sv' s, fun b o => if b < w.heap.size then κ b o else κ' b o, rfl, rep_ren (p := s) (g := g) (p' := 0) (g' := 1) (γ' := fun _ => 1) (sv' := fun _ => sv' s) hk hg rfl rfl hR h2, fun b o u hu => ?_, fun b o u hb hu => ?_, fun b o u hu => ?_, hsl, ?_, fun b hb o => ?_, h1.1.below⟩
    · have : b < w.heap.size := by have := World.block_lt_of_cell? w _ (hκ b o u hu); simpa using this
      simp only; rw [if_pos this]; exact hu
    · simp only at hu; rw [if_pos hb] at hu; exact hu
    · simp only at hu
      split at hu
      · rename_i hb
        have h3 := hκ b o u hu
        rw [h1.1.below.cell (by simpa using hb)]; exact h3
      · exact hs.wld.imm b o u hu
    · obtain ⟨xs, e1, e2, e3, e4⟩ := hown
      exact ⟨xs, e1, e2, e3, fun i hi => (e4 i hi).pure hk (hE i hi)⟩
    · have hbk : blk (S'.σ s) (sv' s) = some b := by rw [hσ]; exact hb
      have h3 := hs.wld.frsh s b hbk
      have h4 : w.heap.size ≤ b := h3.resolve_right (fun h => by rcases h with h | h <;> cases h)
      simp only; rw [if_neg (by omega)]
      exact hs.wld.sep s b o hbk
section
variable {X : Ctx} {κ κ' : Nat → Nat → Option Value} {sv : Nat → Value} {S : St} {w w' : World}
theorem SimW.adopt (h : SimW X κ sv S w) (hb : Below w.heap.size w w') (k1 : ∀ b o u, κ b o = some u → κ' b o = some u) (k2 : ∀ b o u, b < w.heap.size → κ' b o = some u → κ b o = some u) (k3 : ∀ b o u, κ' b o = some u → w'.cell? ⟨b, o, none⟩ = some u)
    (p : Nat) (ow : Own) (sl : Value) (hnew : ∀ b, blk ow sl = some b → w.heap.size ≤ b ∧ b < w'.heap.size ∧ ∀ o, κ' b o = none) (ho : Owns (X.base p) κ' (upd S.γ p (S.γ p + 1)) (upd sv p sl) w' p ow) (ρ' : Nat → D) :
    SimW X κ' (upd sv p sl) ⟨ρ', upd S.γ p (S.γ p + 1), upd S.σ p ow⟩ w' := by
  have hle : Le κ κ' S.γ (upd S.γ p (S.γ p + 1)) sv (upd sv p sl) := by
    obtain ⟨a, b, c⟩ := le_renew κ S.γ sv p sl
    exact ⟨k1, b, c⟩
  have hbk : ∀ t b, blk (upd S.σ p ow t) (upd sv p sl t) = some b → (t = p ∧ blk ow sl = some b) ∨ (t ≠ p ∧ blk (S.σ t) (sv t) = some b) := by
    intro t b hb
    by_cases e : t = p
    · subst e; rw [upd_same, upd_same] at hb; exact .inl ⟨rfl, hb⟩
    · rw [upd_ne _ _ _ _ e, upd_ne _ _ _ _ e] at hb; exact .inr ⟨e, hb⟩
  obtain ⟨h1, h2, h3, h4, h5, ⟨M, h6, h6'⟩, h7, h8, h9, h10, h11, h12, h13, h14, h15⟩ := h
  refine ⟨k3, fun t => ?_, fun t u b ht hu => ?_, fun t b o ht => ?_, fun t b ht => ?_, ⟨_, X.cl M w w' h6 ⟨hb.os, hb.tape, hb.output, hb.size, fun k hk _ => hb.block k hk⟩, fun t b ht => ?_⟩, fun g l hgl => ?_, fun b o v hlt hk => ?_, fun b hb' => ?_, Nat.le_trans h10 hb.size, h11.trans hle, fun b o v hk hT => ?_, fun t b ht hT => ?_, fun b hT => Nat.lt_of_lt_of_le (h14 b hT) hb.size, h15⟩
  · by_cases e : t = p
    · subst e; simp only [upd_same]; exact ho
    · simp only [upd_ne _ _ _ _ e]
      exact owns_mono hle (upd_ne _ _ _ _ e) (fun b hb' => hb.block b (owns_lt (h2 t) hb')) (h2 t)
  · simp only at ht hu
    rcases hbk t b ht with ⟨rfl, a1⟩ | ⟨e1, a1⟩ <;> rcases hbk u b hu with ⟨rfl, a2⟩ | ⟨e2, a2⟩
    · rfl
    · have := owns_lt (h2 u) a2; have := (hnew b a1).1; omega
    · have := owns_lt (h2 t) a1; have := (hnew b a2).1; omega
    · exact h3 t u b a1 a2
  · simp only at ht
    rcases hbk t b ht with ⟨rfl, a1⟩ | ⟨e1, a1⟩
    · exact (hnew b a1).2.2 o
    · cases hk : κ' b o with
      | none => rfl
      | some v => have h20 := k2 b o v (owns_lt (h2 t) a1) hk; rw [h4 t b o a1] at h20; cases h20
  · simp only at ht
    rcases hbk t b ht with ⟨rfl, a1⟩ | ⟨e1, a1⟩
    · exact .inl (Nat.le_trans h10 (hnew b a1).1)
    · exact h5 t b a1
  · simp only at ht
    rcases hbk t b ht with ⟨rfl, a1⟩ | ⟨e1, a1⟩
    · exact .inr (hnew b a1).1
    · exact .inl (h6' t b a1)
  · obtain ⟨hc, u, hu, hk⟩ := h7 g l hgl
    exact ⟨hc, u, hu.mono hle, fun j v hj => k1 _ _ _ (hk j v hj)⟩
  · exact h8 b o v hlt (k2 b o v (Nat.lt_of_lt_of_le hlt h10) hk)
  · obtain ⟨e1, e2⟩ := h9 b hb'
    by_cases e : 0 = p
    · subst e; simp only [upd_same]; exact ⟨by omega, fun e => by omega⟩
    · simp only [upd_ne _ _ _ _ e]; exact ⟨e1, e2⟩
  · by_cases e : b < w.heap.size
    · exact h12 b o v (k2 b o v e hk) hT
    · have := h14 b hT; omega
  · simp only at ht
    rcases hbk t b ht with ⟨rfl, a1⟩ | ⟨e1, a1⟩
    · have := h14 b hT; have := (hnew b a1).1; omega
    · exact h13 t b a1 hT
end
section
variable {X : Ctx} {Q : Exit → St → Prop} {S : St} {ops : Array Oper} {o : Oper} {rest : List Oper}
theorem WL_callo (p : Nat) {f : FuncId} {xs : Array Operand} {ts : Array TypeId} {A : List D} {R : D} {E z n : Nat} {el : Nat → List D} (hg : o.guard = none) (ho : o.op = .call { callee := .value (.func f), args := xs, argTypes := ts }) (hc : ContractO X.Z f A R E z n el) (hA : xs.toList.map (S.ev X) = A)
    {t : Nat} (hd : o.dst = some t) {R' : D} (hR : renO p (S.γ p + 1) R = R') (hk : WL X ops rest Q ⟨upd S.ρ t R', upd S.γ p (S.γ p + 1), upd S.σ p (.arr E z n el)⟩) : WL X ops (o :: rest) Q S := fun κ sv a w hs => by
  subst hR
  have hr := evs_rep hs xs.toList
  rw [hA] at hr
  refine wpListIn_plain hg fun K hK => op_call (run_call hc.body ho) (hc.calls w κ _ (Sim.fits hs.wld) (Sim.globOk hs.wld) (hr.pure (fun _ _ _ h => h) hc.pureA)) ?_
  rintro e w' ⟨v, sl, κ', rfl, hv, k1, k2, k3, hsl, hown, hsep, hb⟩
  refine ⟨v, rfl, ?_⟩
  rw [hd]
  have hle : Le κ κ' S.γ (upd S.γ p (S.γ p + 1)) sv (upd sv p sl) := by
    obtain ⟨a, b, c⟩ := le_renew κ S.γ sv p sl
    exact ⟨k1, b, c⟩
  have hW := hs.wld.adopt hb k1 k2 k3 p (.arr E z n el) sl (fun b hbk => by
    obtain ⟨xs, e1, _⟩ := hown
    rcases e1.2 with ⟨hv, _⟩ | ⟨b', off, cap, cur, hv, hbase, hh, _⟩
    · simp only at hv; rw [hv] at hbk; cases hbk
    · simp only at hv
      rw [hv] at hbk; simp only [blk, Option.some.injEq] at hbk; subst hbk
      exact ⟨hbase, (Array.getElem?_eq_some_iff.1 hh).1, hsep b' (by rw [hv]; rfl)⟩) (by
    obtain ⟨xs, e1, e2, e3, e4⟩ := hown
    exact ⟨xs, by rw [upd_same]; exact owns_base e1 (hs.wld.baseS _), e2, e3, fun i hi => (e4 i hi).pure (fun _ _ _ h => h) (hc.pureE i hi)⟩) S.ρ
  have hs' : Sim X κ' (upd sv p sl) ⟨S.ρ, upd S.γ p (S.γ p + 1), upd S.σ p (.arr E z n el)⟩ a w' := ⟨hs.size, hs.defers.later hb, fun i hi => (hs.slot i hi).mono hle, hW⟩
  exact hK _ _ (hk κ' _ _ w' (hs'.put (some t) (rep_ren (p := 0) (g := 1) (fun _ _ _ h => h) rfl (upd_same _ _ _) (upd_same _ _ _) hc.poR hv)))
end
section
variable {X : Ctx} {S : St}
theorem wk_arrN (s : Nat) {E z n : Nat} {f : Nat → List D} (f' : Nat → List D) (hσ : S.σ s = .arr E z n f) (h : ∀ i, i < n → NilL (f i) (f' i)) : Wk X S ⟨S.ρ, S.γ, upd S.σ s (.arr E z n f')⟩ := fun κ sv a w hs => by
  have hown := hs.wld.own s
  rw [hσ] at hown
  obtain ⟨xs, e1, e2, e3, e4⟩ := hown
  have nl : ∀ {l l' : List D}, NilL l l' → l'.length = l.length := by
    intro l
    induction l with
    | nil => intro l' h; cases l' <;> first | rfl | exact h.elim
    | cons d l ih => intro l' h; cases l' with
      | nil => exact h.elim
      | cons d' l' => simp [ih h.2]
  refine ⟨κ, sv, ⟨hs.size, hs.defers, hs.slot, ?_⟩⟩
  refine hs.wld.rewrite s (.arr E z n f') (below_grown (Below.refl _ _) _) (by
    rw [hσ]
    cases sv s with
    | pointer a => cases a <;> rfl
    | slice a => cases a <;> rfl
    | map a => cases a <;> rfl
    | _ => rfl) ⟨xs, e1, fun i hi => by rw [nl (h i hi)]; exact e2 i hi, fun i hi => nilL_cell (h i hi) (e3 i hi), fun i hi => nilL_rep (h i hi) (e4 i hi)⟩ _
theorem n_wk {o : Oper} {S1 S2 : St} (h : NOp X o S S1) (hw : Wk X S1 S2) : NOp X o S S2 := fun κ sv a w hs => by
  obtain ⟨v, w', κ', sv', h1, h2⟩ := h κ sv a w hs
  obtain ⟨κ2, sv2, h3⟩ := hw κ' sv' _ w' h2
  exact ⟨v, w', κ2, sv2, h1, h3⟩
theorem wk_slf (t : Nat) {z n : Nat} {f : Nat → List D} (f' : Nat → List D) (h : S.ρ t = .sl z n f) (hf : ∀ i, i < n → f i = f' i) : Wk X S (S.set t (.sl z n f')) := fun κ sv a w hs => by
  refine ⟨κ, sv, ⟨hs.size, hs.defers, fun i hi => ?_, hs.wld.slots rfl rfl⟩⟩
  by_cases e : i = t
  · subst e
    simp only [St.set, upd_same]
    have h1 := hs.slot i hi
    rw [h] at h1
    generalize a.tmps.getD i Go.undef = v at h1
    cases h1 with
    | sl _ _ _ b off cap u h1 h2 h5 h3 h4 => exact .sl z n f' b off cap u h1 (fun i hi => by rw [← hf i hi]; exact h2 i hi) (fun i hi => by rw [← hf i hi]; exact h5 i hi) (fun i hi => by rw [← hf i hi]; exact h3 i hi) h4
    | sl0 => exact .sl0 _ _
    | slE => exact .slE _ _ _ _
  · simp only [St.set, upd_ne _ _ _ _ e]; exact hs.slot i hi
theorem nilL_refl : ∀ l : List D, NilL l l
  | [] => trivial
  | _ :: l => ⟨.inl rfl, nilL_refl l⟩
end
section
variable {X : Ctx} {Q : Exit → St → Prop} {S S0 : St} {ops : Array Oper} {o : Oper} {rest : List Oper} {E : List Ent} {V : List Vl}
end
end Go.Ab
