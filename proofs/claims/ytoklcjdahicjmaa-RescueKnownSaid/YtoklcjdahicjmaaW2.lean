/- Walks by computing: what each function of the program that the laws reach gives for what it gets, as plain Lean, and that it is so; without a condition but those that stand in each theorem. -/
import Derived.Shelf.Abstract
import Derived.MapKept
import Derived.MapFrom
import Derived.Carry
import Derived.Scope
import Derived.Test.YtoklcjdahicjmaaW1
set_option linter.all false
namespace Go.Ab
open Go Go.RowKit
section
variable {X : Ctx} {Q : Exit → St → Prop} {S S' S'' : St} {kr kp : List Nat} {rs : List (Nat × D)} {gs : List (Nat × Nat)} {os : List (Nat × Own)}
end
def fieldOk (P : Program) (f : Field) : D → Bool
  | .int _ _ => f.name != "_" && (match P.underlying f.type with | some (.int _) => true | _ => false)
  | .bool _ => f.name != "_" && (match P.underlying f.type with | some .bool => true | _ => false)
  | _ => false
def fieldsOk (P : Program) : List Field → List D → Nat → Bool
  | [], [], _ => true
  | f :: fs, d :: ds, n => fieldOk P f d && Nat.beq f.offset n && fieldsOk P fs ds (n + 1)
  | _, _, _ => false
def flatB (P : Program) (T : TypeId) (l : List D) : Bool := match P.underlying T with
  | some (.struct fs) => !P.stoodInHeld T && fieldsOk P fs.toList l 0 && !P.eqGuardType P.depth T
  | _ => false
def eqL : List D → List D → Option Bool
  | [], [] => some true
  | .int k a :: l, .int k' b :: m => match k == k', eqL l m with | true, some r => some (decide (a = b) && r) | _, _ => none
  | .bool a :: l, .bool b :: m => match eqL l m with | some r => some (a == b && r) | none => none
  | _, _ => none
section
variable {P : Program} {κ : Nat → Nat → Option Value} {γ : Nat → Nat} {sv : Nat → Value}
theorem run_fields (w : World) (d : Nat) : ∀ (fs : List Field) (l m : List D) (xs ys : List Value) (pre pre' : List Value) (b : Bool), RepL κ γ sv l xs → RepL κ γ sv m ys → pre.length = pre'.length →
    fieldsOk P fs l pre.length = true → eqL l m = some b → (Op.eqFields (d + 1) (pre ++ xs).toArray (pre' ++ ys).toArray fs).run P w = .ok b w := by
  intro fs
  induction fs with
  | nil =>
    intro l m xs ys pre pre' b h1 h2 hp hf he
    cases l with
    | cons x l => simp [fieldsOk] at hf
    | nil =>
      cases m with
      | nil => simp [eqL] at he; subst he; simp [Op.eqFields]
      | cons x m => simp [eqL] at he
  | cons f fs ih =>
    intro l m xs ys pre pre' b h1 h2 hp hf he
    cases l with
    | nil => simp [fieldsOk] at hf
    | cons x l =>
      simp only [fieldsOk, Bool.and_eq_true] at hf
      obtain ⟨⟨hf1, hf2⟩, hf3⟩ := hf
      have hoff := Nat.eq_of_beq_eq_true hf2
      cases m with
      | nil => cases x <;> simp [eqL] at he
      | cons y m =>
        cases h1 with
        | cons _ vx _ vxs r1 rs1 =>
          cases h2 with
          | cons _ vy _ vys r2 rs2 =>
            have key : ∀ (r b' : Bool), f.name ≠ "_" → P.plainKey f.type = true → eqL l m = some b' → (Op.equalIn (d + 1) f.type vx vy).run P w = .ok r w → b = (r && b') → (Op.eqFields (d + 1) (pre ++ vx :: vxs).toArray (pre' ++ vy :: vys).toArray (f :: fs)).run P w = .ok b w := by
              intro r b' hn hk hb' hr hb
              have p1 : (part f.type (pre ++ vx :: vxs).toArray f.offset).run P w = .ok vx w := run_part_plain w hk (by rw [hoff]; simp)
              have p2 : (part f.type (pre' ++ vy :: vys).toArray f.offset).run P w = .ok vy w := run_part_plain w hk (by rw [hoff, hp]; simp)
              have hrest := ih l m vxs vys (pre ++ [vx]) (pre' ++ [vy]) b' rs1 rs2 (by simp [hp]) (by rw [List.length_append]; exact hf3) hb'
              simp only [List.append_assoc, List.singleton_append] at hrest
              simp only [Op.eqFields, hn, ne_eq, not_false_eq_true, if_true, Sem.run_bind, p1, p2, hr, Result.andThen_ok]
              cases r with
              | false => simp [hb]
              | true => simpa [hb] using hrest
            cases x <;> cases y <;> simp only [eqL] at he <;> try (cases he; done)
            · rename_i k1 a k2 c
              cases r1; cases r2
              simp only [fieldOk, Bool.and_eq_true] at hf1
              obtain ⟨hn, hu⟩ := hf1
              cases hkk : k1 == k2 with
              | false => rw [hkk] at he; simp at he
              | true =>
                have : k1 = k2 := by simpa using hkk
                subst this
                rw [hkk] at he
                cases he2 : eqL l m with
                | none => rw [he2] at he; cases he
                | some r =>
                  rw [he2] at he
                  simp only [Option.some.injEq] at he
                  cases hT : P.underlying f.type with
                  | none => simp [hT] at hu
                  | some dd =>
                    cases dd <;> simp [hT] at hu
                    refine key (a == c) r (by simpa using hn) (by simp [Program.plainKey, hT]) he2 (by simp [Op.equalIn, run_underlying hT]) (by rw [← he]; first | rfl | simp)
            · rename_i a c
              cases r1; cases r2
              simp only [fieldOk, Bool.and_eq_true] at hf1
              obtain ⟨hn, hu⟩ := hf1
              cases he2 : eqL l m with
              | none => rw [he2] at he; cases he
              | some r =>
                rw [he2] at he
                simp only [Option.some.injEq] at he
                cases hT : P.underlying f.type with
                | none => simp [hT] at hu
                | some dd =>
                  cases dd <;> simp [hT] at hu
                  refine key (a == c) r (by simpa using hn) (by simp [Program.plainKey, hT]) he2 (by simp [Op.equalIn, run_underlying hT]) (by rw [← he])
theorem run_eq_flat (w : World) (d : Nat) {T : TypeId} {l m : List D} {xs ys : List Value} {b : Bool} (hf : flatB P T l = true) (h1 : RepL κ γ sv l xs) (h2 : RepL κ γ sv m ys) (he : eqL l m = some b) :
    (Op.equalIn (d + 2) T (.agg xs.toArray) (.agg ys.toArray)).run P w = .ok b w := by
  unfold flatB at hf
  cases hu : P.underlying T with
  | none => simp [hu] at hf
  | some dd =>
    cases dd <;> simp only [hu] at hf <;> try (cases hf; done)
    rename_i fs
    simp only [Bool.and_eq_true, Bool.not_eq_true'] at hf
    have hfs : P.fieldsOf T = fs := by simp [Program.fieldsOf, hu]
    rw [run_equalIn_struct w (d + 1) T _ _ (by rw [hfs]; exact hu) hf.1.1, hfs]
    exact run_fields w d fs.toList l m xs ys [] [] b h1 h2 rfl hf.1.2 he
theorem flat_guard {T : TypeId} {l : List D} (hf : flatB P T l = true) : P.eqGuardType P.depth T = false := by
  unfold flatB at hf
  cases hu : P.underlying T with
  | none => simp [hu] at hf
  | some dd =>
    cases dd <;> simp only [hu] at hf <;> try (cases hf; done)
    simp only [Bool.and_eq_true, Bool.not_eq_true'] at hf
    exact hf.2
end
def fields2Ok (P : Program) : List Field → List D → Nat → Bool
  | [], [], _ => true
  | f :: fs, l, n => f.name != "_" && flatB P f.type (l.take (P.cellsOf f.type)) && Nat.beq f.offset n && Nat.beq (l.take (P.cellsOf f.type)).length (P.cellsOf f.type) && fields2Ok P fs (l.drop (P.cellsOf f.type)) (n + P.cellsOf f.type)
  | _, _, _ => false
def flat2B (P : Program) (T : TypeId) (l : List D) : Bool := match P.underlying T with
  | some (.struct fs) => !P.stoodInHeld T && fields2Ok P fs.toList l 0 && !P.eqGuardType P.depth T
  | _ => false
def flatA (P : Program) (T : TypeId) (l : List D) : Bool := flatB P T l || flat2B P T l
theorem eqL_split : ∀ (n : Nat) (l m : List D) (b : Bool), eqL l m = some b → ∃ b1 b2, eqL (l.take n) (m.take n) = some b1 ∧ eqL (l.drop n) (m.drop n) = some b2 ∧ b = (b1 && b2)
  | 0, l, m, b, h => ⟨true, b, by simp [eqL], by simpa using h, by simp⟩
  | n + 1, [], [], b, h => ⟨true, true, by simp [eqL], by simp [eqL], by simp [eqL] at h; subst h; rfl⟩
  | n + 1, [], _ :: _, b, h => by simp [eqL] at h
  | n + 1, x :: l, [], b, h => by cases x <;> simp [eqL] at h
  | n + 1, x :: l, y :: m, b, h => by
    cases x <;> cases y <;> simp only [eqL] at h <;> try (cases h; done)
    · rename_i k1 a k2 c
      cases hkk : k1 == k2 with
      | false => rw [hkk] at h; simp at h
      | true =>
        rw [hkk] at h
        cases h2 : eqL l m with
        | none => rw [h2] at h; cases h
        | some r =>
          rw [h2] at h
          simp only [Option.some.injEq] at h
          obtain ⟨b1, b2, q1, q2, q3⟩ := eqL_split n l m r h2
          refine ⟨decide (a = c) && b1, b2, ?_, by simpa using q2, by rw [← h, q3, Bool.and_assoc]⟩
          simp only [List.take_succ_cons, eqL, hkk, q1]
    · rename_i a c
      cases h2 : eqL l m with
      | none => rw [h2] at h; cases h
      | some r =>
        rw [h2] at h
        simp only [Option.some.injEq] at h
        obtain ⟨b1, b2, q1, q2, q3⟩ := eqL_split n l m r h2
        refine ⟨(a == c) && b1, b2, ?_, by simpa using q2, by rw [← h, q3, Bool.and_assoc]⟩
        simp only [List.take_succ_cons, eqL, q1]
section
variable {P : Program} {κ : Nat → Nat → Option Value} {γ : Nat → Nat} {sv : Nat → Value}
theorem RepL.drop' : ∀ {l : List D} {vs : List Value}, RepL κ γ sv l vs → ∀ n, RepL κ γ sv (l.drop n) (vs.drop n)
  | _, _, h, 0 => by simpa using h
  | _, _, .nil, n + 1 => by simpa using RepL.nil
  | _, _, .cons d v l vs h1 h2, n + 1 => by simpa using RepL.drop' h2 n
theorem run_part_struct (w : World) {T : TypeId} {l : List D} (hf : flatB P T l = true) {pre xs : List Value} {off : Nat} (ho : off = pre.length) :
    (part T (pre ++ xs).toArray off).run P w = .ok (.agg (xs.take (P.cellsOf T)).toArray) w := by
  unfold flatB at hf
  cases hu : P.underlying T with
  | none => simp [hu] at hf
  | some dd =>
    cases dd <;> simp only [hu] at hf <;> try (cases hf; done)
    obtain ⟨i, hi⟩ := info_of_underlying hu
    have hc : P.cellsOf T = i.size := by simp [Program.cellsOf, hi]
    have he : ((pre ++ xs).toArray.extract off (off + i.size)) = (xs.take i.size).toArray := by
      apply Array.ext'
      rw [Array.toList_extract]
      simp [List.extract, ho]
    rw [hc, ← he]
    simp [part, isAgg, run_underlying hu, sizeOf, typeInfo, hi]
theorem run_fields2 (w : World) (d : Nat) : ∀ (fs : List Field) (l m : List D) (xs ys : List Value) (pre pre' : List Value) (b : Bool), RepL κ γ sv l xs → RepL κ γ sv m ys → pre.length = pre'.length →
    fields2Ok P fs l pre.length = true → eqL l m = some b → (Op.eqFields (d + 2) (pre ++ xs).toArray (pre' ++ ys).toArray fs).run P w = .ok b w := by
  intro fs
  induction fs with
  | nil =>
    intro l m xs ys pre pre' b h1 h2 hp hf he
    cases l with
    | cons x l => simp [fields2Ok] at hf
    | nil =>
      cases m with
      | nil => simp [eqL] at he; subst he; simp [Op.eqFields]
      | cons x m => simp [eqL] at he
  | cons f fs ih =>
    intro l m xs ys pre pre' b h1 h2 hp hf he
    simp only [fields2Ok, Bool.and_eq_true] at hf
    obtain ⟨⟨⟨⟨hn, hf1⟩, hf2⟩, hf4⟩, hf3⟩ := hf
    have hoff := Nat.eq_of_beq_eq_true hf2
    have hz := Nat.eq_of_beq_eq_true hf4
    have hn : f.name ≠ "_" := by simpa using hn
    obtain ⟨b1, b2, q1, q2, q3⟩ := eqL_split (P.cellsOf f.type) l m b he
    have hl1 := (h1.take (P.cellsOf f.type)).length
    have hll : (m.take (P.cellsOf f.type)).length = P.cellsOf f.type := by
      have : ∀ (l m : List D) (b : Bool), eqL l m = some b → l.length = m.length := by
        intro l
        induction l with
        | nil => intro m b h; cases m <;> simp [eqL] at h ⊢
        | cons x l ih2 =>
          intro m b h
          cases m with
          | nil => cases x <;> simp [eqL] at h
          | cons y m =>
            have : ∃ b', eqL l m = some b' := by
              cases x <;> cases y <;> simp only [eqL] at h <;> try (cases h; done)
              · rename_i k1 a k2 c
                cases hkk : k1 == k2 <;> rw [hkk] at h
                · simp at h
                · cases h2 : eqL l m with
                  | none => rw [h2] at h; cases h
                  | some r => exact ⟨r, rfl⟩
              · cases h2 : eqL l m with
                | none => rw [h2] at h; cases h
                | some r => exact ⟨r, rfl⟩
            obtain ⟨b', hb'⟩ := this
            simp [ih2 m b' hb']
      rw [← this _ _ _ q1, hz]
    have hl2 := (h2.take (P.cellsOf f.type)).length
    have p1 := run_part_struct (P := P) w hf1 (pre := pre) (xs := xs) (off := f.offset) hoff
    have p2 := run_part_struct (P := P) w hf1 (pre := pre') (xs := ys) (off := f.offset) (by rw [hoff, hp])
    have hr := run_eq_flat (P := P) w d hf1 (h1.take _) (h2.take _) q1
    have hrest := ih (l.drop (P.cellsOf f.type)) (m.drop (P.cellsOf f.type)) (xs.drop (P.cellsOf f.type)) (ys.drop (P.cellsOf f.type)) (pre ++ xs.take (P.cellsOf f.type)) (pre' ++ ys.take (P.cellsOf f.type)) b2 (h1.drop' _) (h2.drop' _)
      (by rw [List.length_append, List.length_append, hl1, hl2, hz, hll, hp]) (by rw [List.length_append, hl1, hz]; exact hf3) q2
    simp only [List.append_assoc, List.take_append_drop] at hrest
    simp only [Op.eqFields, hn, ne_eq, not_false_eq_true, if_true, Sem.run_bind, p1, p2, hr, Result.andThen_ok]
    cases b1 with
    | false => simp [q3]
    | true => simpa [q3] using hrest
theorem run_eq_flat2 (w : World) (d : Nat) {T : TypeId} {l m : List D} {xs ys : List Value} {b : Bool} (hf : flatA P T l = true) (h1 : RepL κ γ sv l xs) (h2 : RepL κ γ sv m ys) (he : eqL l m = some b) :
    (Op.equalIn (d + 3) T (.agg xs.toArray) (.agg ys.toArray)).run P w = .ok b w := by
  unfold flatA at hf
  rw [Bool.or_eq_true] at hf
  rcases hf with hf | hf
  · exact run_eq_flat w (d + 1) hf h1 h2 he
  unfold flat2B at hf
  cases hu : P.underlying T with
  | none => simp [hu] at hf
  | some dd =>
    cases dd <;> simp only [hu] at hf <;> try (cases hf; done)
    rename_i fs
    simp only [Bool.and_eq_true, Bool.not_eq_true'] at hf
    have hfs : P.fieldsOf T = fs := by simp [Program.fieldsOf, hu]
    rw [run_equalIn_struct w (d + 2) T _ _ (by rw [hfs]; exact hu) hf.1.1, hfs]
    exact run_fields2 w d fs.toList l m xs ys [] [] b h1 h2 rfl hf.1.2 he
theorem flat_guardA {T : TypeId} {l : List D} (hf : flatA P T l = true) : P.eqGuardType P.depth T = false := by
  unfold flatA at hf
  rw [Bool.or_eq_true] at hf
  rcases hf with hf | hf
  · exact flat_guard hf
  unfold flat2B at hf
  cases hu : P.underlying T with
  | none => simp [hu] at hf
  | some dd =>
    cases dd <;> simp only [hu] at hf <;> try (cases hf; done)
    simp only [Bool.and_eq_true, Bool.not_eq_true'] at hf
    exact hf.2
end
section
variable {X : Ctx} {S : St} {o : Oper} {T T2 : TypeId} {x y : Operand}
theorem ev_agg {κ : Nat → Nat → Option Value} {sv : Nat → Value} {a : Act} {w : World} (hs : Sim X κ sv S a w) {l : List D} (h : S.ev X x = .agg l) : ∃ vs, a.eval x = .agg vs.toArray ∧ RepL κ S.γ sv l vs := by
  have h1 := hs.ev x
  rw [h] at h1
  generalize a.eval x = v at h1
  cases h1 with
  | agg _ vs hv => exact ⟨vs, rfl, hv⟩
theorem q_eqA {l m : List D} {b : Bool} (ho : o.op = .binOp .eql T x y T2) (hx : S.ev X x = .agg l) (hy : S.ev X y = .agg m) (he : eqL l m = some b) (hf : flatA X.Z.P T l = true) : QOp X o S (.bool b) := fun κ sv a w hs => by
  obtain ⟨xs, e1, r1⟩ := ev_agg hs hx
  obtain ⟨ys, e2, r2⟩ := ev_agg hs hy
  refine ⟨.bool b, .bool _, fun w' _ => ?_⟩
  have := run_eq_flat2 (P := X.Z.P) w' 9997 hf r1 r2 he
  simp [execOp, ho, e1, e2, eqGuard, binOp, Op.equal, Op.maxDepth, this, flat_guardA hf]
theorem q_neA {l m : List D} {b : Bool} (ho : o.op = .binOp .neq T x y T2) (hx : S.ev X x = .agg l) (hy : S.ev X y = .agg m) (he : eqL l m = some b) (hf : flatA X.Z.P T l = true) : QOp X o S (.bool (!b)) := fun κ sv a w hs => by
  obtain ⟨xs, e1, r1⟩ := ev_agg hs hx
  obtain ⟨ys, e2, r2⟩ := ev_agg hs hy
  refine ⟨.bool (!b), .bool _, fun w' _ => ?_⟩
  have := run_eq_flat2 (P := X.Z.P) w' 9997 hf r1 r2 he
  simp [execOp, ho, e1, e2, eqGuard, binOp, Op.equal, Op.maxDepth, this, flat_guardA hf]
end
section
variable {X : Ctx} {Q : Exit → St → Prop} {S S' : St} {ops : Array Oper} {o : Oper} {rest : List Oper} {T : TypeId} {r q : TRow}
theorem n_bsl0 {ps : Array (Nat × Operand)} {t z : Nat} {E : TypeId} (f : Nat → List D) (ho : o.op = .buildSlice T 0 ps) (hd : o.dst = some t) (hps : ps = #[])
    (hr : nth X.Z.tab T = some r) (hk : Nat.beq r.k 3 = true) (hE : r.el = E) (hq : nth X.Z.tab E = some q) (hq9 : Nat.beq q.k 9 = false) (hz : q.sz = z) :
    NOp X o S (S.owned t t (.arr E z 0 f)) := fun κ sv a w hs => by
  have hokr := X.Z.tabOk _ _ hr (by intro e; rw [e] at hk; cases hk)
  have hokq := X.Z.tabOk _ _ hq (by intro e; rw [e] at hq9; cases hq9)
  obtain ⟨iq, dq, hiq, hdq, hsq, hbq, ⟨zv, hzv, hzf⟩, _⟩ := row_info hokq
  have hu := slice_row hokr hk
  rw [hE] at hu
  have hrun : (execOp a.eval o).run X.Z.P w = .ok (.value (.slice (some ⟨w.heap.size, 0, none⟩) 0 0)) (w.alloc (.cells #[] E)) := by
    have hz0 : (Array.range 0).map (fun _ => (default : Value)) = #[] := by
      apply Array.eq_empty_of_size_eq_zero; simp
    simp [execOp, ho, hps, Instr.buildSlice, run_underlying hu, sizeOf, typeInfo, hiq, newRow, Instr.fill, hz0]
  have hb' : Below w.heap.size w (w.alloc (.cells #[] E)) := (Below.refl _ _).alloc (Nat.le_refl _) _
  rw [hd]
  refine ⟨_, _, κ, _, .inl hrun, sim_owned hs t t (pv := .slice (some ⟨w.heap.size, 0, none⟩) 0 0) rfl (below_grown hb' _) (fun b hb => by simp only [blk, Option.some.injEq] at hb; exact .inl (by omega)) ?_⟩
  refine ⟨[], by rw [upd_same]; exact ⟨by simp, .inr ⟨w.heap.size, 0, 0, #[], rfl, hs.wld.base, heap_alloc_new w _, Nat.le_refl _, Nat.zero_le _, by simp, by simp⟩⟩, fun i h => by omega, fun i h => by omega, fun i h => by omega⟩
theorem n_bslo {ps : Array (Nat × Operand)} {n z t : Nat} {xs : List Operand} {E : TypeId} {cs : List (List D)} (ho : o.op = .buildSlice T n ps) (hd : o.dst = some t) (hsq : seqP 0 ps.toList = some xs) (hn : Nat.beq xs.length n = true)
    (hr : nth X.Z.tab T = some r) (hk : Nat.beq r.k 3 = true) (hE : r.el = E) (hq : nth X.Z.tab E = some q) (hq9 : Nat.beq q.k 9 = false) (hz : q.sz = z) (hz0 : Nat.beq z 0 = false) (hn0 : Nat.beq n 0 = false) (hsm : Nat.ble (n * z) 16777216 = true) (hc : evC X S xs = cs) (hok : okC z cs = true) :
    NOp X o S (S.owned t t (.arr E z n (nthD cs))) := fun κ sv a w hs => by
  subst hc
  obtain ⟨hrun, hfl⟩ := run_bsl hs ho hsq hn hr hk hE hq hq9 hz hz0 hn0 hsm hok
  obtain ⟨hrep, hcells⟩ := evC_rep hs hok
  have hlen : xs.length = n := Nat.eq_of_beq_eq_true hn
  have hz1 : 0 < z := by
    cases z with
    | zero => cases hz0
    | succ z => omega
  have hle : n * z ≤ 16777216 := Nat.le_of_ble_eq_true hsm
  have hnz : n ≤ n * z := Nat.le_mul_of_pos_right n hz1
  have hb' : Below w.heap.size w (w.alloc (.cells ((xs.map a.eval).map (·.cells.toList)).flatten.toArray E)) := (Below.refl _ _).alloc (Nat.le_refl _) _
  rw [hd]
  refine ⟨_, _, κ, _, .inl hrun, sim_owned hs t t (pv := .slice (some ⟨w.heap.size, 0, none⟩) n n) rfl (below_grown hb' _) (fun b hb => by simp only [blk, Option.some.injEq] at hb; exact .inl (by omega)) ?_⟩
  have hnth : ∀ i, i < n → ∃ c, nth (evC X S xs) i = some c ∧ nthD (evC X S xs) i = c := by
    intro i hi
    rw [nth_eq]
    have : i < (evC X S xs).length := by rw [evC_length, hlen]; exact hi
    exact ⟨(evC X S xs)[i], by simp [this], by simp [nthD, nth_eq, this]⟩
  refine ⟨((xs.map a.eval).map (·.cells.toList)).flatten, by rw [upd_same]; exact ⟨hfl, .inr ⟨w.heap.size, 0, n, ((xs.map a.eval).map (·.cells.toList)).flatten.toArray, rfl, hs.wld.base, heap_alloc_new w _, Nat.le_refl _, by unfold maxLen; omega, by rw [List.size_toArray, hfl]; omega, by rw [List.drop_zero, List.take_of_length_le (by simp only [List.toList_toArray]; omega)]⟩⟩, fun i hi => ?_, fun i hi => ?_, fun i hi => ?_⟩
  · obtain ⟨c, h1, h2⟩ := hnth i hi; rw [h2]; exact (hrep i c h1).1
  · obtain ⟨c, h1, h2⟩ := hnth i hi; rw [h2]; exact (hrep i c h1).2.1
  · obtain ⟨c, h1, h2⟩ := hnth i hi
    obtain ⟨_, _, v, h3, h4⟩ := hrep i c h1
    rw [h2]
    have hch : ((((xs.map a.eval).map (·.cells.toList)).flatten).drop (i * z)).take z = v.cells.toList := by
      apply List.ext_getElem?
      intro j
      rw [List.getElem?_take]
      split
      · rename_i hj
        rw [List.getElem?_drop, flat_at _ (z := z) (fun c hc => by
          obtain ⟨v, hv, rfl⟩ := List.mem_map.1 hc
          simpa using (hcells v hv).1) i j hj]
        rw [List.getElem?_map, h3]; rfl
      · rename_i hj
        have hv : v ∈ xs.map a.eval := List.mem_of_getElem? h3
        have := (hcells v hv).1
        rw [List.getElem?_eq_none (by simp at this ⊢; omega)]
    rw [hch]
    exact h4.mono (le_renew κ S.γ sv t _)
theorem wk_freeze_elem (t i j : Nat) {s g E z n E2 z2 n2 : Nat} {f f2 f2' : Nat → List D} {l0 l' : List D} (hσt : S.σ t = .arr E2 z2 n2 f2) (hne : Nat.beq t s = false) (hi : i < n2) (h0 : f2 i = l0) (hl : nth l0 j = some (.os s g)) (hg : S.γ s = g) (hσ : S.σ s = .arr E z n f) (hl' : overN l0 j [.sl z n f] = some l') (hf : ∀ k, k < n2 → f2' k = if k = i then l' else f2 k) :
    Wk X S ⟨S.ρ, S.γ, upd (upd S.σ s .none) t (.arr E2 z2 n2 f2')⟩ := fun κ sv a w hs => by
  have hle := freeze_le hs.wld s
  subst h0
  have hne : t ≠ s := fun e => by rw [e, Nat.beq_refl] at hne; cases hne
  have hW := hs.wld.freeze s (arr_new hs.wld hσ) S.ρ
  obtain ⟨hl'e, hlen⟩ := overN_eq hl'
  have hown := hW.own t
  simp only [upd_ne _ _ _ _ hne, hσt] at hown
  obtain ⟨xs, e1, e2, e3, e4⟩ := hown
  have hsim : SimW X (fun b o => if blk (S.σ s) (sv s) = some b then w.cell? ⟨b, o, none⟩ else κ b o) sv ⟨S.ρ, S.γ, upd (upd S.σ s .none) t (.arr E2 z2 n2 f2')⟩ w := by
    refine hW.rewrite t (.arr E2 z2 n2 f2') (below_grown (Below.refl _ _) _) (by
      simp only [upd_ne _ _ _ _ hne, hσt]
      cases sv t with
      | pointer a => cases a <;> rfl
      | slice a => cases a <;> rfl
      | map a => cases a <;> rfl
      | _ => rfl) ⟨xs, e1, fun k hk => ?_, fun k hk => ?_, fun k hk => ?_⟩ _
    · rw [hf k hk]
      split
      · rename_i h; subst h; rw [hl'e]; have := e2 k hk; simp at hlen ⊢; omega
      · exact e2 k hk
    · rw [hf k hk]
      split
      · rename_i h; subst h; rw [hl'e]; exact allCell_append (allCell_append (allCell_take (e3 k hk) _) rfl) (allCell_drop (e3 k hk) _)
      · exact e3 k hk
    · rw [hf k hk]
      split
      · rename_i h
        subst h
        rw [hl'e]
        have e3' := e4 k hk
        rw [nth_eq] at hl
        obtain ⟨vj, hvj, hrj⟩ := e3'.get hl
        generalize (xs.drop (k * z2)).take z2 = cs at e3' hvj
        have hjl : j < cs.length := (List.getElem?_eq_some_iff.1 hvj).1
        have hcs : cs = cs.take j ++ [vj] ++ cs.drop (j + 1) := by
          have h3 : cs[j] = vj := by simpa [List.getElem?_eq_getElem hjl] using hvj
          rw [← h3, List.append_assoc, List.singleton_append, List.getElem_cons_drop, List.take_append_drop]
        rw [hcs]
        refine ((e3'.take j).append (.cons _ _ _ _ ?_ .nil)).append (e3'.drop _)
        have hv : vj = sv s := by
          cases hrj with
          | os _ _ _ _ hh _ => exact hh hg.symm
        rw [hv]
        exact frozen_rep hs.wld hσ hle (fun b o v hb hc => by simp [hb, hc])
      · exact e4 k hk
  exact ⟨_, sv, ⟨hs.size, hs.defers, fun i hi => (hs.slot i hi).mono hle, hsim⟩⟩
theorem updF_same (f : Nat → List D) (i : Nat) (l : List D) : updF f i l i = l := by simp [updF]
theorem updF_ne (f : Nat → List D) {i k : Nat} (l : List D) (h : k ≠ i) : updF f i l k = f k := by simp [updF, h]
end
section
variable {X : Ctx} {S : St} {o : Oper} {x : Operand}
end
section
variable {X : Ctx} {S : St} {rs : List ResultVar}
end
section
variable {X : Ctx} {S S' : St} {rs : List ResultVar} {R : D} {e : Exit}
end
section
variable {X : Ctx} {S : St} {o : Oper} {T : TypeId} {r q : TRow}
end
end Go.Ab
namespace Go.Ab
open Go Go.RowKit Go.Shelf
def growT (T : Nat → Prop) (W W' : World) : Nat → Prop := fun b => T b ∨ (W.heap.size ≤ b ∧ b < W'.heap.size)
structure Kept (T : Nat → Prop) (κ : Nat → Nat → Option Value) (W W' : World) : Prop where
  size : W.heap.size ≤ W'.heap.size
  mine : ∀ b, T b → W'.heap[b]? = W.heap[b]?
  cell : ∀ b o v, κ b o = some v → W'.cell? ⟨b, o, none⟩ = some v
def giveT (T G : Nat → Prop) : Nat → Prop := fun b => T b ∧ ¬ G b
structure Given (T G : Nat → Prop) (κ κi : Nat → Nat → Option Value) (W : World) (its : List D) (vs : List Value) : Prop where
  mine : ∀ b, G b → T b
  from' : ∀ b o v, κi b o = some v → (κ b o = some v ∨ G b) ∧ W.cell? ⟨b, o, none⟩ = some v
  rep : RepL κi γ0 sv0 its vs
structure ItC (Z : Seat) (gf : FuncId) (cap : List D) (n : Nat) (its : Nat → List D) : Prop where
  body : HasBody Z.P gf
  pureI : ∀ k, k < n → PureL (its k)
  pureC : PureL cap
  it : ∀ (w : World) (κ : Nat → Nat → Option Value) (lb : List Value), Fits κ w → GlobOk Z κ → RepL κ γ0 sv0 cap lb → ∀ (l : Nat) (J Jx : (Nat → Prop) → Nat → World → Prop),
    (∀ T k W W', J T k W → Step T W W' → J (growT T W W') k W') →
    (∀ T k W W', Jx T k W → Step T W W' → Jx (growT T W W') k W') →
    (∀ T k W vs G κi, J T k W → k < n → (∀ b o v, κ b o = some v → W.cell? ⟨b, o, none⟩ = some v) → Given T G κ κi W (its k) vs → YieldAt Fence.wide 0 Z.P l vs.toArray W fun e W' =>
      ((e = .returned (.bool true) ∧ J (giveT T G) (k + 1) W') ∨ (e = .returned (.bool false) ∧ Jx (giveT T G) (k + 1) W')) ∧ Kept (giveT T G) κ W W') →
    J (fun _ => False) 0 w →
    CallsIn Fence.wide 0 Z.P gf (Value.func (.yield l) #[] #[] :: lb).toArray w fun e W' => (∃ v, e = .returned v) ∧ ((∃ T, J T n W') ∨ (∃ T k, k ≤ n ∧ Jx T k W'))
def protF (w0 : World) (ext : Option Nat) (T : Nat → Prop) (wT : World) (M : Nat → Prop) (w : World) : Prop :=
  (∃ M', plainF w0 ext M' w ∧ ∀ b, M b → M' b) ∧ (∀ b, M b → ¬ T b) ∧ (∀ b, T b → b < wT.heap.size ∧ w.heap[b]? = wT.heap[b]?) ∧ wT.heap.size ≤ w.heap.size
theorem prot_cl (w0 : World) (ext : Option Nat) (T : Nat → Prop) (wT : World) : ∀ M w w', protF w0 ext T wT M w → Step M w w' → protF w0 ext T wT (fun k => M k ∨ w.heap.size ≤ k) w' := by
  rintro M w w' ⟨⟨M', h1, h2⟩, h3, h4, h5⟩ hs
  refine ⟨⟨_, plain_cl w0 ext M' w w' h1 ⟨hs.os, hs.tape, hs.output, hs.size, fun k hk hm => hs.block k hk fun h => hm (h2 k h)⟩, fun b hb => hb.imp (h2 b) id⟩, fun b hb hT => ?_, fun b hT => ?_, Nat.le_trans h5 hs.size⟩
  · rcases hb with hb | hb
    · exact h3 b hb hT
    · have := (h4 b hT).1; omega
  · obtain ⟨e1, e2⟩ := h4 b hT
    exact ⟨e1, (hs.block b (by omega) (fun hm => h3 b hm hT)).trans e2⟩
section
variable {Z : Seat} {nt : Nat} {w0 : World} {κ0 κp : Nat → Nat → Option Value} {ext : Option Nat} {γp : Nat → Nat} {svp : Nat → Value} {T : Nat → Prop}
theorem SimW.other {κ : Nat → Nat → Option Value} {sv : Nat → Value} {S : St} {W W' : World} {ro : Option Nat} {cl : _} (h : SimW ⟨Z, nt, w0, κ0, ext, fun _ => False, κp, γp, svp, T, false, ro, plainF w0 ext, cl⟩ κ sv S W) (hs : Step T W W') (hT : ∀ b, T b → w0.heap.size ≤ b) :
    SimW ⟨Z, nt, w0, κ0, ext, fun _ => False, κp, γp, svp, growT T W W', false, ro, plainF w0 ext, cl⟩ κ sv S W' := by
  obtain ⟨h1, h2, h3, h4, h5, ⟨M, h6, h6'⟩, h7, h8, h9, h10, h11, h12, h13, h14⟩ := h
  have hlt : ∀ b o v, κ b o = some v → b < W.heap.size := fun b o v hk => by have := World.block_lt_of_cell? W _ (h1 b o v hk); simpa using this
  refine ⟨fun b o v hk => ?_, fun s => owns_mono (Le.refl _ _ _) rfl (fun b hb => hs.block b (owns_lt (h2 s) hb) (h13 s b hb)) (h2 s), h3, h4, h5, ⟨M, ?_, h6'⟩, h7, h8, h9, Nat.le_trans h10 hs.size, h11, fun b o v hk hT' => ?_, fun s b hb hT' => ?_, fun b hT' => ?_⟩
  · rw [World.cell?_of_block (hs.block b (hlt b o v hk) (h12 b o v hk))]; exact h1 b o v hk
  · refine ⟨⟨hs.os.trans h6.1.os, hs.tape.trans h6.1.tape, hs.output.trans h6.1.output, Nat.le_trans h6.1.size hs.size, fun k hk he => ?_⟩, h6.2⟩
    exact (hs.block k (Nat.lt_of_lt_of_le hk h6.1.size) (fun hm => by have := hT k hm; omega)).trans (h6.1.block k hk he)
  · rcases hT' with hT' | ⟨hT', _⟩
    · exact h12 b o v hk hT'
    · have := hlt b o v hk; omega
  · rcases hT' with hT' | ⟨hT', _⟩
    · exact h13 s b hb hT'
    · have := owns_lt (h2 s) hb; omega
  · rcases hT' with hT' | ⟨_, hT'⟩
    · exact Nat.lt_of_lt_of_le (h14 b hT') hs.size
    · exact hT'
theorem SimW.reframe {κ : Nat → Nat → Option Value} {sv : Nat → Value} {S : St} {W W' : World} {nd nd' : Bool} {ro ro' : Option Nat} {Φ Φ' : (Nat → Prop) → World → Prop} {cl : _} {cl' : _} {T' : Nat → Prop} {κp' : Nat → Nat → Option Value} {γp' : Nat → Nat} {svp' : Nat → Value}
    (h : SimW ⟨Z, nt, w0, κ0, ext, fun _ => False, κp, γp, svp, T, nd, ro, Φ, cl⟩ κ sv S W) {D : Nat} (hg : W.grownBy W' (some D)) (hn : ∃ o : Obj, W.heap[D]? = some o ∧ isDat o = false)
    (hΦ : ∀ M, Φ M W → (∀ s b, blk (S.σ s) (sv s) = some b → M b) → ∃ M', Φ' M' W' ∧ ∀ s b, blk (S.σ s) (sv s) = some b → M' b) (hT : ∀ b, T' b → T b) (hle : Le κp' κ γp' S.γ svp' sv) :
    SimW ⟨Z, nt, w0, κ0, ext, fun _ => False, κp', γp', svp', T', nd', ro', Φ', cl'⟩ κ sv S W' := by
  obtain ⟨h1, h2, h3, h4, h5, ⟨M, h6, h6'⟩, h7, h8, h9, h10, h11, h12, h13, h14⟩ := h
  obtain ⟨o0, ho1, ho2⟩ := hn
  have hne : ∀ s b, blk (S.σ s) (sv s) = some b → W'.heap[b]? = W.heap[b]? := fun s b hb => hg.block b (owns_lt (h2 s) hb) (fun e => by
    obtain ⟨o, e1, e2⟩ := owns_cells (h2 s) hb
    simp only [Option.some.injEq] at e
    subst e
    rw [ho1] at e1; cases e1; rw [ho2] at e2; cases e2)
  exact ⟨fun b o v hk => cell_kept (h1 b o v hk) hg (fun r e => by cases e; exact ⟨o0, ho1, isDat_no ho2⟩), fun s => owns_mono (Le.refl _ _ _) rfl (hne s) (h2 s), h3, h4, h5, hΦ M h6 h6', h7, h8, h9, Nat.le_trans h10 hg.size, hle,
    fun b o v hk hb => h12 b o v hk (hT b hb), fun s b hb hb' => h13 s b hb (hT b hb'), fun b hb => Nat.lt_of_lt_of_le (h14 b (hT b hb)) hg.size⟩
def joinK (κ κi : Nat → Nat → Option Value) : Nat → Nat → Option Value := fun b o => match κ b o with | some v => some v | none => κi b o
theorem SimW.more {κ κi : Nat → Nat → Option Value} {sv : Nat → Value} {S : St} {W : World} {G : Nat → Prop} {its : List D} {vs : List Value} {cl : _} (h : SimW ⟨Z, nt, w0, κ0, ext, fun _ => False, κp, γp, svp, T, false, none, plainF w0 ext, cl⟩ κ sv S W) (hT : ∀ b, T b → w0.heap.size ≤ b) (hg : Given T G κp κi W its vs) :
    SimW ⟨Z, nt, w0, κ0, ext, fun _ => False, κp, γp, svp, giveT T G, false, none, plainF w0 ext, cl⟩ (joinK κ κi) sv S W ∧ (∀ b o v, κi b o = some v → joinK κ κi b o = some v) := by
  obtain ⟨h1, h2, h3, h4, h5, h6, h7, h8, h9, h10, h11, h12, h13, h14⟩ := h
  have hle : Le κ (joinK κ κi) S.γ S.γ sv sv := ⟨fun b o v hk => by simp only [joinK, hk], fun _ => Nat.le_refl _, fun _ _ => rfl⟩
  have hnew : ∀ b o v, joinK κ κi b o = some v → κ b o = some v ∨ (κ b o = none ∧ κi b o = some v ∧ G b) := fun b o v hk => by
    unfold joinK at hk
    cases hq : κ b o with
    | some u => rw [hq] at hk; exact .inl hk
    | none =>
      rw [hq] at hk
      rcases (hg.from' b o v hk).1 with h | h
      · have := h11.cells b o v h; rw [hq] at this; cases this
      · exact .inr ⟨rfl, hk, h⟩
  refine ⟨⟨fun b o v hk => ?_, fun s => owns_mono hle rfl (fun _ _ => rfl) (h2 s), h3, fun s b o hs => ?_, h5, h6, fun g l hl => ?_, fun b o v hb hk => ?_, h9, h10, h11.trans hle, fun b o v hk hq => ?_, fun s b hb hq => h13 s b hb hq.1, fun b hb => h14 b hb.1⟩, fun b o v hk => ?_⟩
  · rcases hnew b o v hk with h | ⟨_, h, _⟩
    · exact h1 b o v h
    · exact (hg.from' b o v h).2
  · cases hq : joinK κ κi b o with
    | none => rfl
    | some v =>
      rcases hnew b o v hq with h | ⟨_, _, h⟩
      · rw [h4 s b o hs] at h; cases h
      · exact absurd (hg.mine b h) (h13 s b hs)
  · obtain ⟨hc, u, hu, hk⟩ := h7 g l hl
    exact ⟨hc, u, hu.mono hle, fun j v hj => hle.cells _ _ _ (hk j v hj)⟩
  · rcases hnew b o v hk with h | ⟨_, _, h⟩
    · exact h8 b o v hb h
    · have := hT b (hg.mine b h)
      have hb : b < w0.heap.size := hb
      omega
  · rcases hnew b o v hk with h | ⟨_, _, h⟩
    · exact h12 b o v h hq.1
    · exact hq.2 h
  · unfold joinK
    cases hq : κ b o with
    | none => exact hk
    | some u =>
      have e1 := h1 b o u hq
      rw [(hg.from' b o v hk).2] at e1
      exact e1.symm
def setps (ρ : Nat → D) : List Nat → List D → Nat → D
  | t :: ts, d :: ds => setps (upd ρ t d) ts ds
  | _, _ => ρ
theorem slots_set {κ : Nat → Nat → Option Value} {γ : Nat → Nat} {sv : Nat → Value} : ∀ (ts : List Nat) (ds : List D) (vs : List Value) (ρ : Nat → D) (tm : Array Value), RepL κ γ sv ds vs → (∀ i, i < nt → Rep κ γ sv (ρ i) (tm.getD i Go.undef)) → tm.size = nt →
    (∀ i, i < nt → Rep κ γ sv (setps ρ ts ds i) (((ts.zip vs).foldl (fun (t : Array Value) (x : Nat × Value) => t.setIfInBounds x.1 x.2) tm).getD i Go.undef)) ∧ ((ts.zip vs).foldl (fun (t : Array Value) (x : Nat × Value) => t.setIfInBounds x.1 x.2) tm).size = nt
  | [], _, _, _, _, _, h, hz => ⟨h, hz⟩
  | t :: ts, _, _, ρ, tm, .nil, h, hz => ⟨h, hz⟩
  | t :: ts, _, _, ρ, tm, .cons d v ds vs h1 h2, h, hz => by
    simp only [setps, List.zip_cons_cons, List.foldl_cons]
    refine slots_set ts ds vs (upd ρ t d) (tm.setIfInBounds t v) h2 (fun i hi => ?_) (by simpa using hz)
    rw [getD_set]
    by_cases e : t = i
    · subst e; rw [if_pos ⟨rfl, by omega⟩, upd_same]; exact h1
    · rw [if_neg (fun h => e h.1), upd_ne _ _ _ _ (fun h => e h.symm)]; exact h i hi
def rnd (S : St) (kp : List Nat) (gs : List (Nat × Nat)) (os : List (Nat × Own)) (h : Nat → Nat) : St := ⟨S.ρ, lookF h (gs ++ keepG S kp), look .none (os ++ keepO S kp)⟩
def roundX (Z : Seat) (nt : Nat) (w0 : World) (κ0 : Nat → Nat → Option Value) (ext : Option Nat) (κp : Nat → Nat → Option Value) (γp : Nat → Nat) (svp : Nat → Value) (T : Nat → Prop) (l : Nat) (Φ : (Nat → Prop) → World → Prop) (cl : ∀ M w w', Φ M w → Step M w w' → Φ (fun k => M k ∨ w.heap.size ≤ k) w') : Ctx :=
  ⟨Z, nt, w0, κ0, ext, fun _ => False, κp, γp, svp, T, false, some l, Φ, cl⟩
end
end Go.Ab
namespace Go.Ab
open Go Go.RowKit
def itF (w : World) (J : (Nat → Prop) → World → Prop) (U P : Nat → Prop) (w1 : World) (M : Nat → Prop) (W : World) : Prop := ∃ T, J T W ∧ (∀ b, b < W.heap.size → M b → T b) ∧ (∀ b, w.heap.size ≤ b → b < W.heap.size → ¬ U b → T b) ∧ ∀ b, P b → T b ∧ ¬ M b ∧ ¬ U b ∧ b < W.heap.size ∧ W.heap[b]? = w1.heap[b]?
theorem itF_cl {w : World} {J : (Nat → Prop) → World → Prop} {U P : Nat → Prop} {w1 : World} (hJ : ∀ T W W', J T W → Step T W W' → J (growT T W W') W') : ∀ M W W', itF w J U P w1 M W → Step M W W' → itF w J U P w1 (fun k => M k ∨ W.heap.size ≤ k) W' := by
  rintro M W W' ⟨T, h1, h2, h3, h4⟩ hs
  refine ⟨growT T W W', hJ T W W' h1 ⟨hs.os, hs.tape, hs.output, hs.size, fun k hk hT => hs.block k hk (fun hm => hT (h2 k hk hm))⟩, fun b hb hM => ?_, fun b h4 h5 h6 => ?_, fun b hb => ?_⟩
  · by_cases e : b < W.heap.size
    · rcases hM with hM | hM
      · exact .inl (h2 b e hM)
      · omega
    · exact .inr ⟨by omega, hb⟩
  · by_cases e : b < W.heap.size
    · exact .inl (h3 b h4 e h6)
    · exact .inr ⟨by omega, h5⟩
  · obtain ⟨q1, q2, q3, q4, q5⟩ := h4 b hb
    exact ⟨.inl q1, fun h => h.elim q2 (fun h => by omega), q3, Nat.lt_of_lt_of_le q4 hs.size, (hs.block b q4 q2).trans q5⟩
structure Env where
  Z : Seat
  nt : Nat
  w : World
  κ : Nat → Nat → Option Value
  l : Nat
  n : Nat
  its : Nat → List D
  J : (Nat → Prop) → Nat → World → Prop
  Jx : (Nat → Prop) → Nat → World → Prop
  w1 : World
  κ1 : Nat → Nat → Option Value
  ex : Nat → Prop
  γp : Nat → Nat
  svp : Nat → Value
  P : Nat → Prop
  hw : w.heap.size ≤ w1.heap.size
  hex : ∀ b, ex b → w.heap.size ≤ b
  hκ : ∀ b o v, κ b o = some v → κ1 b o = some v
  hκ1 : ∀ b o v, b < w.heap.size → κ1 b o = some v → κ b o = some v
  hJ : ∀ T k W W', J T k W → Step T W W' → J (growT T W W') k W'
  hJx : ∀ T k W W', Jx T k W → Step T W W' → Jx (growT T W W') k W'
  hY : ∀ T k W vs G κi, J T k W → k < n → (∀ b o v, κ b o = some v → W.cell? ⟨b, o, none⟩ = some v) → Given T G κ κi W (its k) vs → YieldAt Fence.wide 0 Z.P l vs.toArray W fun e W' =>
      ((e = .returned (.bool true) ∧ J (giveT T G) (k + 1) W') ∨ (e = .returned (.bool false) ∧ Jx (giveT T G) (k + 1) W')) ∧ Kept (giveT T G) κ W W'
def Env.K (E : Env) (k : Nat) (s : Bool) (T : Nat → Prop) (W : World) : Prop := match s with | true => E.Jx T k W | false => E.J T k W
theorem Env.hK (E : Env) (k : Nat) (s : Bool) : ∀ T W W', E.K k s T W → Step T W W' → E.K k s (growT T W W') W' := by
  cases s
  · exact fun T W W' => E.hJ T k W W'
  · exact fun T W W' => E.hJx T k W W'
def Env.X (E : Env) (k : Nat) (s : Bool) (U : Nat → Prop) : Ctx := ⟨E.Z, E.nt, E.w1, E.κ1, none, E.ex, E.κ1, E.γp, E.svp, U, true, none, itF E.w (E.K k s) U E.P E.w1, itF_cl (E.hK k s)⟩
def liftI (E : Env) (Q : Nat → Bool → Exit → St → Prop) : Exit → Act → World → Prop := fun e a W => ∃ k s U κ sv S, Sim (E.X k s U) κ sv S a W ∧ Q k s e S
def WI (E : Env) (c : Code) (Q : Nat → Bool → Exit → St → Prop) (k : Nat) (s : Bool) (S : St) : Prop := ∀ U κ sv a W, Sim (E.X k s U) κ sv S a W → c.wpIn Fence.wide 0 E.Z.P (liftI E Q) a W
def WIL (E : Env) (ops : Array Oper) (l : List Oper) (Q : Nat → Bool → Exit → St → Prop) (k : Nat) (s : Bool) (S : St) : Prop := ∀ U κ sv a W, Sim (E.X k s U) κ sv S a W → wpListIn Fence.wide 0 E.Z.P ops (liftI E Q) l a W
section
variable {E : Env} {Q : Nat → Bool → Exit → St → Prop} {k : Nat} {s : Bool} {S S1 : St}
theorem WI_of {c : Code} (h : ∀ U, W (E.X k s U) c (Q k s) S) : WI E c Q k s S := fun U κ sv a W hs => by
  refine wpIn_mono (h U κ sv a W hs) ?_
  rintro e a' W' ⟨κ', sv', S', h1, h2⟩
  exact ⟨k, s, U, κ', sv', S', h1, h2⟩
def thenI (E : Env) (y : Code) (Q : Nat → Bool → Exit → St → Prop) : Nat → Bool → Exit → St → Prop
  | k, s, .normal, S => WI E y Q k s S
  | k, s, e, S => Q k s e S
def blockI (id : Nat) (Q : Nat → Bool → Exit → St → Prop) : Nat → Bool → Exit → St → Prop
  | k, s, .exit i, S => bif Nat.beq i id then Q k s .normal S else Q k s (.exit i) S
  | k, s, e, S => Q k s e S
theorem WI_seq {x y : Code} (h : WI E x (thenI E y Q) k s S) : WI E (.seq x y) Q k s S := fun U κ sv a W hs => by
  refine wpIn_seq (wpIn_mono (h U κ sv a W hs) ?_)
  rintro e a' W' ⟨k', s', U', κ', sv', S', h1, h2⟩
  cases e <;> first | exact h2 U' κ' sv' a' W' h1 | exact ⟨k', s', U', κ', sv', S', h1, h2⟩
theorem WI_block {id : Nat} {c : Code} (h : WI E c (blockI id Q) k s S) : WI E (.block id c) Q k s S := fun U κ sv a W hs => by
  refine wpIn_block (wpIn_mono (h U κ sv a W hs) ?_)
  rintro e a' W' ⟨k', s', U', κ', sv', S', h1, h2⟩
  cases e with
  | exit i =>
    simp only [Exit.inBlock]
    simp only [blockI] at h2
    split
    · rename_i e; subst e; rw [Nat.beq_refl] at h2; exact ⟨k', s', U', κ', sv', S', h1, h2⟩
    · rename_i e
      have : Nat.beq i id = false := by
        cases hb : Nat.beq i id
        · rfl
        · exact absurd (Nat.eq_of_beq_eq_true hb) e
      rw [this] at h2; exact ⟨k', s', U', κ', sv', S', h1, h2⟩
  | _ => exact ⟨k', s', U', κ', sv', S', h1, h2⟩
theorem WI_loop {c : Code} {α : Type} (F : α → Nat × Bool × St) (inv : α → Prop) (μ : α → Nat) (x0 : α) (h0 : inv x0) (hs : (F x0).1 = k ∧ (F x0).2.1 = s ∧ ∀ U, Wk (E.X k s U) S (F x0).2.2)
    (round : ∀ x, inv x → WI E c (fun k' s' e S' => match e with | .normal => ∃ x', inv x' ∧ μ x' < μ x ∧ (F x').1 = k' ∧ (F x').2.1 = s' ∧ ∀ U, Wk (E.X k' s' U) S' (F x').2.2 | e => Q k' s' e S') (F x).1 (F x).2.1 (F x).2.2) : WI E (.loop c) Q k s S := by
  intro U κ sv a W hsim
  have key : ∀ m x U κ sv a W, inv x → μ x < m → Sim (E.X (F x).1 (F x).2.1 U) κ sv (F x).2.2 a W → Code.roundsIn Fence.wide 0 E.Z.P c (liftI E Q) m a W := by
    intro m
    induction m with
    | zero => intro x U κ sv a W _ h; omega
    | succ m ih =>
      intro x U κ sv a W hi hm hx
      rw [roundsIn_succ]
      refine wpIn_mono (round x hi U κ sv a W hx) ?_
      rintro e a' W' ⟨k', s', U', κ', sv', S', h1, h2⟩
      cases e with
      | normal =>
        obtain ⟨x', hi', hm', rfl, rfl, hw⟩ := h2
        obtain ⟨κ2, sv2, hx'⟩ := hw U' κ' sv' a' W' h1
        exact ih x' U' κ2 sv2 a' W' hi' (by omega) hx'
      | _ => exact ⟨k', s', U', κ', sv', S', h1, h2⟩
  obtain ⟨e1, e2, e3⟩ := hs
  obtain ⟨κ1, sv1, hx⟩ := e3 U κ sv a W hsim
  subst e1 e2
  exact wpIn_loop_rounds (μ x0 + 1) (key _ x0 U κ1 sv1 a W h0 (Nat.lt_succ_self _) hx)
theorem WI_wk {c : Code} {S' : St} (hw : ∀ U, Wk (E.X k s U) S S') (h : WI E c Q k s S') : WI E c Q k s S := fun U κ sv a W hs =>
  let ⟨κ', sv', hs'⟩ := hw U κ sv a W hs
  h U κ' sv' a W hs'
theorem opIn_mono {F : Fence} {n : Nat} {P : Program} {o : Oper} {a : Act} {w : World} {K K' : Act → World → Prop} {Q1 Q2 : Exit → Act → World → Prop} (h : ∀ a w, K a w → K' a w) (hq : ∀ e a w, e ≠ .normal → Q1 e a w → Q2 e a w)
    (hh : o.wpIn F n P a w K Q1) : o.wpIn F n P a w K' Q2 := by
  unfold Oper.wpIn at *
  refine ⟨hh.1, ?_⟩
  have hh := hh.2
  generalize (o.semAt F.round a.eval).run P w = r at *
  have lo : LetsOut Q1 → LetsOut Q2 := fun ⟨a, w, h⟩ => ⟨a, w, hq _ _ _ (by simp) h⟩
  cases r with
  | ok x w' =>
    cases x <;> simp only [Oper.uponIn] at hh ⊢ <;>
      first
        | exact h _ _ hh
        | exact ⟨hh.1, CallsIn.mono hh.2 (fun e w'' he => by cases e <;> first | exact h _ _ he | exact hq _ _ _ (by simp) he | exact lo he)⟩
        | exact ⟨hh.1, RowsIn.mono hh.2 (fun _ _ he => h _ _ he)⟩
        | exact ⟨hh.1, RoundIn.mono hh.2 (fun e w'' he => by cases e <;> first | exact h _ _ he | exact hq _ _ _ (by simp) he | exact lo he)⟩
  | halt x w' => cases x <;> simp only [Oper.uponIn] at hh ⊢ <;> first | exact hq _ _ _ (by simp) hh | exact hh
theorem wpListIn_append {F : Fence} {n : Nat} {P : Program} {ops : Array Oper} {Q1 Q2 : Exit → Act → World → Prop} {l2 : List Oper} (hn : ∀ a w, Q1 .normal a w → wpListIn F n P ops Q2 l2 a w) (hq : ∀ e a w, e ≠ .normal → Q1 e a w → Q2 e a w) :
    ∀ (l1 : List Oper) (a : Act) (w : World), wpListIn F n P ops Q1 l1 a w → wpListIn F n P ops Q2 (l1 ++ l2) a w
  | [], a, w, h => hn a w h
  | o :: l1, a, w, h => by
    simp only [List.cons_append, wpListIn] at h ⊢
    split
    · rename_i hw
      rw [if_pos hw] at h
      exact opIn_mono (fun a w h => wpListIn_append hn hq l1 a w h) hq h
    · rename_i hw
      rw [if_neg hw] at h
      exact ⟨h.1, wpListIn_append hn hq l1 _ _ h.2⟩
theorem WI_region {id : Nat} {l : List Oper} (h : WIL E l.toArray l Q k s S) : WI E (.region id l.toArray false) Q k s S := fun U κ sv a W hs => wpIn_region_lit (h U κ sv a W hs)
theorem WIL_of {ops : Array Oper} {l : List Oper} (h : ∀ U, WL (E.X k s U) ops l (Q k s) S) : WIL E ops l Q k s S := fun U κ sv a W hs => by
  have := wpListIn_append (l2 := []) (Q2 := liftI E Q) (fun a w ⟨κ', sv', S', h1, h2⟩ => ⟨k, s, U, κ', sv', S', h1, h2⟩) (fun e a w _ ⟨κ', sv', S', h1, h2⟩ => ⟨k, s, U, κ', sv', S', h1, h2⟩) l a W (h U κ sv a W hs)
  rwa [List.append_nil] at this
theorem WIL_part {ops : Array Oper} (l1 l2 : List Oper) (h1 : ∀ U, WL (E.X k s U) ops l1 (fun e S' => e = .normal ∧ WIL E ops l2 Q k s S') S) : WIL E ops (l1 ++ l2) Q k s S := fun U κ sv a W hs =>
  wpListIn_append (fun a w ⟨κ', sv', S', h, _, h2⟩ => h2 U κ' sv' a w h) (fun e a w hne ⟨_, _, _, _, h, _⟩ => absurd h hne) l1 a W (h1 U κ sv a W hs)
inductive Giv (S : St) (ps : List Nat) : D → D → Prop
  | conv (d d' : D) : (∀ (κ : Nat → Nat → Option Value) (γ : Nat → Nat) (sv : Nat → Value) (v : Value), Rep κ γ sv d v → ∀ (κ' : Nat → Nat → Option Value) (γ' : Nat → Nat) (sv' : Nat → Value), Rep κ' γ' sv' d' v) → Giv S ps d d'
  | os (s g E z n : Nat) (f : Nat → List D) : S.γ s = g → S.σ s = .arr E z n f → s ∈ ps → (∀ i, i < n → ∃ vs, scalL (f i) = some vs) → Giv S ps (.os s g) (.sl z n f)
inductive GivL (S : St) (ps : List Nat) : List D → List D → Prop
  | nil : GivL S ps [] []
  | cons (d d' : D) (l l' : List D) : Giv S ps d d' → GivL S ps l l' → GivL S ps (d :: l) (d' :: l')
def St.drop (S : St) (ps : List Nat) : St := ⟨S.ρ, S.γ, fun s => bif memN s ps then .none else S.σ s⟩
open Classical in
noncomputable def giveK (κ : Nat → Nat → Option Value) (G : Nat → Prop) (W : World) : Nat → Nat → Option Value := fun b o => if G b then W.cell? ⟨b, o, none⟩ else κ b o
section
variable {κ' : Nat → Nat → Option Value} {sv : Nat → Value} {S : St} {ps : List Nat} {W : World} {X : Ctx}
open Classical in
theorem Giv.rep (h : SimW X κ' sv S W) {κ : Nat → Nat → Option Value} {G : Nat → Prop} (hG : ∀ p ∈ ps, ∀ b, blk (S.σ p) (sv p) = some b → G b) {d d' : D} {v : Value} (hd : Giv S ps d d') (hr : Rep κ' S.γ sv d v) : Rep (giveK κ G W) γ0 sv0 d' v := by
  cases hd with
  | conv _ _ hc => exact hc _ _ _ _ hr _ _ _
  | os s g E z n f hg hσ hm hf =>
    have hown := h.own s
    rw [hσ] at hown
    obtain ⟨xs, e1, e2, e3, e4⟩ := hown
    cases hr with
    | os _ _ _ _ hh _ =>
      have hv := hh hg.symm
      have hrow : ∀ i, i < n → RepL (giveK κ G W) γ0 sv0 (f i) ((xs.drop (i * z)).take z) := fun i hi => by
        obtain ⟨vs, hvs⟩ := hf i hi
        rw [scalL_eq hvs (e4 i hi)]
        exact scalL_rep hvs
      rcases e1.2 with ⟨hn, h0⟩ | ⟨b, off, cap, cur, hn, h0, h5, h6, h7, h8, h9⟩
      · rw [hv, hn, h0]; exact .sl0 _ _
      · have hb : G b := hG s hm b (by rw [hσ, hn]; rfl)
        rw [hv, hn]
        refine .sl z n f b off cap (fun i => (xs.drop (i * z)).take z) h6 e2 e3 hrow (fun i j u hi hj => ?_)
        unfold giveK
        rw [if_pos hb, cell_of_row W b (off + i * z + j) cur E (0, 0) h5]
        rw [List.getElem?_take] at hj
        split at hj
        · rename_i hjz
          rw [List.getElem?_drop] at hj
          rw [← h9, List.getElem?_take] at hj
          split at hj
          · rw [List.getElem?_drop] at hj
            rw [show off + i * z + j = off + (i * z + j) by omega]
            simpa using hj
          · cases hj
        · cases hj
open Classical in
theorem GivL.rep (h : SimW X κ' sv S W) {κ : Nat → Nat → Option Value} {G : Nat → Prop} (hG : ∀ p ∈ ps, ∀ b, blk (S.σ p) (sv p) = some b → G b) : ∀ {l l' : List D} {vs : List Value}, GivL S ps l l' → RepL κ' S.γ sv l vs → RepL (giveK κ G W) γ0 sv0 l' vs
  | _, _, _, .nil, hr => by cases hr; exact .nil
  | _, _, _, .cons d d' l l' a b, hr => by
    cases hr with
    | cons _ _ _ _ r1 r2 => exact .cons _ _ _ _ (a.rep h hG r1) (GivL.rep h hG b r2)
end
open Classical in
theorem WIL_yield {ops : Array Oper} {o : Oper} {rest : List Oper} {x : Operand} {xs : Array Operand} {ts : Array TypeId} {d : Nat} {A : List D} {ps : List Nat} (ho : o.op = .call { callee := .value x, args := xs, argTypes := ts }) (hg : o.guard = none) (hd : o.dst = some d)
    (hx : S.ev (E.X k false fun _ => False) x = .yl E.l) (hA : xs.toList.map (S.ev (E.X k false fun _ => False)) = A) (hv : GivL S ps A (E.its k)) (hk : k < E.n)
    (hT : WIL E ops rest Q (k + 1) false ((S.drop ps).set d (.bool true))) (hF : WIL E ops rest Q (k + 1) true ((S.drop ps).set d (.bool false))) : WIL E ops (o :: rest) Q k false S := fun U κ' sv a W hs => by
  obtain ⟨M, ⟨T, t1, t2, t3, t4⟩, hown⟩ := hs.wld.frame
  have hκ : ∀ b o v, E.κ b o = some v → W.cell? ⟨b, o, none⟩ = some v := fun b o v hb => hs.wld.imm b o v (hs.wld.le.cells b o v (E.hκ b o v hb))
  let G : Nat → Prop := fun b => ∃ p ∈ ps, blk (S.σ p) (sv p) = some b
  have hav := evs_rep hs xs.toList
  have hA' : xs.toList.map (S.ev (E.X k false U)) = A := hA
  rw [hA'] at hav
  have hgiv : Given T G E.κ (giveK E.κ G W) W (E.its k) (xs.toList.map a.eval) := by
    refine ⟨fun b ⟨p, hp, hb⟩ => t2 b (owns_lt (hs.wld.own p) hb) (hown p b hb), fun b o v hq => ?_, hv.rep (G := G) hs.wld (fun p hp b hb => ⟨p, hp, hb⟩) hav⟩
    unfold giveK at hq
    split at hq
    · rename_i hgb; exact ⟨.inr hgb, hq⟩
    · exact ⟨.inl hq, hκ b o v hq⟩
  obtain ⟨fn, tmps, assign, body, y1, y2⟩ := E.hY T k W _ G _ t1 hk hκ hgiv
  have hxv : a.eval x = .func (.yield E.l) #[] #[] := by
    have := hs.ev x
    have h2 : S.ev (E.X k false U) x = .yl E.l := hx
    rw [h2] at this
    generalize a.eval x = v at this
    cases this; rfl
  have hrun : (execOp a.eval o).run E.Z.P W = .ok (.round E.l fn tmps assign body) W := by
    have h4 : execOp a.eval o = Instr.yield E.l (xs.map a.eval) := by
      unfold execOp; rw [ho]; simp [resolve, Deferred.ofValue, hxv, invoke]
    have h5 : xs.map a.eval = (xs.toList.map a.eval).toArray := by simp [← Array.toList_map]
    rw [h4, h5]; exact y1
  refine wpListIn_plain hg fun K hK => ⟨fun _ _ => trivial, ?_⟩
  rw [show Fence.wide.round = none from rfl, Oper.semAt_none, hrun]
  refine ⟨fun h => (by simp [Fence.wide] at h), y2.mono ?_⟩
  rintro e W' ⟨hor, hkept⟩
  let U' : Nat → Prop := fun b => U b ∨ (W.heap.size ≤ b ∧ b < W'.heap.size) ∨ G b
  have hlt : ∀ b o v, κ' b o = some v → b < W.heap.size := fun b o v hb => by have := World.block_lt_of_cell? W _ (hs.wld.imm b o v hb); simpa using this
  have hnG : ∀ b o v, κ' b o = some v → ¬ G b := fun b o v hb ⟨p, hp, hpb⟩ => by rw [hs.wld.sep p b o hpb] at hb; cases hb
  have same : ∀ b o v, κ' b o = some v → W'.cell? ⟨b, o, none⟩ = some v := by
    intro b o v hb
    by_cases e : b < E.w.heap.size
    · exact hkept.cell b o v (E.hκ1 b o v e (hs.wld.old b o v (Nat.lt_of_lt_of_le e E.hw) hb))
    · have hT : T b := t3 b (by omega) (hlt b o v hb) (hs.wld.aw1 b o v hb)
      rw [World.cell?_of_block (hkept.mine b ⟨hT, hnG b o v hb⟩)]; exact hs.wld.imm b o v hb
  have hdr : ∀ t b, blk ((S.drop ps).σ t) (sv t) = some b → t ∉ ps ∧ blk (S.σ t) (sv t) = some b := fun t b hb => by
    have hb : blk (bif memN t ps then .none else S.σ t) (sv t) = some b := hb
    cases hm : memN t ps with
    | true => rw [hm] at hb; cases hb
    | false => rw [hm] at hb; exact ⟨fun h => (by rw [memN_iff.2 h] at hm; cases hm), hb⟩
  have hnot : ∀ t b, blk ((S.drop ps).σ t) (sv t) = some b → ¬ G b := fun t b hb ⟨p, hp, hpb⟩ => by
    obtain ⟨h1, h2⟩ := hdr t b hb
    exact h1 (hs.wld.inj t p b h2 hpb ▸ hp)
  have goon : ∀ (s' : Bool), E.K (k + 1) s' (giveT T G) W' → SimW (E.X (k + 1) s' U') κ' sv (S.drop ps) W' := fun s' hK' => by
    obtain ⟨h1, h2, h3, h4, h5, _, h7, h8, h9, h10, h11, h12, h13, h14⟩ := hs.wld
    refine ⟨same, fun t => ?_, fun t u b ht hu => h3 t u b (hdr t b ht).2 (hdr u b hu).2, fun t b o ht => h4 t b o (hdr t b ht).2, fun t b ht => h5 t b (hdr t b ht).2,
      ⟨fun b => (M b ∧ b < W.heap.size) ∧ ¬ G b, ⟨giveT T G, hK', fun b _ hM => ⟨t2 b hM.1.2 hM.1.1, hM.2⟩, fun b e1 e2 e3 => ?_, fun b hP => ?_⟩, fun t b hb => ⟨⟨hown t b (hdr t b hb).2, owns_lt (h2 t) (hdr t b hb).2⟩, hnot t b hb⟩⟩, h7, h8, h9, Nat.le_trans h10 hkept.size, h11, fun b o v hb hU => ?_, fun t b hb hU => ?_, fun b hU => ?_⟩
    · show Owns _ _ _ _ _ t (bif memN t ps then .none else S.σ t)
      cases hm : memN t ps with
      | true => trivial
      | false =>
        refine owns_mono (Le.refl _ _ _) rfl (fun b hb => hkept.mine b ⟨t2 b (owns_lt (h2 t) hb) (hown t b hb), fun ⟨p, hp, hpb⟩ => ?_⟩) (h2 t)
        rw [h3 t p b hb hpb] at hm
        rw [memN_iff.2 hp] at hm; cases hm
    · by_cases e : b < W.heap.size
      · exact ⟨t3 b e1 e (fun h => e3 (.inl h)), fun hgb => e3 (.inr (.inr hgb))⟩
      · exact absurd (.inr (.inl ⟨by omega, e2⟩)) e3
    · obtain ⟨q1, q2, q3, q4, q5⟩ := t4 b hP
      have hg : ¬ G b := fun ⟨p, hp, hpb⟩ => q2 (hown p b hpb)
      exact ⟨⟨q1, hg⟩, fun h => q2 h.1.1, fun h => by
        rcases h with h | ⟨h, _⟩ | h
        · exact q3 h
        · omega
        · exact hg h, Nat.lt_of_lt_of_le q4 hkept.size, (hkept.mine b ⟨q1, hg⟩).trans q5⟩
    · rcases hU with hU | ⟨hU, _⟩ | hU
      · exact h12 b o v hb hU
      · have := hlt b o v hb; omega
      · exact hnG b o v hb hU
    · rcases hU with hU | ⟨hU, _⟩ | hU
      · exact h13 t b (hdr t b hb).2 hU
      · have := owns_lt (h2 t) (hdr t b hb).2; omega
      · exact hnot t b hb hU
    · rcases hU with hU | ⟨_, hU⟩ | ⟨p, hp, hpb⟩
      · exact Nat.lt_of_lt_of_le (h14 b hU) hkept.size
      · exact hU
      · exact Nat.lt_of_lt_of_le (owns_lt (h2 p) hpb) hkept.size
  have dfr : ∀ s', Dfr (E.X (k + 1) s' U').nd (E.X (k + 1) s' U').w0.heap.size a W' := fun s' => by
    obtain ⟨Ds, e1, e2, e3, e4⟩ := hs.defers
    have : Ds = [] := e4 rfl
    subst this
    exact .nil (by simpa using e1)
  rcases hor with ⟨rfl, hJ⟩ | ⟨rfl, hJ⟩
  · show K (a.put o.dst (.bool true)) W'
    rw [hd]
    have h1 : Sim (E.X (k + 1) false U') κ' sv (S.drop ps) a W' := ⟨hs.size, dfr false, hs.slot, goon false hJ⟩
    exact hK _ _ (hT U' κ' sv _ W' (h1.put (some d) (.bool true)))
  · show K (a.put o.dst (.bool false)) W'
    rw [hd]
    have h1 : Sim (E.X (k + 1) true U') κ' sv (S.drop ps) a W' := ⟨hs.size, dfr true, hs.slot, goon true hJ⟩
    exact hK _ _ (hF U' κ' sv _ W' (h1.put (some d) (.bool false)))
end
theorem itC_intro {Z : Seat} {f : FuncId} {fn : Func} {c : Code} {cap : List D} {n : Nat} {its : Nat → List D} (hf : Z.P.funcs[f]? = some fn) (hb : fn.body = some c) (hname : (fn.name == "runtime.NumGoroutine") = false) (hn : Nat.ble (cap.length + 1) fn.ntmps = true) (hA : PureL cap) (hI : ∀ k, k < n → PureL (its k)) (hres : fn.results = #[])
    (h : ∀ E : Env, E.Z = Z → E.nt = fn.ntmps → E.n = n → E.its = its → WI E c (fun k s e _ => (e = .normal ∨ e = .ret) ∧ (s = false → k = n) ∧ k ≤ n) 0 false (St.init (.yl E.l :: cap))) : ItC Z f cap n its := by
  refine ⟨⟨fn, c, hf, hb, hname⟩, hI, hA, fun w κ lb hκ hglob hrep l J Jx hJ hJx hY h0 => ?_⟩
  refine callsIn_of_wp_marks hf hb trivial ?_ rfl
  have hlen : cap.length + 1 ≤ fn.ntmps := Nat.le_of_ble_eq_true hn
  have hal := hrep.length
  let E : Env := ⟨Z, fn.ntmps, w, κ, l, n, its, J, Jx, w, κ, fun _ => False, fun _ => 0, fun _ => Go.undef, fun _ => False, Nat.le_refl _, fun _ h => h.elim, fun _ _ _ h => h, fun _ _ _ _ h => h, hJ, hJx, hY⟩
  have hrep' : RepL κ γ0 sv0 (.yl l :: cap) (Value.func (.yield l) #[] #[] :: lb) := .cons _ _ _ _ (.yl _) hrep
  have hsim : Sim (E.X 0 false fun _ => False) κ sv0 (St.init (.yl l :: cap)) { tmps := (Value.func (.yield l) #[] #[] :: lb).toArray ++ Array.replicate (fn.ntmps - (Value.func (.yield l) #[] #[] :: lb).toArray.size) Go.undef, defers := [] } w := by
    refine ⟨by simp [Env.X, E]; omega, Dfr.nil rfl, fun i _ => slot_init hrep' _ i, ?_⟩
    exact ⟨hκ, fun _ => trivial, (fun s t b hs => by cases hs), (fun s b o hs => by cases hs), (fun s b hs => by cases hs), ⟨fun _ => False, ⟨fun _ => False, h0, fun _ _ h => h, fun b h1 h2 _ => (by have h1 : w.heap.size ≤ b := h1; omega), fun b h => h.elim⟩, fun s b hs => by cases hs⟩, hglob, fun b o v _ hk => hk, (fun b hb => by cases hb), Nat.le_refl _,
      ⟨fun _ _ _ h => h, fun _ => Nat.zero_le _, fun _ _ => rfl⟩, fun _ _ _ _ h => h, fun _ _ _ h => h, fun _ h => h.elim⟩
  refine wpIn_mono (h E rfl rfl rfl rfl _ κ sv0 _ w hsim) ?_
  rintro e a' W' ⟨k, s, U, κ', sv', S', hs, he, hk, hk2⟩
  obtain ⟨Ds, e1, _, _, e4⟩ := hs.defers
  have : Ds = [] := e4 rfl
  subst this
  have hd : a'.defers = [] := by simpa using e1
  obtain ⟨M, ⟨T, t1, _⟩, _⟩ := hs.wld.frame
  have fin : LeavesInM Fence.wide 0 Z.P fn a'.tmps (fun e W' => (∃ v, e = .returned v) ∧ ((∃ T, J T n W') ∨ (∃ T k, k ≤ n ∧ Jx T k W'))) a'.defers .returning W' := by
    rw [hd]
    refine ⟨.tuple #[], by simp [results, hres], ⟨_, rfl⟩, ?_⟩
    cases s with
    | false => rw [← hk rfl]; exact .inl ⟨T, t1⟩
    | true => exact .inr ⟨T, k, hk2, t1⟩
  rcases he with rfl | rfl <;> exact fin
section
variable {E : Env} {Q : Nat → Bool → Exit → St → Prop} {k : Nat} {s : Bool} {S : St}
theorem WI_ofR {id : Nat} {ops : Array Oper} {b : Bool} (h : ∀ U, W (E.X k s U) (.region id ops b) (Q k s) S) : WI E (.region id ops b) Q k s S := WI_of h
theorem WI_skip (h : Q k s .normal S) : WI E .skip Q k s S := fun U κ sv _ _ hs => wpIn_skip ⟨k, s, U, κ, sv, S, hs, h⟩
theorem WI_exit {id : Nat} (h : Q k s (.exit id) S) : WI E (.exit id) Q k s S := fun U κ sv _ _ hs => wpIn_exit ⟨k, s, U, κ, sv, S, hs, h⟩
theorem WI_ret (h : Q k s .ret S) : WI E .ret Q k s S := fun U κ sv _ _ hs => wpIn_ret ⟨k, s, U, κ, sv, S, hs, h⟩
end
section
variable {X : Ctx} {S : St}
theorem wk_freeze_cap (i j : Nat) {s g o : Nat} {f : FuncId} {c c' l : List D} (hX : X.ext = none ∧ ∀ b, ¬ X.ex b) (h : S.ρ i = .fn f c) (hj : nth c j = some (.bx s g o)) (hg : S.γ s = g) (hσ : S.σ s = .box l) (hc' : overN c j [.rp l o] = some c') :
    Wk X S ⟨upd S.ρ i (.fn f c'), S.γ, upd S.σ s .none⟩ := fun κ sv a w hs => by
  have hle := freeze_le hs.wld s
  obtain ⟨rfl, hlen⟩ := overN_eq hc'
  have hnew : ∀ b, blk (S.σ s) (sv s) = some b → X.w0.heap.size ≤ b := fun b hb => (hs.wld.frsh s b hb).resolve_right (fun h => h.elim (fun h => by rw [hX.1] at h; cases h) (hX.2 b))
  refine ⟨_, sv, ⟨hs.size, hs.defers, fun k hk => ?_, hs.wld.freeze s hnew _⟩⟩
  by_cases e : k = i
  · subst e
    simp only [upd_same]
    have h1 := hs.slot k hk
    rw [h] at h1
    generalize a.tmps.getD k Go.undef = v at h1
    cases h1 with
    | fn _ _ vs hl =>
      rw [nth_eq] at hj
      obtain ⟨vj, hvj, hrj⟩ := hl.get hj
      have hjl : j < vs.length := (List.getElem?_eq_some_iff.1 hvj).1
      have hvs : vs = vs.take j ++ [vj] ++ vs.drop (j + 1) := by
        have h3 : vs[j] = vj := by simpa [List.getElem?_eq_getElem hjl] using hvj
        rw [← h3, List.append_assoc, List.singleton_append, List.getElem_cons_drop, List.take_append_drop]
      rw [hvs]
      refine .fn _ _ _ ((((hl.take j).mono hle).append (.cons _ _ _ _ ?_ .nil)).append ((hl.drop _).mono hle))
      have hown := hs.wld.own s
      rw [hσ] at hown
      obtain ⟨b, T, cs, e1, e2, e3, e4⟩ := hown
      cases hrj with
      | bx _ _ _ _ _ hh _ =>
        obtain ⟨b', h5, h6⟩ := hh hg.symm
        rw [e1] at h5
        simp only [Value.pointer.injEq, Option.some.injEq, Addr.mk.injEq, and_true] at h5
        subst h5
        rw [h6]
        have := Rep.rp (κ := fun b o => if blk (S.σ s) (sv s) = some b then w.cell? ⟨b, o, none⟩ else κ b o) (γ := S.γ) (sv := sv) l o b 0 cs e4 (e3.mono hle) (fun j v hj => by
          have hb : blk (S.σ s) (sv s) = some b := by rw [hσ, e1]; rfl
          simp only [hb, if_true]
          rw [cell_of_row w b _ _ _ _ e2, Nat.zero_add]; simpa using hj)
        simpa using this
  · simp only [upd_ne _ _ _ _ e]; exact (hs.slot k hk).mono hle
end
end Go.Ab
namespace Go.Ab
open Go Go.RowKit
section
variable {X : Ctx} {Q : Exit → St → Prop} {S T S0 : St} {ops : Array Oper} {o : Oper} {rest : List Oper} {E : List Ent} {V : List Vl}
theorem run_callv {P : Program} {f : FuncId} (h : HasBody P f) {a : Act} {w : World} {x : Operand} {xs : Array Operand} {ts : Array TypeId} {lb : List Value} (ho : o.op = .call { callee := .value x, args := xs, argTypes := ts }) (hx : a.eval x = .func (.func f) #[] lb.toArray) :
    (execOp a.eval o).run P w = .ok (.enter f (xs.toList.map a.eval ++ lb).toArray) w := by
  obtain ⟨fn, c, h1, h2, h3⟩ := h
  have h4 : execOp a.eval o = callFunc f (#[] ++ xs.map a.eval ++ lb.toArray) := by
    unfold execOp; rw [ho]; simp [resolve, Deferred.ofValue, hx, invoke]
  rw [h4]
  have h5 : (#[] ++ xs.map a.eval ++ lb.toArray) = (xs.toList.map a.eval ++ lb).toArray := by simp [← Array.toList_map]
  rw [h5]
  have h6 : ¬ fn.name = "runtime.NumGoroutine" := by simpa using h3
  simp [callFunc, h1, h2, h6]
theorem ev_fn {κ : Nat → Nat → Option Value} {sv : Nat → Value} {a : Act} {w : World} (hs : Sim X κ sv S a w) {x : Operand} {f : FuncId} {c : List D} (h : S.ev X x = .fn f c) : ∃ lb : List Value, a.eval x = .func (.func f) #[] lb.toArray ∧ RepL κ S.γ sv c lb := by
  have h1 := hs.ev x
  rw [h] at h1
  generalize a.eval x = v at h1
  cases h1 with
  | fn _ _ vs hl => exact ⟨vs, rfl, hl⟩
theorem call_scalL {κ : Nat → Nat → Option Value} {sv : Nat → Value} {a : Act} {w : World} (hs : Sim X κ sv S a w) {f : FuncId} {L A : List D} {vs : List Value} {R : D} {v0 : Value} (hc : Contract X.Z f A R) (hr : RepL κ S.γ sv L vs) (hA : FzL S L A) (hR : scal R = some v0) :
    Calls X.Z.P f vs.toArray w fun e w'' => e = .returned v0 ∧ Below w.heap.size w w'' := by
  let κ' : Nat → Nat → Option Value := fun b o => w.cell? ⟨b, o, none⟩
  have hle : Le κ κ' S.γ S.γ sv sv := ⟨fun b o v hk => hs.wld.imm b o v hk, fun _ => Nat.le_refl _, fun _ _ => rfl⟩
  have hr2 := hA.rep hs.wld hle (fun b o v h => h) hr
  refine (hc.calls w κ' _ (fun b o v h => h) (fun g l hg => ?_) (hr2.pure (fun _ _ _ h => h) hc.pureA)).mono ?_
  · obtain ⟨h1, u, h2, h3⟩ := Sim.globOk hs.wld g l hg
    exact ⟨h1, u, h2.mono ⟨fun b o v hk => hs.wld.imm b o v hk, fun _ => Nat.le_refl _, fun _ _ => rfl⟩, fun j v hj => hs.wld.imm _ _ _ (h3 j v hj)⟩
  · rintro e w'' ⟨v, rfl, hv, hb2⟩
    rw [scal_eq hR hv]
    exact ⟨rfl, hb2⟩
end
section
variable {X : Ctx} {Q : Exit → St → Prop} {S T S0 : St} {ops : Array Oper} {o : Oper} {rest : List Oper} {E : List Ent} {V : List Vl} {x y : Operand}
theorem q_mf {cs : Array Operand} {f : FuncId} (ho : o.op = .makeFunc (.func f) cs #[]) : QOp X o S (.mf f (cs.toList.map (S.ev X))) := fun κ sv a w hs => by
  refine ⟨.func (.func f) (cs.map a.eval) #[], ?_, fun w' _ => by simp [execOp, ho, Instr.makeFunc]⟩
  have := Rep.mf (κ := κ) (γ := S.γ) (sv := sv) f _ _ (evs_rep hs cs.toList)
  have e : (cs.toList.map a.eval).toArray = cs.map a.eval := by simp [← Array.toList_map]
  rwa [e] at this
theorem run_callm {P : Program} {f : FuncId} (h : HasBody P f) {a : Act} {w : World} {xs : Array Operand} {ts : Array TypeId} {lb : List Value} (ho : o.op = .call { callee := .value x, args := xs, argTypes := ts }) (hx : a.eval x = .func (.func f) lb.toArray #[]) :
    (execOp a.eval o).run P w = .ok (.enter f (lb ++ xs.toList.map a.eval).toArray) w := by
  obtain ⟨fn, c, h1, h2, h3⟩ := h
  have h4 : execOp a.eval o = callFunc f (lb.toArray ++ xs.map a.eval ++ #[]) := by
    unfold execOp; rw [ho]; simp [resolve, Deferred.ofValue, hx, invoke]
  rw [h4]
  have h5 : (lb.toArray ++ xs.map a.eval ++ #[]) = (lb ++ xs.toList.map a.eval).toArray := by simp [← Array.toList_map]
  rw [h5]
  have h6 : ¬ fn.name = "runtime.NumGoroutine" := by simpa using h3
  simp [callFunc, h1, h2, h6]
theorem ev_mf {κ : Nat → Nat → Option Value} {sv : Nat → Value} {a : Act} {w : World} (hs : Sim X κ sv S a w) {f : FuncId} {c : List D} (h : S.ev X x = .mf f c) : ∃ lb : List Value, a.eval x = .func (.func f) lb.toArray #[] ∧ RepL κ S.γ sv c lb := by
  have h1 := hs.ev x
  rw [h] at h1
  generalize a.eval x = v at h1
  cases h1 with
  | mf _ _ vs hl => exact ⟨vs, rfl, hl⟩
theorem array_row {P : Program} {T : TypeId} {r : TRow} (hok : rowOk P T r = true) (hk : Nat.beq r.k 2 = true) : P.underlying T = some (.array r.ln r.el) := by
  obtain ⟨i, d, _, hd, _, _, _, h4⟩ := row_info hok
  have hk2 := Nat.eq_of_beq_eq_true hk
  cases d <;> try (simp only at h4; omega)
  obtain ⟨_, h5, h6⟩ := h4
  rw [hd, h5, h6]
theorem q_iab {T : TypeId} {r q : TRow} {s g j : Nat} {k : Int} (ho : o.op = .indexAddr T x y) (hx : S.ev X x = .bx s g j) (hg : S.γ s = g) (hy : S.ev X y = .int .i64 k) (h0 : 0 ≤ k)
    (hr : nth X.Z.tab T = some r) (hk : Nat.beq r.k 2 = true) (h1 : k < r.ln) (hq : nth X.Z.tab r.el = some q) (hq9 : Nat.beq q.k 9 = false) : QOp X o S (.bx s g (j + k.toNat * q.sz)) := fun κ sv a w hs => by
  have hok := X.Z.tabOk _ _ hr (by intro e; rw [e] at hk; cases hk)
  have hokq := X.Z.tabOk _ _ hq (by intro e; rw [e] at hq9; cases hq9)
  have hyv := rep_int (hy ▸ hs.ev y)
  obtain ⟨b, e1, e2⟩ := live_bx hs hx hg
  exact ⟨.pointer (some ⟨b, j + k.toNat * q.sz, none⟩), .bx _ _ _ _ (by omega) (fun _ => ⟨b, e1, rfl⟩) rfl, fun w' _ => by
    simp [execOp, ho, e2, hyv, Instr.indexAt, asIntOf, run_underlying (array_row hok hk), Instr.sureAddr, h0, h1, run_size_row hokq, addr_add]⟩
theorem q_idx {T : TypeId} {r q : TRow} {l m : List D} {k : Int} (ho : o.op = .index T x y) (hx : S.ev X x = .agg l) (hy : S.ev X y = .int .i64 k) (h0 : 0 ≤ k)
    (hr : nth X.Z.tab T = some r) (hk : Nat.beq r.k 2 = true) (h1 : k < r.ln) (hq : nth X.Z.tab r.el = some q) (hqk : (Nat.beq q.k 1 || Nat.beq q.k 2) = true) (hm : takeN q.sz (dropN (k.toNat * q.sz) l) = some m) : QOp X o S (.agg m) := fun κ sv a w hs => by
  have hok := X.Z.tabOk _ _ hr (by intro e; rw [e] at hk; cases hk)
  have hokq := X.Z.tabOk _ _ hq (by intro e; rw [e] at hqk; simp at hqk)
  have hyv := rep_int (hy ▸ hs.ev y)
  obtain ⟨vs, e1, hl⟩ := ev_agg hs hx
  obtain ⟨rfl, hlen⟩ := takeN_eq hm
  rw [dropN_eq] at hlen ⊢
  obtain ⟨iq, dq, hiq, hdq, hsq, _⟩ := row_info hokq
  refine ⟨.agg ((vs.drop (k.toNat * q.sz)).take q.sz).toArray, .agg _ _ ((hl.drop _).take _), fun w' _ => ?_⟩
  have hagg : (isAgg r.el).run X.Z.P w' = .ok true w' := by rw [run_isAgg hdq, aggOf_k hokq, hqk]
  have hext : vs.toArray.extract (k.toNat * q.sz) (k.toNat * q.sz + q.sz) = ((vs.drop (k.toNat * q.sz)).take q.sz).toArray := by
    simp [List.extract_eq_drop_take]
  simp [execOp, ho, e1, hyv, Instr.index, asIntOf, run_underlying (array_row hok hk), h0, h1, run_size_row hokq, part, hagg, hext]
end
end Go.Ab
namespace Go.Ab
open Go Go.RowKit
mutual
def renO (p g : Nat) : D → D
  | .os _ _ => .os p g
  | .agg l => .agg (renL p g l)
  | d => d
def renL (p g : Nat) : List D → List D
  | [] => []
  | d :: l => renO p g d :: renL p g l
end
mutual
inductive PO : D → Prop
  | pure (d : D) : Pure d → PO d
  | os (s g : Nat) : PO (.os s g)
  | agg (l : List D) : POL l → PO (.agg l)
inductive POL : List D → Prop
  | nil : POL []
  | cons (d : D) (l : List D) : PO d → POL l → POL (d :: l)
end
section
variable {κ κ' : Nat → Nat → Option Value} {γ γ' : Nat → Nat} {sv sv' : Nat → Value}
mutual
theorem rep_ren (hκ : ∀ b o v, κ b o = some v → κ' b o = some v) {p g p' g' : Nat} (hg : γ p = g) (hg' : γ' p' = g') (hv : sv' p' = sv p) : ∀ {d : D} {v : Value}, PO d → Rep κ γ sv (renO p g d) v → Rep κ' γ' sv' (renO p' g' d) v
  | .os s0 g0, v, _, hr => by
    simp only [renO] at hr ⊢
    cases hr with
    | os _ _ _ h1 h2 h3 => exact .os _ _ _ (Nat.le_of_eq hg'.symm) (fun _ => by rw [hv]; exact h2 hg.symm) h3
  | .agg l, v, hp, hr => by
    simp only [renO] at hr ⊢
    cases hr with
    | agg _ vs hl => exact .agg _ _ (repL_ren hκ hg hg' hv (by
        cases hp with
        | pure _ hp => exact pol_of (by cases hp; assumption)
        | agg _ hp => exact hp) hl)
  | .int k n, v, hp, hr => by cases hr; exact .int _ _
  | .bool b, v, hp, hr => by cases hr; exact .bool _
  | .str s, v, hp, hr => by cases hr; exact .str _
  | .tup l, v, hp, hr => by cases hp with | pure _ hp => exact Rep.pure hκ hr hp
  | .sl z n f, v, hp, hr => by cases hp with | pure _ hp => exact Rep.pure hκ hr hp
  | .nil, v, hp, hr => by cases hr; exact .nil
  | .rp l o, v, hp, hr => by cases hp with | pure _ hp => exact Rep.pure hκ hr hp
  | .bx s g o, v, hp, hr => by cases hp with | pure _ hp => cases hp
  | .op s g z i o, v, hp, hr => by cases hp with | pure _ hp => cases hp
  | .ow s g z a m, v, hp, hr => by cases hp with | pure _ hp => cases hp
  | .fn f c, v, hp, hr => by cases hp with | pure _ hp => exact Rep.pure hκ hr hp
  | .yl l, v, hp, hr => by cases hr; exact .yl _
  | .mf f c, v, hp, hr => by cases hp with | pure _ hp => exact Rep.pure hκ hr hp
  | .one, v, _, hr => by cases hr; exact .one _ (by assumption)
  | .undef, v, _, _ => .undef v
theorem repL_ren (hκ : ∀ b o v, κ b o = some v → κ' b o = some v) {p g p' g' : Nat} (hg : γ p = g) (hg' : γ' p' = g') (hv : sv' p' = sv p) : ∀ {l : List D} {vs : List Value}, POL l → RepL κ γ sv (renL p g l) vs → RepL κ' γ' sv' (renL p' g' l) vs
  | [], vs, _, hr => by simp only [renL] at hr ⊢; cases hr; exact .nil
  | d :: l, vs, hp, hr => by
    simp only [renL] at hr ⊢
    cases hr with
    | cons _ v _ vs h1 h2 =>
      cases hp with
      | cons _ _ p1 p2 => exact .cons _ _ _ _ (rep_ren hκ hg hg' hv p1 h1) (repL_ren hκ hg hg' hv p2 h2)
theorem pol_of : ∀ {l : List D}, (∀ d ∈ l, Pure d) → POL l
  | [], _ => .nil
  | d :: l, h => .cons d l (.pure d (h d (List.mem_cons_self ..))) (pol_of fun x hx => h x (List.mem_cons_of_mem _ hx))
end
end
structure ContractO (Z : Seat) (f : FuncId) (A : List D) (R : D) (E z n : Nat) (el : Nat → List D) : Prop where
  pureA : PureL A
  poR : PO R
  pureE : ∀ i, i < n → PureL (el i)
  body : HasBody Z.P f
  calls : ∀ (w : World) (κ : Nat → Nat → Option Value) (args : List Value), Fits κ w → GlobOk Z κ → RepL κ γ0 sv0 A args →
    Calls Z.P f args.toArray w fun e w' => ∃ v sl κ', e = .returned v ∧ Rep κ' (fun _ => 1) (fun _ => sl) (renO 0 1 R) v ∧ (∀ b o u, κ b o = some u → κ' b o = some u) ∧ (∀ b o u, b < w.heap.size → κ' b o = some u → κ b o = some u) ∧
      (∀ b o u, κ' b o = some u → w'.cell? ⟨b, o, none⟩ = some u) ∧ sl.oneCell' = true ∧ Owns w.heap.size κ' (fun _ => 1) (fun _ => sl) w' 0 (.arr E z n el) ∧ (∀ b, blk (.arr E z n el) sl = some b → ∀ o, κ' b o = none) ∧ Below w.heap.size w w'
def FinO (X : Ctx) (rs : List ResultVar) (R : D) (E z n : Nat) (el : Nat → List D) : Exit → St → Prop
  | .normal, S | .ret, S => ∃ s g, S.γ s = g ∧ S.σ s = .arr E z n el ∧ ∃ ds, ResL X S rs ds ∧ tupOf ds = renO s g R
  | _, _ => False
theorem contractO_intro {Z : Seat} {f : FuncId} {fn : Func} {c : Code} {A : List D} {R : D} {E z n : Nat} {el : Nat → List D} (hf : Z.P.funcs[f]? = some fn) (hb : fn.body = some c) (hname : (fn.name == "runtime.NumGoroutine") = false) (hn : Nat.ble A.length fn.ntmps = true) (hA : PureL A) (hR : PO R) (hE : ∀ i, i < n → PureL (el i))
    (h : ∀ w κ, W (Ctx.plain Z fn.ntmps w κ none) c (FinO (Ctx.plain Z fn.ntmps w κ none) fn.results.toList R E z n el) (St.init A)) : ContractO Z f A R E z n el := by
  refine ⟨hA, hR, hE, ⟨fn, c, hf, hb, hname⟩, fun w κ args hκ hglob hrep => ?_⟩
  refine (callsIn_wide (n := 0)).1 (callsIn_of_wp_marks hf hb trivial ?_ rfl)
  have hlen : A.length ≤ fn.ntmps := Nat.le_of_ble_eq_true hn
  have hal := hrep.length
  have hsim : Sim (Ctx.plain Z fn.ntmps w κ none) κ sv0 (St.init A) { tmps := args.toArray ++ Array.replicate (fn.ntmps - args.toArray.size) Go.undef, defers := [] } w := by
    refine ⟨by simp [Ctx.plain]; omega, Dfr.nil rfl, fun i _ => slot_init hrep _ i, ?_⟩
    exact ⟨hκ, fun _ => trivial, (fun s t b hs => by cases hs), (fun s b o hs => by cases hs), (fun s b hs => by cases hs), ⟨fun _ => False, ⟨Frame.refl _ _, fun _ h => h.elim⟩, fun s b hs => by cases hs⟩, hglob, fun b o v _ hk => hk, (fun b hb => by cases hb), Nat.le_refl _, ⟨fun _ _ _ h => (by cases h), fun _ => Nat.zero_le _, fun _ _ => rfl⟩, fun _ _ _ _ h => h, fun _ _ _ h => h, fun _ h => h.elim⟩
  refine wpIn_mono (h w κ κ sv0 _ w hsim) ?_
  rintro e a' w' ⟨κ', sv', S', hs, hq⟩
  cases e <;> first | exact hq.elim | skip
  all_goals
    obtain ⟨s, g, hg, hσ, ds, hd, hren⟩ := hq
    obtain ⟨Ds, d1, d2, d3, _⟩ := hs.defers
    show LeavesInM _ _ _ _ _ _ a'.defers _ _
    rw [d1]
    refine leaves_of rfl plainF_turn hd (fun a w' v hs h2 => ?_) Ds a' w' hs d1 d2 d3
    rw [hren] at h2
    obtain ⟨M, h1, _⟩ := hs.wld.frame
    have hown := hs.wld.own s
    rw [hσ] at hown
    have hk : ∀ b o u, κ' b o = some u → (fun b o => if b < w.heap.size then κ b o else κ' b o) b o = some u := fun b o u hu => by
      simp only
      split
      · exact hs.wld.old b o u (by assumption) hu
      · exact hu
    have hsl : (sv' s).oneCell' = true := by
      obtain ⟨xs, e1, _⟩ := hown
      rcases e1.2 with ⟨hv, _⟩ | ⟨b, off, cap, cur, hv, _⟩ <;> rw [hv] <;> rfl
    refine ⟨v, sv' s, fun b o => if b < w.heap.size then κ b o else κ' b o, rfl, rep_ren (p := s) (g := g) (p' := 0) (g' := 1) (γ' := fun _ => 1) (sv' := fun _ => sv' s) hk hg rfl rfl hR h2, fun b o u hu => ?_, fun b o u hb hu => ?_, fun b o u hu => ?_, hsl, ?_, fun b hb o => ?_, h1.1.below⟩
    · have : b < w.heap.size := by have := World.block_lt_of_cell? w _ (hκ b o u hu); simpa using this
      simp only; rw [if_pos this]; exact hu
    · simp only at hu; rw [if_pos hb] at hu; exact hu
    · simp only at hu
      split at hu
      · rename_i hb
        have h3 := hκ b o u hu
        rw [h1.1.below.cell (by simpa using hb)]; exact h3
      · exact hs.wld.imm b o u hu
    · obtain ⟨xs, e1, e2, e3, e4⟩ := hown
      exact ⟨xs, e1, e2, e3, fun i hi => (e4 i hi).pure hk (hE i hi)⟩
    · have hbk : blk (S'.σ s) (sv' s) = some b := by rw [hσ]; exact hb
      have h3 := hs.wld.frsh s b hbk
      have h4 : w.heap.size ≤ b := h3.resolve_right (fun h => by rcases h with h | h <;> cases h)
      simp only; rw [if_neg (by omega)]
      exact hs.wld.sep s b o hbk
section
variable {X : Ctx} {κ κ' : Nat → Nat → Option Value} {sv : Nat → Value} {S : St} {w w' : World}
theorem SimW.adopt (h : SimW X κ sv S w) (hb : Below w.heap.size w w') (k1 : ∀ b o u, κ b o = some u → κ' b o = some u) (k2 : ∀ b o u, b < w.heap.size → κ' b o = some u → κ b o = some u) (k3 : ∀ b o u, κ' b o = some u → w'.cell? ⟨b, o, none⟩ = some u)
    (p : Nat) (ow : Own) (sl : Value) (hnew : ∀ b, blk ow sl = some b → w.heap.size ≤ b ∧ b < w'.heap.size ∧ ∀ o, κ' b o = none) (ho : Owns X.w0.heap.size κ' (upd S.γ p (S.γ p + 1)) (upd sv p sl) w' p ow) (ρ' : Nat → D) :
    SimW X κ' (upd sv p sl) ⟨ρ', upd S.γ p (S.γ p + 1), upd S.σ p ow⟩ w' := by
  have hle : Le κ κ' S.γ (upd S.γ p (S.γ p + 1)) sv (upd sv p sl) := by
    obtain ⟨a, b, c⟩ := le_renew κ S.γ sv p sl
    exact ⟨k1, b, c⟩
  have hbk : ∀ t b, blk (upd S.σ p ow t) (upd sv p sl t) = some b → (t = p ∧ blk ow sl = some b) ∨ (t ≠ p ∧ blk (S.σ t) (sv t) = some b) := by
    intro t b hb
    by_cases e : t = p
    · subst e; rw [upd_same, upd_same] at hb; exact .inl ⟨rfl, hb⟩
    · rw [upd_ne _ _ _ _ e, upd_ne _ _ _ _ e] at hb; exact .inr ⟨e, hb⟩
  obtain ⟨h1, h2, h3, h4, h5, ⟨M, h6, h6'⟩, h7, h8, h9, h10, h11, h12, h13, h14⟩ := h
  refine ⟨k3, fun t => ?_, fun t u b ht hu => ?_, fun t b o ht => ?_, fun t b ht => ?_, ⟨_, X.cl M w w' h6 ⟨hb.os, hb.tape, hb.output, hb.size, fun k hk _ => hb.block k hk⟩, fun t b ht => ?_⟩, fun g l hgl => ?_, fun b o v hlt hk => ?_, fun b hb' => ?_, Nat.le_trans h10 hb.size, h11.trans hle, fun b o v hk hT => ?_, fun t b ht hT => ?_, fun b hT => Nat.lt_of_lt_of_le (h14 b hT) hb.size⟩
  · by_cases e : t = p
    · subst e; simp only [upd_same]; exact ho
    · simp only [upd_ne _ _ _ _ e]
      exact owns_mono hle (upd_ne _ _ _ _ e) (fun b hb' => hb.block b (owns_lt (h2 t) hb')) (h2 t)
  · simp only at ht hu
    rcases hbk t b ht with ⟨rfl, a1⟩ | ⟨e1, a1⟩ <;> rcases hbk u b hu with ⟨rfl, a2⟩ | ⟨e2, a2⟩
    · rfl
    · have := owns_lt (h2 u) a2; have := (hnew b a1).1; omega
    · have := owns_lt (h2 t) a1; have := (hnew b a2).1; omega
    · exact h3 t u b a1 a2
  · simp only at ht
    rcases hbk t b ht with ⟨rfl, a1⟩ | ⟨e1, a1⟩
    · exact (hnew b a1).2.2 o
    · cases hk : κ' b o with
      | none => rfl
      | some v => have h20 := k2 b o v (owns_lt (h2 t) a1) hk; rw [h4 t b o a1] at h20; cases h20
  · simp only at ht
    rcases hbk t b ht with ⟨rfl, a1⟩ | ⟨e1, a1⟩
    · exact .inl (Nat.le_trans h10 (hnew b a1).1)
    · exact h5 t b a1
  · simp only at ht
    rcases hbk t b ht with ⟨rfl, a1⟩ | ⟨e1, a1⟩
    · exact .inr (hnew b a1).1
    · exact .inl (h6' t b a1)
  · obtain ⟨hc, u, hu, hk⟩ := h7 g l hgl
    exact ⟨hc, u, hu.mono hle, fun j v hj => k1 _ _ _ (hk j v hj)⟩
  · exact h8 b o v hlt (k2 b o v (Nat.lt_of_lt_of_le hlt h10) hk)
  · obtain ⟨e1, e2⟩ := h9 b hb'
    by_cases e : 0 = p
    · subst e; simp only [upd_same]; exact ⟨by omega, fun e => by omega⟩
    · simp only [upd_ne _ _ _ _ e]; exact ⟨e1, e2⟩
  · by_cases e : b < w.heap.size
    · exact h12 b o v (k2 b o v e hk) hT
    · have := h14 b hT; omega
  · simp only at ht
    rcases hbk t b ht with ⟨rfl, a1⟩ | ⟨e1, a1⟩
    · have := h14 b hT; have := (hnew b a1).1; omega
    · exact h13 t b a1 hT
end
section
variable {X : Ctx} {Q : Exit → St → Prop} {S : St} {ops : Array Oper} {o : Oper} {rest : List Oper}
end
section
variable {X : Ctx} {S : St}
theorem wk_arrN (s : Nat) {E z n : Nat} {f : Nat → List D} (f' : Nat → List D) (hσ : S.σ s = .arr E z n f) (h : ∀ i, i < n → NilL (f i) (f' i)) : Wk X S ⟨S.ρ, S.γ, upd S.σ s (.arr E z n f')⟩ := fun κ sv a w hs => by
  have hown := hs.wld.own s
  rw [hσ] at hown
  obtain ⟨xs, e1, e2, e3, e4⟩ := hown
  have nl : ∀ {l l' : List D}, NilL l l' → l'.length = l.length := by
    intro l
    induction l with
    | nil => intro l' h; cases l' <;> first | rfl | exact h.elim
    | cons d l ih => intro l' h; cases l' with
      | nil => exact h.elim
      | cons d' l' => simp [ih h.2]
  refine ⟨κ, sv, ⟨hs.size, hs.defers, hs.slot, ?_⟩⟩
  refine hs.wld.rewrite s (.arr E z n f') (below_grown (Below.refl _ _) _) (by
    rw [hσ]
    cases sv s with
    | pointer a => cases a <;> rfl
    | slice a => cases a <;> rfl
    | map a => cases a <;> rfl
    | _ => rfl) ⟨xs, e1, fun i hi => by rw [nl (h i hi)]; exact e2 i hi, fun i hi => nilL_cell (h i hi) (e3 i hi), fun i hi => nilL_rep (h i hi) (e4 i hi)⟩ _
theorem nilL_refl : ∀ l : List D, NilL l l
  | [] => trivial
  | _ :: l => ⟨.inl rfl, nilL_refl l⟩
end
section
variable {X : Ctx} {Q : Exit → St → Prop} {S S0 : St} {ops : Array Oper} {o : Oper} {rest : List Oper} {E : List Ent} {V : List Vl}
end
end Go.Ab
namespace Go.Ab
open Go Go.RowKit
section
variable {X : Ctx} {o : Oper} {S : St} {x y : Operand}
theorem q_iar {T : TypeId} {r q : TRow} {l : List D} {j : Nat} {k : Int} (ho : o.op = .indexAddr T x y) (hx : S.ev X x = .rp l j) (hy : S.ev X y = .int .i64 k) (h0 : 0 ≤ k)
    (hr : nth X.Z.tab T = some r) (hk : Nat.beq r.k 2 = true) (h1 : k < r.ln) (hq : nth X.Z.tab r.el = some q) (hq9 : Nat.beq q.k 9 = false) : QOp X o S (.rp l (j + k.toNat * q.sz)) := fun κ sv a w hs => by
  have hok := X.Z.tabOk _ _ hr (by intro e; rw [e] at hk; cases hk)
  have hokq := X.Z.tabOk _ _ hq (by intro e; rw [e] at hq9; cases hq9)
  have hyv := rep_int (hy ▸ hs.ev y)
  have h1' := hs.ev x
  rw [hx] at h1'
  generalize he : a.eval x = v at h1'
  cases h1' with
  | rp _ _ b bo u hc hu hκ =>
    refine ⟨.pointer (some ⟨b, bo + (j + k.toNat * q.sz), none⟩), .rp l _ b bo u hc hu hκ, fun w' _ => ?_⟩
    simp [execOp, ho, he, hyv, Instr.indexAt, asIntOf, run_underlying (array_row hok hk), Instr.sureAddr, h0, h1, run_size_row hokq, addr_add, Nat.add_assoc]
end
end Go.Ab
namespace Go.Ab
open Go Go.RowKit
section
variable {X : Ctx} {Q : Exit → St → Prop} {S T0 : St} {ops : Array Oper} {o : Oper} {rest : List Oper} {S0 : St} {E : List Ent} {V : List Vl}
end
end Go.Ab
namespace Go.Ab
open Go Go.RowKit
theorem blk_arr {E z n E' z' n' : Nat} {f f' : Nat → List D} (v : Value) : blk (.arr E z n f) v = blk (.arr E' z' n' f') v := by
  cases v with
  | pointer a => cases a <;> rfl
  | slice a _ _ => cases a <;> rfl
  | map a => cases a <;> rfl
  | _ => rfl
def bndv (v : Option Value) (i d : Nat) : Prop := (v = none ∧ i = d) ∨ v = some (.int .i64 i)
theorem run_sliceAt {P : Program} {w : World} {T e : TypeId} {q : TRow} (hu : P.underlying T = some (.slice e)) (hq : rowOk P e q = true) {a : Option Addr} {len cap : Nat} {lo hi : Option Value} {i j : Nat}
    (hlo : bndv lo i 0) (hhi : bndv hi j len) (hij : i ≤ j) (hjc : j ≤ cap) :
    (Instr.sliceAt T (.slice a len cap) lo hi none).run P w = .ok (.slice (if cap = i then a else a.map (·.add (i * q.sz))) (j - i) (cap - i)) w := by
  rcases hlo with ⟨rfl, rfl⟩ | rfl <;> rcases hhi with ⟨rfl, rfl⟩ | rfl <;>
    simp [Instr.sliceAt, Instr.slice, Instr.sliceBounds, Instr.sliceBound, asIntOf, run_underlying hu, run_size_row hq, hij, hjc]
section
variable {X : Ctx} {o : Oper} {S : St} {x : Operand}
def bndd (X : Ctx) (S : St) (v : Option Operand) (i d : Nat) : Prop := (v = none ∧ i = d) ∨ ∃ y, v = some y ∧ S.ev X y = .int .i64 i
theorem bndd.v {κ : Nat → Nat → Option Value} {sv : Nat → Value} {a : Act} {w : World} (hs : Sim X κ sv S a w) {v : Option Operand} {i d : Nat} (h : bndd X S v i d) : bndv (v.map a.eval) i d := by
  rcases h with ⟨rfl, rfl⟩ | ⟨y, rfl, hy⟩
  · exact .inl ⟨rfl, rfl⟩
  · exact .inr (by simp [ev_int hs hy])
theorem q_slF {T : TypeId} {r q : TRow} {z n i j : Nat} {f f' : Nat → List D} {lo hi : Option Operand} (ho : o.op = .slice T x lo hi none) (hx : S.ev X x = .sl z n f)
    (hlo : bndd X S lo i 0) (hhi : bndd X S hi j n) (hij : i ≤ j) (hjn : j ≤ n)
    (hr : nth X.Z.tab T = some r) (hk : Nat.beq r.k 3 = true) (hq : nth X.Z.tab r.el = some q) (hq9 : Nat.beq q.k 9 = false) (hz : q.sz = z) (hf : ∀ k, k < j - i → f' k = f (i + k)) :
    QOp X o S (.sl z (j - i) f') := fun κ sv a w hs => by
  have hokr := X.Z.tabOk _ _ hr (by intro e; rw [e] at hk; cases hk)
  have hokq := X.Z.tabOk _ _ hq (by intro e; rw [e] at hq9; cases hq9)
  have hu := slice_row hokr hk
  have hxv := hs.ev x
  rw [hx] at hxv
  have key : ∀ (b : Option Addr) (cap : Nat), a.eval x = .slice b n cap → n ≤ cap → ∀ w', (execOp a.eval o).run X.Z.P w' = .ok (.value (.slice (if cap = i then b else b.map (·.add (i * q.sz))) (j - i) (cap - i))) w' := fun b cap he hnc w' => by
    have := run_sliceAt (P := X.Z.P) (w := w') (a := b) (len := n) (cap := cap) hu hokq (hlo.v hs) (hhi.v hs) hij (by omega)
    simp only [execOp, ho, he, Option.map_none]
    simp [this]
  generalize he : a.eval x = v at hxv
  cases hxv with
  | sl _ _ _ b off cap u hnc h1 h2 h3 h4 =>
    refine ⟨_, ?_, fun w' _ => key _ _ he hnc w'⟩
    by_cases hci : cap = i
    · have : j - i = 0 := by omega
      simp only [if_pos hci]
      rw [this]
      exact .slE _ _ _ _
    · simp only [if_neg hci, Option.map_some, addr_add]
      subst hz
      refine .sl _ _ _ b (off + i * q.sz) (cap - i) (fun k => u (i + k)) (by omega) (fun k hk => by rw [hf k hk]; exact h1 _ (by omega)) (fun k hk => by rw [hf k hk]; exact h2 _ (by omega)) (fun k hk => by rw [hf k hk]; exact h3 _ (by omega)) (fun k m v hk hm => ?_)
      have := h4 (i + k) m v (by omega) hm
      rw [Nat.add_mul] at this
      rw [← this]; congr 1; omega
  | sl0 =>
    have hj : j = 0 := by omega
    have hi : i = 0 := by omega
    subst hj hi
    exact ⟨_, .sl0 _ _, fun w' _ => key _ _ he (Nat.le_refl _) w'⟩
  | slE _ _ ad cap =>
    have hj : j = 0 := by omega
    have hi : i = 0 := by omega
    subst hj hi
    refine ⟨_, ?_, fun w' _ => key _ _ he (Nat.zero_le _) w'⟩
    split
    · exact .slE _ _ _ _
    · exact .slE _ _ _ _
theorem q_slFM {T : TypeId} {r q : TRow} {z n i j m : Nat} {f f' : Nat → List D} {lo : Option Operand} {hi mx : Operand} (ho : o.op = .slice T x lo (some hi) (some mx)) (hx : S.ev X x = .sl z n f)
    (hlo : bndd X S lo i 0) (hhi : S.ev X hi = .int .i64 j) (hmx : S.ev X mx = .int .i64 m) (hij : i ≤ j) (hjm : j ≤ m) (hmn : m ≤ n)
    (hr : nth X.Z.tab T = some r) (hk : Nat.beq r.k 3 = true) (hq : nth X.Z.tab r.el = some q) (hq9 : Nat.beq q.k 9 = false) (hz : q.sz = z) (hf : ∀ k, k < j - i → f' k = f (i + k)) :
    QOp X o S (.sl z (j - i) f') := fun κ sv a w hs => by
  have hokr := X.Z.tabOk _ _ hr (by intro e; rw [e] at hk; cases hk)
  have hokq := X.Z.tabOk _ _ hq (by intro e; rw [e] at hq9; cases hq9)
  have hu := slice_row hokr hk
  have hxv := hs.ev x
  rw [hx] at hxv
  have e1 := ev_int hs hhi
  have e2 := ev_int hs hmx
  have key : ∀ (b : Option Addr) (cap : Nat), a.eval x = .slice b n cap → n ≤ cap → ∀ w', (execOp a.eval o).run X.Z.P w' = .ok (.value (.slice (if m = i then b else b.map (·.add (i * q.sz))) (j - i) (m - i))) w' := fun b cap he hnc w' => by
    have hmc : m ≤ cap := by omega
    have : (Instr.sliceAt T (.slice b n cap) (lo.map a.eval) (some (.int .i64 j)) (some (.int .i64 m))).run X.Z.P w' = .ok (.slice (if m = i then b else b.map (·.add (i * q.sz))) (j - i) (m - i)) w' := by
      rcases hlo.v hs with ⟨h1, rfl⟩ | h1 <;> rw [h1] <;>
        simp [Instr.sliceAt, Instr.slice, Instr.sliceBounds, Instr.sliceBound, asIntOf, run_underlying hu, run_size_row hokq, hij, hjm, hmc]
    simp only [execOp, ho, he, Option.map_some, e1, e2]
    simp [this]
  generalize he : a.eval x = v at hxv
  cases hxv with
  | sl _ _ _ b off cap u hnc h1 h2 h3 h4 =>
    refine ⟨_, ?_, fun w' _ => key _ _ he hnc w'⟩
    by_cases hci : m = i
    · have : j - i = 0 := by omega
      simp only [if_pos hci]
      rw [this]
      exact .slE _ _ _ _
    · simp only [if_neg hci, Option.map_some, addr_add]
      subst hz
      refine .sl _ _ _ b (off + i * q.sz) (m - i) (fun k => u (i + k)) (by omega) (fun k hk => by rw [hf k hk]; exact h1 _ (by omega)) (fun k hk => by rw [hf k hk]; exact h2 _ (by omega)) (fun k hk => by rw [hf k hk]; exact h3 _ (by omega)) (fun k m v hk hm => ?_)
      have := h4 (i + k) m v (by omega) hm
      rw [Nat.add_mul] at this
      rw [← this]; congr 1; omega
  | sl0 =>
    have hj : j = 0 := by omega
    have hi : i = 0 := by omega
    have hm : m = 0 := by omega
    subst hj hi hm
    exact ⟨_, .sl0 _ _, fun w' _ => by have := key _ _ he (Nat.le_refl _) w'; simpa using this⟩
  | slE _ _ ad cap =>
    have hj : j = 0 := by omega
    have hi : i = 0 := by omega
    have hm : m = 0 := by omega
    subst hj hi hm
    exact ⟨_, .slE _ _ _ _, fun w' _ => by have := key _ _ he (Nat.zero_le _) w'; simpa using this⟩
theorem n_slO {T E : TypeId} {r q : TRow} {s g z n i j t n' : Nat} {f f' : Nat → List D} {lo hi : Option Operand} (ho : o.op = .slice T x lo hi none) (hd : o.dst = some t) (hx : S.ev X x = .os s g) (hg : S.γ s = g) (hσ : S.σ s = .arr E z n f)
    (hlo : bndd X S lo i 0) (hhi : bndd X S hi j n) (hij : i ≤ j) (hjn : j ≤ n)
    (hr : nth X.Z.tab T = some r) (hk : Nat.beq r.k 3 = true) (hE : r.el = E) (hq : nth X.Z.tab E = some q) (hq9 : Nat.beq q.k 9 = false) (hz : q.sz = z) (hn' : n' = j - i) (hf : ∀ k, k < j - i → f' k = f (i + k)) :
    NOp X o S (S.owned t s (.arr E z n' f')) := fun κ sv a w hs => by
  subst hn' hz hE
  have hokr := X.Z.tabOk _ _ hr (by intro e; rw [e] at hk; cases hk)
  have hokq := X.Z.tabOk _ _ hq (by intro e; rw [e] at hq9; cases hq9)
  have hu := slice_row hokr hk
  have hown0 := hs.wld.own s
  rw [hσ] at hown0
  obtain ⟨xs, hown, hfl, hfc, hfr⟩ := hown0
  have hxv := hs.ev x
  rw [hx] at hxv
  have hxe : a.eval x = sv s := by
    generalize a.eval x = v at hxv
    cases hxv with
    | os _ _ _ _ hh _ => exact hh hg.symm
  have key : ∀ (b : Option Addr) (cap : Nat), sv s = .slice b n cap → n ≤ cap → (execOp a.eval o).run X.Z.P w = .ok (.value (.slice (if cap = i then b else b.map (·.add (i * q.sz))) (j - i) (cap - i))) w := fun b cap he hnc => by
    have := run_sliceAt (P := X.Z.P) (w := w) (a := b) (len := n) (cap := cap) hu hokq (hlo.v hs) (hhi.v hs) hij (by omega)
    simp only [execOp, ho, hxe, he, Option.map_none]
    simp [this]
  have hdj : ∀ (k : Nat), k < j - i → ((xs.drop (i * q.sz)).take ((j - i) * q.sz) |>.drop (k * q.sz)).take q.sz = (xs.drop ((i + k) * q.sz)).take q.sz := fun k hk => by
    have h1 : k * q.sz + q.sz ≤ (j - i) * q.sz := by have := Nat.mul_le_mul_right q.sz (show k + 1 ≤ j - i by omega); rw [Nat.add_mul] at this; omega
    rw [List.drop_take, List.take_take, Nat.min_eq_left (by omega), List.drop_drop, Nat.add_mul]
  have hfin : ∀ pv : Value, pv.oneCell' = true → (∀ b, blk (S.σ s) pv = some b → blk (S.σ s) (sv s) = some b) → ownsAt w X.w0.heap.size r.el q.sz pv (j - i) ((xs.drop (i * q.sz)).take ((j - i) * q.sz)) →
      (execOp a.eval o).run X.Z.P w = .ok (.value pv) w →
      ∃ v w' κ' sv', ((execOp a.eval o).run X.Z.P w = .ok (.value v) w' ∨ ((execOp a.eval o).run X.Z.P w = .ok .skip w' ∧ v = Go.undef)) ∧ Sim X κ' sv' (S.owned t s (.arr r.el q.sz (j - i) f')) (a.put o.dst v) w' := fun pv h1c hb hO hrun => by
    rw [hd]
    refine ⟨pv, w, κ, upd sv s pv, .inl hrun, sim_owned hs t s (pv := pv) h1c (below_grown (Below.refl _ _) _) (fun b hb' => .inr (hb b (by rw [hσ]; rw [blk_arr] at hb'; exact hb'))) ?_⟩
    refine ⟨_, by rw [upd_same]; exact hO, fun k hk => by rw [hf k hk]; exact hfl _ (by omega), fun k hk => by rw [hf k hk]; exact hfc _ (by omega), fun k hk => ?_⟩
    rw [hf k hk, hdj k hk]
    exact (hfr (i + k) (by omega)).mono (le_renew κ S.γ sv s pv)
  rcases hown.2 with ⟨hv, hn⟩ | ⟨b, off, cap, cur, hv, hbase, hh, hnc, hcm, hcs, htake⟩
  · have hj : j = 0 := by omega
    have hi : i = 0 := by omega
    subst hj hi
    refine hfin _ rfl (fun b hb => ?_) ⟨by simp, .inl ⟨rfl, rfl⟩⟩ (by have := key none 0 (by rw [hv, hn]) (by omega); simpa using this)
    rw [hσ] at hb; cases hb
  · refine hfin _ ?_ ?_ ?_ (key _ _ hv hnc)
    · simp only [Option.map_some]; split <;> rfl
    · intro b' hb'
      rw [hσ] at hb' ⊢
      rw [hv]
      simp only [Option.map_some, addr_add] at hb'
      split at hb' <;> exact hb'
    · have hxl := hown.1
      have hin : i * q.sz ≤ n * q.sz := Nat.mul_le_mul_right _ (by omega)
      have hjn' : i * q.sz + (j - i) * q.sz ≤ n * q.sz := by rw [← Nat.add_mul]; exact Nat.mul_le_mul_right _ (by omega)
      refine ⟨by simp; omega, .inr ?_⟩
      by_cases hci : cap = i
      · have h0 : j - i = 0 := by omega
        rw [if_pos hci, h0]
        exact ⟨b, off, cap - i, cur, rfl, hbase, hh, by omega, by omega, by rw [show cap - i = 0 by omega]; omega, by simp⟩
      · rw [if_neg hci]
        simp only [Option.map_some, addr_add]
        refine ⟨b, off + i * q.sz, cap - i, cur, rfl, hbase, hh, by omega, by omega, ?_, ?_⟩
        · have : i * q.sz + (cap - i) * q.sz = cap * q.sz := by rw [← Nat.add_mul]; congr 1; omega
          omega
        · rw [← htake, List.drop_take, List.take_take, List.drop_drop, Nat.min_eq_left (by omega)]
end
end Go.Ab
namespace Go.Ab
open Go Go.RowKit
section
variable {X : Ctx} {o : Oper} {S : St} {x y : Operand} {T T2 : TypeId}
theorem run_loadVar_one {P : Program} {t : TypeId} {d : TypeDesc} {w : World} (hd : P.underlying t = some d) (ha : aggOf P t = false) {a : Addr} {v : Value} (h : w.cell? a = some v) : (loadVar t a).run P w = .ok v w := by
  simp [loadVar, run_isAgg hd, ha, h]
theorem q_ldrf {l : List D} {j : Nat} {d : D} {td : TypeDesc} (ho : o.op = .load T x) (hx : S.ev X x = .rp l j) (hu : X.Z.P.underlying T = some td) (ha : aggOf X.Z.P T = false) (hd : nth l j = some d) : QOp X o S d := fun κ sv a w hs => by
  have h1 := hs.ev x
  rw [hx] at h1
  generalize he : a.eval x = v at h1
  cases h1 with
  | rp _ _ b off u _ hu' hκ =>
    rw [nth_eq] at hd
    obtain ⟨vj, hv, hrep⟩ := hu'.get hd
    refine ⟨vj, hrep, fun w' hb => ?_⟩
    have hc := hs.wld.imm _ _ _ (hκ j vj hv)
    have hc' : w'.cell? ⟨b, off + j, none⟩ = some vj := (hb.cell (World.block_lt_of_cell? w _ hc)).trans hc
    simp [execOp, ho, he, Instr.loadAt, Instr.sureAddr, run_loadVar_one hu ha hc']
theorem q_ldbf {s g j : Nat} {l : List D} {d : D} {td : TypeDesc} (ho : o.op = .load T x) (hx : S.ev X x = .bx s g j) (hu : X.Z.P.underlying T = some td) (ha : aggOf X.Z.P T = false)
    (hg : S.γ s = g) (hσ : S.σ s = .box l) (hd : nth l j = some d) : QOp X o S d := fun κ sv a w hs => by
  obtain ⟨b, Tb, cs, he, _, hh, hrep, _⟩ := box_cells hs hx hg hσ
  rw [nth_eq] at hd
  obtain ⟨vj, hv, hrj⟩ := hrep.get hd
  refine ⟨vj, hrj, fun w' hb => ?_⟩
  have hh' : w'.heap[b]? = some (.cells (List.toArray cs) Tb (0, 0)) := by rw [hb.block b (Array.getElem?_eq_some_iff.1 hh).1]; exact hh
  have hc' : w'.cell? ⟨b, j, none⟩ = some vj := by rw [cell_of_row w' b j _ _ _ hh']; simpa using hv
  simp [execOp, ho, he, Instr.loadAt, Instr.sureAddr, run_loadVar_one hu ha hc']
theorem q_lenS {s : ByteArray} {ts : Array TypeId} (ho : o.op = .call { callee := .builtin .len, args := #[x], argTypes := ts }) (hT : ts[0]? = some T) (hx : S.ev X x = .str s)
    (hu : X.Z.P.underlying T = some .string) : QOp X o S (.int .i64 s.size) := fun κ sv a w hs =>
  ⟨.int .i64 s.size, .int _ _, fun w' _ => by simp [execOp, ho, resolve, invoke, builtin, Builtin.len_, hT, ev_str hs hx, run_underlying hu, goInt]⟩
theorem q_idxS {s : ByteArray} {i : Int} {b : UInt8} (ho : o.op = .index T x y) (hx : S.ev X x = .str s) (hy : S.ev X y = .int .i64 i) (hu : X.Z.P.underlying T = some .string) (h0 : 0 ≤ i) (hb : s[i.toNat]? = some b) :
    QOp X o S (.int .u8 b.toNat) := fun κ sv a w hs =>
  ⟨.int .u8 b.toNat, .int _ _, fun w' _ => by simp [execOp, ho, ev_str hs hx, ev_int hs hy, Instr.index, asIntOf, run_underlying hu, h0, hb]⟩
theorem q_eqS {s t : ByteArray} (ho : o.op = .binOp .eql T x y T2) (hx : S.ev X x = .str s) (hy : S.ev X y = .str t) : QOp X o S (.bool (s.toList == t.toList)) := fun κ sv a w hs =>
  ⟨.bool (s.toList == t.toList), .bool _, fun w' _ => by simp [execOp, ho, ev_str hs hx, ev_str hs hy, eqGuard, binOp, Op.stringOp]⟩
theorem q_neS {s t : ByteArray} (ho : o.op = .binOp .neq T x y T2) (hx : S.ev X x = .str s) (hy : S.ev X y = .str t) : QOp X o S (.bool (!(s.toList == t.toList))) := fun κ sv a w hs =>
  ⟨.bool (!(s.toList == t.toList)), .bool _, fun w' _ => by simp [execOp, ho, ev_str hs hx, ev_str hs hy, eqGuard, binOp, Op.stringOp]⟩
end
section
variable {X : Ctx} {o : Oper} {S : St} {x y : Operand} {T T2 : TypeId}
theorem run_copy_zero {P : Program} {w : World} {ty E : TypeId} {q : TRow} (hu : P.underlying T = some (.slice E)) (hq : rowOk P E q = true) {d a : Option Addr} {n m c c' : Nat} (h0 : Nat.min m n = 0) :
    (Builtin.copy_ #[T, T2] ty #[.slice d n c, .slice a m c']).run P w = .ok (goInt 0) w := by
  have hl : ∀ (x : Addr), (loadCells x 0).run P w = .ok #[] w := fun x => by simpa using run_loadCells_list (P := P) w x [] (by simp)
  cases d <;> cases a <;> simp [Builtin.copy_, run_underlying hu, Builtin.lenOf, Builtin.firstCells, run_size_row hq, h0, storeCells, hl]
theorem run_copy_some {P : Program} {w : World} {ty E : TypeId} {q : TRow} (hu : P.underlying T = some (.slice E)) (hq : rowOk P E q = true) {g off n m c c' k : Nat} {ad : Addr} {cur : Array Value} {news : List Value} {e : TypeId} (hk : Nat.min m n = k)
    (hg : w.heap[g]? = some (.cells cur e (0, 0))) (hl : news.length = k * q.sz) (hn : ∀ j v, news[j]? = some v → w.cell? (ad.add j) = some v) (h1 : ∀ v ∈ news, v.oneCell' = true) (hfit : off + news.length ≤ cur.size) :
    (Builtin.copy_ #[T, T2] ty #[.slice (some ⟨g, off, none⟩) n c, .slice (some ad) m c']).run P w = .ok (goInt k) (w.setRow g (cur.toList.take off ++ news ++ cur.toList.drop (off + news.length)).toArray) := by
  have hld := run_loadCells_list (P := P) w ad news hn
  rw [hl] at hld
  have hst := run_storeCells_at P g off e news 0 cur w hg (by simpa using hfit) h1
  simp only [Nat.add_zero] at hst
  simp [Builtin.copy_, run_underlying hu, Builtin.lenOf, Builtin.firstCells, run_size_row hq, hk, hld, hst]
theorem n_copy {r q : TRow} {s g z n m t k : Nat} {E : TypeId} {f h f' : Nat → List D} {ts : Array TypeId} (ho : o.op = .call { callee := .builtin .copy, args := #[x, y], argTypes := ts }) (hts : ts = #[T, T2]) (hd : o.dst = some t)
    (hx : S.ev X x = .os s g) (hg : S.γ s = g) (hσ : S.σ s = .arr E z n f) (hy : S.ev X y = .sl z m h)
    (hr : nth X.Z.tab T = some r) (hk : Nat.beq r.k 3 = true) (hE : r.el = E) (hq : nth X.Z.tab E = some q) (hq9 : Nat.beq q.k 9 = false) (hz : q.sz = z) (hz0 : Nat.beq z 0 = false)
    (hkk : Nat.min m n = k) (h1 : ∀ i, i < k → f' i = h i) (h2 : ∀ i, k ≤ i → i < n → f' i = f i) :
    NOp X o S ⟨upd S.ρ t (.int .i64 k), S.γ, upd S.σ s (.arr E z n f')⟩ := fun κ sv a w hs => by
  subst hts hE hz
  have hokr := X.Z.tabOk _ _ hr (by intro e; rw [e] at hk; cases hk)
  have hokq := X.Z.tabOk _ _ hq (by intro e; rw [e] at hq9; cases hq9)
  have hu := slice_row hokr hk
  have hown0 := hs.wld.own s
  rw [hσ] at hown0
  obtain ⟨xs, hown, hfl, hfc, hfr⟩ := hown0
  have hxv := hs.ev x
  rw [hx] at hxv
  have hxe : a.eval x = sv s := by
    generalize a.eval x = v at hxv
    cases hxv with
    | os _ _ _ _ hh _ => exact hh hg.symm
  have hyv := hs.ev y
  rw [hy] at hyv
  have hz1 : 0 < q.sz := by
    cases hzz : q.sz with
    | zero => rw [hzz] at hz0; cases hz0
    | succ => omega
  have hkm : k ≤ m := hkk ▸ Nat.min_le_left _ _
  have hkn : k ≤ n := hkk ▸ Nat.min_le_right _ _
  have hfin : ∀ (w' : World) (xs' : List Value), (Builtin.copy_ #[T, T2] o.type #[a.eval x, a.eval y]).run X.Z.P w = .ok (goInt k) w' → w.grownBy w' (blk (S.σ s) (sv s)) → ownsAt w' X.w0.heap.size r.el q.sz (sv s) n xs' →
      (∀ i, i < n → (f' i).length = q.sz) → (∀ i, i < n → allCell (f' i) = true) → (∀ i, i < n → RepL κ S.γ sv (f' i) ((xs'.drop (i * q.sz)).take q.sz)) →
      ∃ v w' κ' sv', ((execOp a.eval o).run X.Z.P w = .ok (.value v) w' ∨ ((execOp a.eval o).run X.Z.P w = .ok .skip w' ∧ v = Go.undef)) ∧ Sim X κ' sv' ⟨upd S.ρ t (.int .i64 k), S.γ, upd S.σ s (.arr r.el q.sz n f')⟩ (a.put o.dst v) w' := fun w' xs' hrun hgr ho' e2 e3 e4 => by
    have hW := hs.wld.rewrite s (.arr r.el q.sz n f') hgr (by rw [hσ]; exact blk_arr _) ⟨xs', ho', e2, e3, e4⟩ S.ρ
    have hS : Sim X κ sv ⟨S.ρ, S.γ, upd S.σ s (.arr r.el q.sz n f')⟩ a w' := ⟨hs.size, dfr_own hs s hgr, hs.slot, hW⟩
    rw [hd]
    refine ⟨.int .i64 k, w', κ, sv, .inl ?_, hS.put (some t) (.int _ _)⟩
    simp [execOp, ho, resolve, invoke, builtin, hrun, goInt]
  have hzero : ∀ (b : Option Addr) (cap : Nat), a.eval y = .slice b m cap → k = 0 → ∃ v w' κ' sv', ((execOp a.eval o).run X.Z.P w = .ok (.value v) w' ∨ ((execOp a.eval o).run X.Z.P w = .ok .skip w' ∧ v = Go.undef)) ∧ Sim X κ' sv' ⟨upd S.ρ t (.int .i64 k), S.γ, upd S.σ s (.arr r.el q.sz n f')⟩ (a.put o.dst v) w' := fun b cap hye h0 => by
    refine hfin w xs ?_ (below_grown (Below.refl _ _) _) hown (fun i hi => by rw [h2 i (by omega) hi]; exact hfl i hi) (fun i hi => by rw [h2 i (by omega) hi]; exact hfc i hi) (fun i hi => by rw [h2 i (by omega) hi]; exact hfr i hi)
    rw [hye, hxe, h0]
    rcases hown.2 with ⟨hv, _⟩ | ⟨g', off, cap', cur, hv, _⟩
    · rw [hv]; have := run_copy_zero (T2 := T2) (w := w) (ty := o.type) (d := none) (a := b) (n := 0) (m := m) (c := 0) (c' := cap) hu hokq (by simp)
      exact this
    · rw [hv]; exact run_copy_zero hu hokq (by rw [hkk, h0])
  generalize hye : a.eval y = v at hyv
  cases hyv with
  | sl0 => exact hzero _ _ hye (by omega)
  | slE => exact hzero _ _ hye (by omega)
  | sl _ _ _ b off cap u hmc hlz hac hul hκ =>
    by_cases hk0 : k = 0
    · exact hzero _ _ hye hk0
    have hulen : ∀ i, i < k → (u i).length = q.sz := fun i hi => by rw [(hul i (by omega)).length, hlz i (by omega)]
    have hnl : (((List.range k).map u).flatten).length = k * q.sz := by
      rw [flat_len _ (z := q.sz) (fun c hc => by
        obtain ⟨j, hj, rfl⟩ := List.mem_map.1 hc
        exact hulen j (by simpa using hj))]
      simp
    have hcellat : ∀ j v, (((List.range k).map u).flatten)[j]? = some v → ∃ i l, i < k ∧ l < q.sz ∧ j = i * q.sz + l ∧ (u i)[l]? = some v := by
      intro j v hj
      have hjl := (List.getElem?_eq_some_iff.1 hj).1
      rw [hnl] at hjl
      have hl : j % q.sz < q.sz := Nat.mod_lt _ hz1
      have hi : j / q.sz < k := (Nat.div_lt_iff_lt_mul hz1).2 hjl
      have e : j = j / q.sz * q.sz + j % q.sz := by rw [Nat.mul_comm]; exact (Nat.div_add_mod j q.sz).symm
      refine ⟨j / q.sz, j % q.sz, hi, hl, e, ?_⟩
      rw [e, flat_at _ (z := q.sz) (fun c hc => by
        obtain ⟨i, hi, rfl⟩ := List.mem_map.1 hc
        exact hulen i (by simpa using hi)) _ _ hl] at hj
      simpa [hi] using hj
    have hxl := hown.1
    have hknz : k * q.sz ≤ n * q.sz := Nat.mul_le_mul_right _ hkn
    rcases hown.2 with ⟨hv, hn0⟩ | ⟨g', off', cap', cur, hv, hbase, hheap, hnc, hcm, hsz, htake⟩
    · omega
    have hcap : n * q.sz ≤ cap' * q.sz := Nat.mul_le_mul_right _ hnc
    have hrun := run_copy_some (T2 := T2) (w := w) (ty := o.type) (c := cap') (c' := cap) (ad := ⟨b, off, none⟩) (off := off') hu hokq hkk hheap hnl
      (fun j v hj => by
        obtain ⟨i, l, hi, hl, rfl, hv⟩ := hcellat j v hj
        rw [addr_add, ← Nat.add_assoc]
        exact hs.wld.imm _ _ _ (hκ i l v (by omega) hv))
      (fun v hv => by
        obtain ⟨j, hj⟩ := List.getElem?_of_mem hv
        obtain ⟨i, l, hi, hl, rfl, hv⟩ := hcellat j v hj
        exact RepL.oneCells (hul i (by omega)) (hac i (by omega)) v (List.mem_of_getElem? hv))
      (by rw [hnl]; omega)
    obtain ⟨news, hnews⟩ : ∃ news, ((List.range k).map u).flatten = news := ⟨_, rfl⟩
    have hfc1 := flat_chunk u k hulen
    rw [hnews] at hrun hnl hfc1
    refine hfin _ (news ++ xs.drop (k * q.sz)) (by rw [hxe, hye, hv]; exact hrun) (by rw [hσ, hv]; exact grown_setRow _ _ _) ?_ (fun i hi => ?_) (fun i hi => ?_) (fun i hi => ?_)
    · refine ⟨by simp [hnl]; omega, .inr ⟨g', off', cap', _, hv, hbase, setRow_heap w g' cur _ _ (0, 0) hheap, hnc, hcm, ?_, ?_⟩⟩
      · simp [hnl]; omega
      · have := splice_off (cur := cur.toList) (ds := news) (off := off') (p := 0) (N := n * q.sz) (by rw [hnl]; omega) (by simp; omega)
        simp only [Nat.add_zero, Nat.zero_add, List.take_zero, List.nil_append] at this
        rw [this, htake, hnl]
    · by_cases hik : i < k
      · rw [h1 i hik]; exact hlz i (by omega)
      · rw [h2 i (by omega) hi]; exact hfl i hi
    · by_cases hik : i < k
      · rw [h1 i hik]; exact hac i (by omega)
      · rw [h2 i (by omega) hi]; exact hfc i hi
    · by_cases hik : i < k
      · rw [h1 i hik, append_chunkL hnl hik, hfc1 i hik]; exact hul i (by omega)
      · rw [h2 i (by omega) hi]
        obtain ⟨j, rfl⟩ : ∃ j, i = k + j := ⟨i - k, by omega⟩
        rw [append_chunkR hnl, List.drop_drop, ← Nat.add_mul]
        exact hfr _ hi
end
end Go.Ab
namespace Go.Ab
open Go Go.RowKit
set_option linter.all false
structure Span where
  Lo : Int
  Hi : Int
  deriving DecidableEq
def dfltSpan : Span := ⟨0, 0⟩
instance : Inhabited Span := ⟨dfltSpan⟩
structure Path where
  A : Int
  B : Int
  Time : Span
  Open : Int
  deriving DecidableEq
def dfltPath : Path := ⟨0, 0, dfltSpan, 0⟩
instance : Inhabited Path := ⟨dfltPath⟩
structure Post where
  Spot : Int
  Ready : Span
  From : Int
  To : Int
  Flies : Int
  Air : List Span
  deriving DecidableEq
def dfltPost : Post := ⟨0, dfltSpan, 0, 0, 0, []⟩
instance : Inhabited Post := ⟨dfltPost⟩
structure Chill where
  Warm : Int
  Minutes : Span
  deriving DecidableEq
def dfltChill : Chill := ⟨0, dfltSpan⟩
instance : Inhabited Chill := ⟨dfltChill⟩
structure Rescue where
  Spots : Int
  Paths : List Path
  Posts : List Post
  Water : List Span
  Chills : List Chill
  deriving DecidableEq
def dfltRescue : Rescue := ⟨0, [], [], [], []⟩
instance : Inhabited Rescue := ⟨dfltRescue⟩
structure Facts where
  Times : List Int
  Ready : List Int
  Water : List Int
  Live : List Int
  Open : List Bool
  Flies : List Bool
  Air : List (List Int)
  deriving DecidableEq
def dfltFacts : Facts := ⟨[], [], [], [], [], [], []⟩
instance : Inhabited Facts := ⟨dfltFacts⟩
structure Watch where
  Rescue : Rescue
  times : List (List Span)
  lives : List Span
  deriving DecidableEq
def dfltWatch : Watch := ⟨dfltRescue, [], []⟩
instance : Inhabited Watch := ⟨dfltWatch⟩
structure Search where
  can : List (List Bool)
  best : List Int
  most : Int
  deriving DecidableEq
def dfltSearch : Search := ⟨[], [], 0⟩
instance : Inhabited Search := ⟨dfltSearch⟩
structure Pair where
  a : Int
  b : Int
  deriving DecidableEq
def dfltPair : Pair := ⟨0, 0⟩
instance : Inhabited Pair := ⟨dfltPair⟩
structure Quad where
  a : Pair
  b : Pair
  deriving DecidableEq
def dfltQuad : Quad := ⟨dfltPair, dfltPair⟩
instance : Inhabited Quad := ⟨dfltQuad⟩
structure Seed where
  word : Int
  deriving DecidableEq
def dfltSeed : Seed := ⟨0⟩
instance : Inhabited Seed := ⟨dfltSeed⟩
inductive T where
  | int (k : IntKind) | bool | str | sl (t : T) | ptr (t : T) | clo (f : FuncId) (t : T) | clo0 (f : FuncId) | clo2 (f : FuncId) (t u : T) | clo3 (f : FuncId) (t u v : T) | mfn (f : FuncId) (t : T)
  | Span | Path | Post | Chill | Rescue | Facts | Watch | Search | Pair | Quad | Seed
  deriving DecidableEq
@[reducible] def den : T → Type
  | .int _ => Int
  | .bool => Bool
  | .str => ByteArray
  | .sl t => List (den t)
  | .ptr t => den t
  | .clo _ t => den t
  | .clo0 _ => Unit
  | .clo2 _ t u => den t × den u
  | .clo3 _ t u v => den t × den u × den v
  | .mfn _ t => den t
  | .Span => Span
  | .Path => Path
  | .Post => Post
  | .Chill => Chill
  | .Rescue => Rescue
  | .Facts => Facts
  | .Watch => Watch
  | .Search => Search
  | .Pair => Pair
  | .Quad => Quad
  | .Seed => Seed
def sz : T → Nat
  | .Span => 2
  | .Path => 5
  | .Post => 7
  | .Chill => 3
  | .Rescue => 5
  | .Facts => 7
  | .Watch => 7
  | .Search => 3
  | .Pair => 2
  | .Quad => 4
  | .Seed => 1
  | _ => 1
def dflt : (t : T) → den t
  | .int _ => (0 : Int)
  | .bool => false
  | .str => (⟨#[]⟩ : ByteArray)
  | .sl t => ([] : List (den t))
  | .ptr t => dflt t
  | .clo _ t => dflt t
  | .clo0 _ => ()
  | .clo2 _ t u => (dflt t, dflt u)
  | .clo3 _ t u v => (dflt t, dflt u, dflt v)
  | .mfn _ t => dflt t
  | .Span => dfltSpan
  | .Path => dfltPath
  | .Post => dfltPost
  | .Chill => dfltChill
  | .Rescue => dfltRescue
  | .Facts => dfltFacts
  | .Watch => dfltWatch
  | .Search => dfltSearch
  | .Pair => dfltPair
  | .Quad => dfltQuad
  | .Seed => dfltSeed
inductive I where
  | int (k : IntKind) (n : Int)
  | bool (b : Bool)
  | str (s : ByteArray)
  | agg (l : List I)
  | tup (l : List I)
  | sl (t : T) (l : List (den t))
  | nil
  | rp (l : List I) (o : Nat)
  | bx (s g o : Nat)
  | os (s g : Nat)
  | op (s g z i o : Nat)
  | ow (s g z a m : Nat)
  | fn (f : FuncId) (c : List I)
  | yl (l : Nat)
  | mf (f : FuncId) (c : List I)
  | one
  | undef
instance : Inhabited I := ⟨.undef⟩
def tI (k : IntKind) : List I → Option (Int × List I)
  | .int k' n :: r => if k' = k then some (n, r) else none
  | _ => none
def tB : List I → Option (Bool × List I)
  | .bool b :: r => some (b, r)
  | _ => none
def tS : List I → Option (ByteArray × List I)
  | .str b :: r => some (b, r)
  | _ => none
def asL (t t' : T) (l : List (den t')) : Option (List (den t)) := if h : t' = t then some (h ▸ l) else none
def tL (t : T) : List I → Option (List (den t) × List I)
  | .sl t' l :: r => match asL t t' l with | some l => some (l, r) | none => none
  | .nil :: r => some ([], r)
  | _ => none
def tE {α : Type} : List I → α → Option α
  | [], a => some a
  | _, _ => none
def noNil : List I → Bool
  | [] => true
  | .nil :: _ => false
  | _ :: l => noNil l
def tP {α : Type} (dec : List I → Option α) : List I → Option α
  | .rp l o :: r => (match r with | [] => bif noNil l && Nat.beq o 0 then dec l else none | _ => none)
  | _ => none
def tC {α : Type} (f : FuncId) (dec : List I → Option α) : List I → Option α
  | .fn g c :: r => (match r with | [] => bif Nat.beq g f then tP dec c else none | _ => none)
  | _ => none
def tC0 (f : FuncId) : List I → Option Unit
  | .fn g c :: r => (match r with | [] => bif Nat.beq g f then (match c with | [] => some () | _ => none) else none | _ => none)
  | _ => none
def tC2 {α β : Type} (f : FuncId) (da : List I → Option α) (db : List I → Option β) : List I → Option (α × β)
  | .fn g c :: r => (match r with | [] => bif Nat.beq g f then (match c with | x :: ys => (tP da [x]).bind fun a => (tP db ys).bind fun b => some (a, b) | _ => none) else none | _ => none)
  | _ => none
def tC3 {α β γ : Type} (f : FuncId) (da : List I → Option α) (db : List I → Option β) (dc : List I → Option γ) : List I → Option (α × β × γ)
  | .fn g c :: r => (match r with | [] => bif Nat.beq g f then (match c with | x :: y :: ys => (tP da [x]).bind fun a => (tP db [y]).bind fun b => (tP dc ys).bind fun d => some (a, b, d) | _ => none) else none | _ => none)
  | _ => none
def tM {α : Type} (f : FuncId) (dec : List I → Option α) : List I → Option α
  | .mf g c :: r => (match r with | [] => bif Nat.beq g f then (match c with | [.agg l] => bif noNil l then dec l else none | _ => none) else none | _ => none)
  | _ => none
@[reducible] def encs (t : T) (l : List (den t)) : List I := [.sl t l]
def encSpan (x : Span) : List I := [.int .i64 x.Lo, .int .i64 x.Hi]
def decSpan (r : List I) : Option Span := (tI .i64 r).bind fun p0 => (tI .i64 p0.2).bind fun p1 => tE p1.2 ⟨p0.1, p1.1⟩
def encPath (x : Path) : List I := [.int .i64 x.A, .int .i64 x.B, .int .i64 x.Time.Lo, .int .i64 x.Time.Hi, .int .i64 x.Open]
def decPath (r : List I) : Option Path := (tI .i64 r).bind fun p0 => (tI .i64 p0.2).bind fun p1 => (tI .i64 p1.2).bind fun p2 => (tI .i64 p2.2).bind fun p3 => (tI .i64 p3.2).bind fun p4 => tE p4.2 ⟨p0.1, p1.1, ⟨p2.1, p3.1⟩, p4.1⟩
def encPost (x : Post) : List I := [.int .i64 x.Spot, .int .i64 x.Ready.Lo, .int .i64 x.Ready.Hi, .int .i64 x.From, .int .i64 x.To, .int .i64 x.Flies, .sl .Span x.Air]
def decPost (r : List I) : Option Post := (tI .i64 r).bind fun p0 => (tI .i64 p0.2).bind fun p1 => (tI .i64 p1.2).bind fun p2 => (tI .i64 p2.2).bind fun p3 => (tI .i64 p3.2).bind fun p4 => (tI .i64 p4.2).bind fun p5 => (tL .Span p5.2).bind fun p6 => tE p6.2 ⟨p0.1, ⟨p1.1, p2.1⟩, p3.1, p4.1, p5.1, p6.1⟩
def encChill (x : Chill) : List I := [.int .i64 x.Warm, .int .i64 x.Minutes.Lo, .int .i64 x.Minutes.Hi]
def decChill (r : List I) : Option Chill := (tI .i64 r).bind fun p0 => (tI .i64 p0.2).bind fun p1 => (tI .i64 p1.2).bind fun p2 => tE p2.2 ⟨p0.1, ⟨p1.1, p2.1⟩⟩
def encRescue (x : Rescue) : List I := [.int .i64 x.Spots, .sl .Path x.Paths, .sl .Post x.Posts, .sl .Span x.Water, .sl .Chill x.Chills]
def decRescue (r : List I) : Option Rescue := (tI .i64 r).bind fun p0 => (tL .Path p0.2).bind fun p1 => (tL .Post p1.2).bind fun p2 => (tL .Span p2.2).bind fun p3 => (tL .Chill p3.2).bind fun p4 => tE p4.2 ⟨p0.1, p1.1, p2.1, p3.1, p4.1⟩
def encFacts (x : Facts) : List I := [.sl (.int .i64) x.Times, .sl (.int .i64) x.Ready, .sl (.int .i64) x.Water, .sl (.int .i64) x.Live, .sl .bool x.Open, .sl .bool x.Flies, .sl (.sl (.int .i64)) x.Air]
def decFacts (r : List I) : Option Facts := (tL (.int .i64) r).bind fun p0 => (tL (.int .i64) p0.2).bind fun p1 => (tL (.int .i64) p1.2).bind fun p2 => (tL (.int .i64) p2.2).bind fun p3 => (tL .bool p3.2).bind fun p4 => (tL .bool p4.2).bind fun p5 => (tL (.sl (.int .i64)) p5.2).bind fun p6 => tE p6.2 ⟨p0.1, p1.1, p2.1, p3.1, p4.1, p5.1, p6.1⟩
def encWatch (x : Watch) : List I := [.int .i64 x.Rescue.Spots, .sl .Path x.Rescue.Paths, .sl .Post x.Rescue.Posts, .sl .Span x.Rescue.Water, .sl .Chill x.Rescue.Chills, .sl (.sl .Span) x.times, .sl .Span x.lives]
def decWatch (r : List I) : Option Watch := (tI .i64 r).bind fun p0 => (tL .Path p0.2).bind fun p1 => (tL .Post p1.2).bind fun p2 => (tL .Span p2.2).bind fun p3 => (tL .Chill p3.2).bind fun p4 => (tL (.sl .Span) p4.2).bind fun p5 => (tL .Span p5.2).bind fun p6 => tE p6.2 ⟨⟨p0.1, p1.1, p2.1, p3.1, p4.1⟩, p5.1, p6.1⟩
def encSearch (x : Search) : List I := [.sl (.sl .bool) x.can, .sl (.int .i64) x.best, .int .i64 x.most]
def decSearch (r : List I) : Option Search := (tL (.sl .bool) r).bind fun p0 => (tL (.int .i64) p0.2).bind fun p1 => (tI .i64 p1.2).bind fun p2 => tE p2.2 ⟨p0.1, p1.1, p2.1⟩
def encPair (x : Pair) : List I := [.int .i64 x.a, .int .i64 x.b]
def decPair (r : List I) : Option Pair := (tI .i64 r).bind fun p0 => (tI .i64 p0.2).bind fun p1 => tE p1.2 ⟨p0.1, p1.1⟩
def encQuad (x : Quad) : List I := [.int .i64 x.a.a, .int .i64 x.a.b, .int .i64 x.b.a, .int .i64 x.b.b]
def decQuad (r : List I) : Option Quad := (tI .i64 r).bind fun p0 => (tI .i64 p0.2).bind fun p1 => (tI .i64 p1.2).bind fun p2 => (tI .i64 p2.2).bind fun p3 => tE p3.2 ⟨⟨p0.1, p1.1⟩, ⟨p2.1, p3.1⟩⟩
def encSeed (x : Seed) : List I := [.int .u64 x.word]
def decSeed (r : List I) : Option Seed := (tI .u64 r).bind fun p0 => tE p0.2 ⟨p0.1⟩
def encC : (t : T) → den t → List I
  | .int k, x => [.int k x]
  | .bool, x => [.bool x]
  | .str, x => [.str x]
  | .sl t, x => [.sl t x]
  | .ptr t, x => [.rp (encC t x) 0]
  | .clo f t, x => [.fn f [.rp (encC t x) 0]]
  | .clo0 f, _ => [.fn f []]
  | .clo2 f t u, x => [.fn f [.rp (encC t x.1) 0, .rp (encC u x.2) 0]]
  | .clo3 f t u v, x => [.fn f [.rp (encC t x.1) 0, .rp (encC u x.2.1) 0, .rp (encC v x.2.2) 0]]
  | .mfn f t, x => [.mf f [.agg (encC t x)]]
  | .Span, x => encSpan x
  | .Path, x => encPath x
  | .Post, x => encPost x
  | .Chill, x => encChill x
  | .Rescue, x => encRescue x
  | .Facts, x => encFacts x
  | .Watch, x => encWatch x
  | .Search, x => encSearch x
  | .Pair, x => encPair x
  | .Quad, x => encQuad x
  | .Seed, x => encSeed x
def decC : (t : T) → List I → Option (den t)
  | .int k, r => (tI k r).bind fun p => tE p.2 p.1
  | .bool, r => (tB r).bind fun p => tE p.2 p.1
  | .str, r => (tS r).bind fun p => tE p.2 p.1
  | .sl t, r => (tL t r).bind fun p => tE p.2 p.1
  | .ptr t, r => tP (decC t) r
  | .clo f t, r => tC f (decC t) r
  | .clo0 f, r => tC0 f r
  | .clo2 f t u, r => tC2 f (decC t) (decC u) r
  | .clo3 f t u v, r => tC3 f (decC t) (decC u) (decC v) r
  | .mfn f t, r => tM f (decC t) r
  | .Span, r => decSpan r
  | .Path, r => decPath r
  | .Post, r => decPost r
  | .Chill, r => decChill r
  | .Rescue, r => decRescue r
  | .Facts, r => decFacts r
  | .Watch, r => decWatch r
  | .Search, r => decSearch r
  | .Pair, r => decPair r
  | .Quad, r => decQuad r
  | .Seed, r => decSeed r
def encDSpan (x : Span) : List D := [.int .i64 x.Lo, .int .i64 x.Hi]
def encDPath (x : Path) : List D := [.int .i64 x.A, .int .i64 x.B, .int .i64 x.Time.Lo, .int .i64 x.Time.Hi, .int .i64 x.Open]
def encDPost (x : Post) : List D := [.int .i64 x.Spot, .int .i64 x.Ready.Lo, .int .i64 x.Ready.Hi, .int .i64 x.From, .int .i64 x.To, .int .i64 x.Flies, .sl 2 x.Air.length (fun i => encDSpan (x.Air.getD i dfltSpan))]
def encDChill (x : Chill) : List D := [.int .i64 x.Warm, .int .i64 x.Minutes.Lo, .int .i64 x.Minutes.Hi]
def encDRescue (x : Rescue) : List D := [.int .i64 x.Spots, .sl 5 x.Paths.length (fun i => encDPath (x.Paths.getD i dfltPath)), .sl 7 x.Posts.length (fun i => encDPost (x.Posts.getD i dfltPost)), .sl 2 x.Water.length (fun i => encDSpan (x.Water.getD i dfltSpan)), .sl 3 x.Chills.length (fun i => encDChill (x.Chills.getD i dfltChill))]
def encDFacts (x : Facts) : List D := [.sl 1 x.Times.length (fun i => (fun y => [.int .i64 y]) (x.Times.getD i 0)), .sl 1 x.Ready.length (fun i => (fun y => [.int .i64 y]) (x.Ready.getD i 0)), .sl 1 x.Water.length (fun i => (fun y => [.int .i64 y]) (x.Water.getD i 0)), .sl 1 x.Live.length (fun i => (fun y => [.int .i64 y]) (x.Live.getD i 0)), .sl 1 x.Open.length (fun i => (fun y => [.bool y]) (x.Open.getD i false)), .sl 1 x.Flies.length (fun i => (fun y => [.bool y]) (x.Flies.getD i false)), .sl 1 x.Air.length (fun i => (fun y => [.sl 1 y.length (fun i => (fun y => [.int .i64 y]) (y.getD i 0))]) (x.Air.getD i []))]
def encDWatch (x : Watch) : List D := [.int .i64 x.Rescue.Spots, .sl 5 x.Rescue.Paths.length (fun i => encDPath (x.Rescue.Paths.getD i dfltPath)), .sl 7 x.Rescue.Posts.length (fun i => encDPost (x.Rescue.Posts.getD i dfltPost)), .sl 2 x.Rescue.Water.length (fun i => encDSpan (x.Rescue.Water.getD i dfltSpan)), .sl 3 x.Rescue.Chills.length (fun i => encDChill (x.Rescue.Chills.getD i dfltChill)), .sl 1 x.times.length (fun i => (fun y => [.sl 2 y.length (fun i => encDSpan (y.getD i dfltSpan))]) (x.times.getD i [])), .sl 2 x.lives.length (fun i => encDSpan (x.lives.getD i dfltSpan))]
def encDSearch (x : Search) : List D := [.sl 1 x.can.length (fun i => (fun y => [.sl 1 y.length (fun i => (fun y => [.bool y]) (y.getD i false))]) (x.can.getD i [])), .sl 1 x.best.length (fun i => (fun y => [.int .i64 y]) (x.best.getD i 0)), .int .i64 x.most]
def encDPair (x : Pair) : List D := [.int .i64 x.a, .int .i64 x.b]
def encDQuad (x : Quad) : List D := [.int .i64 x.a.a, .int .i64 x.a.b, .int .i64 x.b.a, .int .i64 x.b.b]
def encDSeed (x : Seed) : List D := [.int .u64 x.word]
def encD : (t : T) → den t → List D
  | .int k, x => [.int k x]
  | .bool, x => [.bool x]
  | .str, x => [.str x]
  | .sl t, x => [.sl (sz t) x.length (fun i => encD t (x.getD i (dflt t)))]
  | .ptr t, x => [.rp (encD t x) 0]
  | .clo f t, x => [.fn f [.rp (encD t x) 0]]
  | .clo0 f, _ => [.fn f []]
  | .clo2 f t u, x => [.fn f [.rp (encD t x.1) 0, .rp (encD u x.2) 0]]
  | .clo3 f t u v, x => [.fn f [.rp (encD t x.1) 0, .rp (encD u x.2.1) 0, .rp (encD v x.2.2) 0]]
  | .mfn f t, x => [.mf f [.agg (encD t x)]]
  | .Span, x => encDSpan x
  | .Path, x => encDPath x
  | .Post, x => encDPost x
  | .Chill, x => encDChill x
  | .Rescue, x => encDRescue x
  | .Facts, x => encDFacts x
  | .Watch, x => encDWatch x
  | .Search, x => encDSearch x
  | .Pair, x => encDPair x
  | .Quad, x => encDQuad x
  | .Seed, x => encDSeed x
def slD (t : T) (l : List (den t)) : D := .sl (sz t) l.length (fun i => encD t (l.getD i (dflt t)))
def isSt : T → Bool
  | .int _ | .bool | .str | .sl _ | .ptr _ | .clo _ _ | .clo0 _ | .clo2 _ _ _ | .clo3 _ _ _ _ | .mfn _ _ => false
  | _ => true
theorem encD_cell : ∀ (t : T) (x : den t), allCell (encD t x) = true := by intro t x; cases t <;> rfl
inductive NilI : I → I → Prop
  | same (d : I) : NilI d d
  | nil (t : T) : NilI .nil (.sl t [])
inductive NilIL : List I → List I → Prop
  | nil : NilIL [] []
  | cons {d d' : I} {l l' : List I} : NilI d d' → NilIL l l' → NilIL (d :: l) (d' :: l')
theorem tI_bind {k : IntKind} {α : Type} {r : List I} {f : Int × List I → Option α} {x : α} (h : (tI k r).bind f = some x) : ∃ n r', r = .int k n :: r' ∧ f (n, r') = some x := by
  cases r with
  | nil => cases h
  | cons d r =>
    cases d <;> try (cases h; done)
    rename_i k' n
    simp only [tI] at h
    split at h
    · rename_i e; subst e; exact ⟨n, r, rfl, h⟩
    · cases h
theorem tB_bind {α : Type} {r : List I} {f : Bool × List I → Option α} {x : α} (h : (tB r).bind f = some x) : ∃ n r', r = .bool n :: r' ∧ f (n, r') = some x := by
  cases r with
  | nil => cases h
  | cons d r => cases d <;> first | (cases h; done) | exact ⟨_, _, rfl, h⟩
theorem tS_bind {α : Type} {r : List I} {f : ByteArray × List I → Option α} {x : α} (h : (tS r).bind f = some x) : ∃ n r', r = .str n :: r' ∧ f (n, r') = some x := by
  cases r with
  | nil => cases h
  | cons d r => cases d <;> first | (cases h; done) | exact ⟨_, _, rfl, h⟩
theorem asL_eq {t t' : T} {l : List (den t')} {m : List (den t)} (h : asL t t' l = some m) : (I.sl t' l) = .sl t m := by
  unfold asL at h
  split at h
  · rename_i e; subst e; simp only [Option.some.injEq] at h; subst h; rfl
  · cases h
theorem tL_bind {t : T} {α : Type} {r : List I} {f : List (den t) × List I → Option α} {x : α} (h : (tL t r).bind f = some x) : ∃ d l r', r = d :: r' ∧ NilI d (.sl t l) ∧ f (l, r') = some x := by
  cases r with
  | nil => cases h
  | cons d r =>
    cases d <;> try (cases h; done)
    · rename_i t' l
      simp only [tL] at h
      cases ha : asL t t' l with
      | none => rw [ha] at h; cases h
      | some m => rw [ha] at h; exact ⟨_, m, r, rfl, by rw [asL_eq ha]; exact .same _, h⟩
    · exact ⟨_, [], r, rfl, .nil t, h⟩
theorem noNil_eq : ∀ {l m : List I}, NilIL l m → noNil l = true → l = m
  | _, _, .nil, _ => rfl
  | _, _, .cons (d := d) (l := l) h1 h2, hn => by
    cases h1 with
    | same =>
      have : noNil l = true := by cases d <;> first | exact hn | exact absurd hn (by simp [noNil])
      rw [noNil_eq h2 this]
    | nil => cases hn
theorem tP_ok {α : Type} {dec : List I → Option α} {enc : α → List I} (hd : ∀ {r x}, dec r = some x → NilIL r (enc x)) {r : List I} {x : α} (h : tP dec r = some x) : r = [.rp (enc x) 0] := by
  unfold tP at h
  split at h
  · rename_i l o r'
    split at h
    · cases hc : noNil l && Nat.beq o 0 with
      | false => rw [hc] at h; cases h
      | true =>
        rw [hc] at h
        simp only [Bool.and_eq_true] at hc
        rw [noNil_eq (hd h) hc.1, Nat.eq_of_beq_eq_true hc.2]
    · cases h
  · cases h
theorem tC_ok {α : Type} {f : FuncId} {dec : List I → Option α} {enc : α → List I} (hd : ∀ {r x}, dec r = some x → NilIL r (enc x)) {r : List I} {x : α} (h : tC f dec r = some x) : r = [.fn f [.rp (enc x) 0]] := by
  unfold tC at h
  split at h
  · rename_i g c r'
    split at h
    · cases hc : Nat.beq g f with
      | false => rw [hc] at h; cases h
      | true =>
        rw [hc] at h
        rw [tP_ok hd h, Nat.eq_of_beq_eq_true hc]
    · cases h
  · cases h
theorem tC0_ok {f : FuncId} {r : List I} {x : Unit} (h : tC0 f r = some x) : r = [.fn f []] := by
  unfold tC0 at h
  split at h
  · rename_i g c r'
    split at h
    · cases hc : Nat.beq g f with
      | false => rw [hc] at h; cases h
      | true =>
        rw [hc] at h
        simp only [cond_true] at h
        split at h
        · rw [Nat.eq_of_beq_eq_true hc]
        · cases h
    · cases h
  · cases h
theorem tC2_ok {α β : Type} {f : FuncId} {da : List I → Option α} {db : List I → Option β} {ea : α → List I} {eb : β → List I} (ha : ∀ {r x}, da r = some x → NilIL r (ea x)) (hb : ∀ {r x}, db r = some x → NilIL r (eb x)) {r : List I} {x : α × β} (h : tC2 f da db r = some x) : r = [.fn f [.rp (ea x.1) 0, .rp (eb x.2) 0]] := by
  unfold tC2 at h
  split at h
  · rename_i g c r'
    split at h
    · cases hc : Nat.beq g f with
      | false => rw [hc] at h; cases h
      | true =>
        rw [hc] at h
        simp only [cond_true] at h
        split at h
        · rename_i y ys
          cases h1 : tP da [y] with
          | none => rw [h1] at h; cases h
          | some a =>
            rw [h1] at h
            simp only [Option.bind_some] at h
            cases h2 : tP db ys with
            | none => rw [h2] at h; cases h
            | some b =>
              rw [h2] at h
              simp only [Option.bind_some, Option.some.injEq] at h
              subst h
              have e1 := tP_ok ha h1
              have e2 := tP_ok hb h2
              simp only [List.cons.injEq, and_true] at e1
              rw [Nat.eq_of_beq_eq_true hc, e1, e2]
        · cases h
    · cases h
  · cases h
theorem tC3_ok {α β γ : Type} {f : FuncId} {da : List I → Option α} {db : List I → Option β} {dc : List I → Option γ} {ea : α → List I} {eb : β → List I} {ec : γ → List I} (ha : ∀ {r x}, da r = some x → NilIL r (ea x)) (hb : ∀ {r x}, db r = some x → NilIL r (eb x)) (hc' : ∀ {r x}, dc r = some x → NilIL r (ec x)) {r : List I} {x : α × β × γ} (h : tC3 f da db dc r = some x) : r = [.fn f [.rp (ea x.1) 0, .rp (eb x.2.1) 0, .rp (ec x.2.2) 0]] := by
  unfold tC3 at h
  split at h
  · rename_i g c r'
    split at h
    · cases hc : Nat.beq g f with
      | false => rw [hc] at h; cases h
      | true =>
        rw [hc] at h
        simp only [cond_true] at h
        split at h
        · rename_i y y2 ys
          cases h1 : tP da [y] with
          | none => rw [h1] at h; cases h
          | some a =>
            rw [h1] at h
            simp only [Option.bind_some] at h
            cases h2 : tP db [y2] with
            | none => rw [h2] at h; cases h
            | some b =>
              rw [h2] at h
              simp only [Option.bind_some] at h
              cases h3 : tP dc ys with
              | none => rw [h3] at h; cases h
              | some d =>
                rw [h3] at h
                simp only [Option.bind_some, Option.some.injEq] at h
                subst h
                have e1 := tP_ok ha h1
                have e2 := tP_ok hb h2
                have e3 := tP_ok hc' h3
                simp only [List.cons.injEq, and_true] at e1 e2
                rw [Nat.eq_of_beq_eq_true hc, e1, e2, e3]
        · cases h
    · cases h
  · cases h
theorem tM_ok {α : Type} {f : FuncId} {dec : List I → Option α} {enc : α → List I} (hd : ∀ {r x}, dec r = some x → NilIL r (enc x)) {r : List I} {x : α} (h : tM f dec r = some x) : r = [.mf f [.agg (enc x)]] := by
  unfold tM at h
  split at h
  · rename_i g c r'
    split at h
    · cases hc : Nat.beq g f with
      | false => rw [hc] at h; cases h
      | true =>
        rw [hc] at h
        simp only [cond_true] at h
        split at h
        · rename_i l
          cases hn : noNil l with
          | false => rw [hn] at h; cases h
          | true =>
            rw [hn] at h
            rw [Nat.eq_of_beq_eq_true hc, noNil_eq (hd h) hn]
        · cases h
    · cases h
  · cases h
theorem tE_ok {α : Type} {r : List I} {a x : α} (h : tE r a = some x) : r = [] ∧ a = x := by
  cases r with
  | nil => exact ⟨rfl, by simpa [tE] using h⟩
  | cons => cases h
theorem decSpan_ok {r : List I} {x : Span} (h : decSpan r = some x) : NilIL r (encSpan x) := by
  have h0 := h; unfold decSpan at h0; clear h
  obtain ⟨n0, r0, q0, h1⟩ := tI_bind h0
  replace q0 : r = _ := q0; subst q0
  obtain ⟨n1, r1, q1, h2⟩ := tI_bind h1
  replace q1 : r0 = _ := q1; subst q1
  obtain ⟨qe, qx⟩ := tE_ok h2
  replace qe : r1 = [] := qe; subst qe; subst qx
  exact .cons (.same _) (.cons (.same _) (NilIL.nil))
theorem decPath_ok {r : List I} {x : Path} (h : decPath r = some x) : NilIL r (encPath x) := by
  have h0 := h; unfold decPath at h0; clear h
  obtain ⟨n0, r0, q0, h1⟩ := tI_bind h0
  replace q0 : r = _ := q0; subst q0
  obtain ⟨n1, r1, q1, h2⟩ := tI_bind h1
  replace q1 : r0 = _ := q1; subst q1
  obtain ⟨n2, r2, q2, h3⟩ := tI_bind h2
  replace q2 : r1 = _ := q2; subst q2
  obtain ⟨n3, r3, q3, h4⟩ := tI_bind h3
  replace q3 : r2 = _ := q3; subst q3
  obtain ⟨n4, r4, q4, h5⟩ := tI_bind h4
  replace q4 : r3 = _ := q4; subst q4
  obtain ⟨qe, qx⟩ := tE_ok h5
  replace qe : r4 = [] := qe; subst qe; subst qx
  exact .cons (.same _) (.cons (.same _) (.cons (.same _) (.cons (.same _) (.cons (.same _) (NilIL.nil)))))
theorem decPost_ok {r : List I} {x : Post} (h : decPost r = some x) : NilIL r (encPost x) := by
  have h0 := h; unfold decPost at h0; clear h
  obtain ⟨n0, r0, q0, h1⟩ := tI_bind h0
  replace q0 : r = _ := q0; subst q0
  obtain ⟨n1, r1, q1, h2⟩ := tI_bind h1
  replace q1 : r0 = _ := q1; subst q1
  obtain ⟨n2, r2, q2, h3⟩ := tI_bind h2
  replace q2 : r1 = _ := q2; subst q2
  obtain ⟨n3, r3, q3, h4⟩ := tI_bind h3
  replace q3 : r2 = _ := q3; subst q3
  obtain ⟨n4, r4, q4, h5⟩ := tI_bind h4
  replace q4 : r3 = _ := q4; subst q4
  obtain ⟨n5, r5, q5, h6⟩ := tI_bind h5
  replace q5 : r4 = _ := q5; subst q5
  obtain ⟨d6, l6, r6, q6, e6, h7⟩ := tL_bind h6
  replace q6 : r5 = _ := q6; subst q6
  obtain ⟨qe, qx⟩ := tE_ok h7
  replace qe : r6 = [] := qe; subst qe; subst qx
  exact .cons (.same _) (.cons (.same _) (.cons (.same _) (.cons (.same _) (.cons (.same _) (.cons (.same _) (.cons e6 (NilIL.nil)))))))
theorem decChill_ok {r : List I} {x : Chill} (h : decChill r = some x) : NilIL r (encChill x) := by
  have h0 := h; unfold decChill at h0; clear h
  obtain ⟨n0, r0, q0, h1⟩ := tI_bind h0
  replace q0 : r = _ := q0; subst q0
  obtain ⟨n1, r1, q1, h2⟩ := tI_bind h1
  replace q1 : r0 = _ := q1; subst q1
  obtain ⟨n2, r2, q2, h3⟩ := tI_bind h2
  replace q2 : r1 = _ := q2; subst q2
  obtain ⟨qe, qx⟩ := tE_ok h3
  replace qe : r2 = [] := qe; subst qe; subst qx
  exact .cons (.same _) (.cons (.same _) (.cons (.same _) (NilIL.nil)))
theorem decRescue_ok {r : List I} {x : Rescue} (h : decRescue r = some x) : NilIL r (encRescue x) := by
  have h0 := h; unfold decRescue at h0; clear h
  obtain ⟨n0, r0, q0, h1⟩ := tI_bind h0
  replace q0 : r = _ := q0; subst q0
  obtain ⟨d1, l1, r1, q1, e1, h2⟩ := tL_bind h1
  replace q1 : r0 = _ := q1; subst q1
  obtain ⟨d2, l2, r2, q2, e2, h3⟩ := tL_bind h2
  replace q2 : r1 = _ := q2; subst q2
  obtain ⟨d3, l3, r3, q3, e3, h4⟩ := tL_bind h3
  replace q3 : r2 = _ := q3; subst q3
  obtain ⟨d4, l4, r4, q4, e4, h5⟩ := tL_bind h4
  replace q4 : r3 = _ := q4; subst q4
  obtain ⟨qe, qx⟩ := tE_ok h5
  replace qe : r4 = [] := qe; subst qe; subst qx
  exact .cons (.same _) (.cons e1 (.cons e2 (.cons e3 (.cons e4 (NilIL.nil)))))
theorem decFacts_ok {r : List I} {x : Facts} (h : decFacts r = some x) : NilIL r (encFacts x) := by
  have h0 := h; unfold decFacts at h0; clear h
  obtain ⟨d0, l0, r0, q0, e0, h1⟩ := tL_bind h0
  replace q0 : r = _ := q0; subst q0
  obtain ⟨d1, l1, r1, q1, e1, h2⟩ := tL_bind h1
  replace q1 : r0 = _ := q1; subst q1
  obtain ⟨d2, l2, r2, q2, e2, h3⟩ := tL_bind h2
  replace q2 : r1 = _ := q2; subst q2
  obtain ⟨d3, l3, r3, q3, e3, h4⟩ := tL_bind h3
  replace q3 : r2 = _ := q3; subst q3
  obtain ⟨d4, l4, r4, q4, e4, h5⟩ := tL_bind h4
  replace q4 : r3 = _ := q4; subst q4
  obtain ⟨d5, l5, r5, q5, e5, h6⟩ := tL_bind h5
  replace q5 : r4 = _ := q5; subst q5
  obtain ⟨d6, l6, r6, q6, e6, h7⟩ := tL_bind h6
  replace q6 : r5 = _ := q6; subst q6
  obtain ⟨qe, qx⟩ := tE_ok h7
  replace qe : r6 = [] := qe; subst qe; subst qx
  exact .cons e0 (.cons e1 (.cons e2 (.cons e3 (.cons e4 (.cons e5 (.cons e6 (NilIL.nil)))))))
theorem decWatch_ok {r : List I} {x : Watch} (h : decWatch r = some x) : NilIL r (encWatch x) := by
  have h0 := h; unfold decWatch at h0; clear h
  obtain ⟨n0, r0, q0, h1⟩ := tI_bind h0
  replace q0 : r = _ := q0; subst q0
  obtain ⟨d1, l1, r1, q1, e1, h2⟩ := tL_bind h1
  replace q1 : r0 = _ := q1; subst q1
  obtain ⟨d2, l2, r2, q2, e2, h3⟩ := tL_bind h2
  replace q2 : r1 = _ := q2; subst q2
  obtain ⟨d3, l3, r3, q3, e3, h4⟩ := tL_bind h3
  replace q3 : r2 = _ := q3; subst q3
  obtain ⟨d4, l4, r4, q4, e4, h5⟩ := tL_bind h4
  replace q4 : r3 = _ := q4; subst q4
  obtain ⟨d5, l5, r5, q5, e5, h6⟩ := tL_bind h5
  replace q5 : r4 = _ := q5; subst q5
  obtain ⟨d6, l6, r6, q6, e6, h7⟩ := tL_bind h6
  replace q6 : r5 = _ := q6; subst q6
  obtain ⟨qe, qx⟩ := tE_ok h7
  replace qe : r6 = [] := qe; subst qe; subst qx
  exact .cons (.same _) (.cons e1 (.cons e2 (.cons e3 (.cons e4 (.cons e5 (.cons e6 (NilIL.nil)))))))
theorem decSearch_ok {r : List I} {x : Search} (h : decSearch r = some x) : NilIL r (encSearch x) := by
  have h0 := h; unfold decSearch at h0; clear h
  obtain ⟨d0, l0, r0, q0, e0, h1⟩ := tL_bind h0
  replace q0 : r = _ := q0; subst q0
  obtain ⟨d1, l1, r1, q1, e1, h2⟩ := tL_bind h1
  replace q1 : r0 = _ := q1; subst q1
  obtain ⟨n2, r2, q2, h3⟩ := tI_bind h2
  replace q2 : r1 = _ := q2; subst q2
  obtain ⟨qe, qx⟩ := tE_ok h3
  replace qe : r2 = [] := qe; subst qe; subst qx
  exact .cons e0 (.cons e1 (.cons (.same _) (NilIL.nil)))
theorem decPair_ok {r : List I} {x : Pair} (h : decPair r = some x) : NilIL r (encPair x) := by
  have h0 := h; unfold decPair at h0; clear h
  obtain ⟨n0, r0, q0, h1⟩ := tI_bind h0
  replace q0 : r = _ := q0; subst q0
  obtain ⟨n1, r1, q1, h2⟩ := tI_bind h1
  replace q1 : r0 = _ := q1; subst q1
  obtain ⟨qe, qx⟩ := tE_ok h2
  replace qe : r1 = [] := qe; subst qe; subst qx
  exact .cons (.same _) (.cons (.same _) (NilIL.nil))
theorem decQuad_ok {r : List I} {x : Quad} (h : decQuad r = some x) : NilIL r (encQuad x) := by
  have h0 := h; unfold decQuad at h0; clear h
  obtain ⟨n0, r0, q0, h1⟩ := tI_bind h0
  replace q0 : r = _ := q0; subst q0
  obtain ⟨n1, r1, q1, h2⟩ := tI_bind h1
  replace q1 : r0 = _ := q1; subst q1
  obtain ⟨n2, r2, q2, h3⟩ := tI_bind h2
  replace q2 : r1 = _ := q2; subst q2
  obtain ⟨n3, r3, q3, h4⟩ := tI_bind h3
  replace q3 : r2 = _ := q3; subst q3
  obtain ⟨qe, qx⟩ := tE_ok h4
  replace qe : r3 = [] := qe; subst qe; subst qx
  exact .cons (.same _) (.cons (.same _) (.cons (.same _) (.cons (.same _) (NilIL.nil))))
theorem decSeed_ok {r : List I} {x : Seed} (h : decSeed r = some x) : NilIL r (encSeed x) := by
  have h0 := h; unfold decSeed at h0; clear h
  obtain ⟨n0, r0, q0, h1⟩ := tI_bind h0
  replace q0 : r = _ := q0; subst q0
  obtain ⟨qe, qx⟩ := tE_ok h1
  replace qe : r0 = [] := qe; subst qe; subst qx
  exact .cons (.same _) (NilIL.nil)
theorem decC_ok : ∀ (t : T) {r : List I} {x : den t}, decC t r = some x → NilIL r (encC t x)
  | .int k, r, x, h => by
    obtain ⟨n, r2, q, h2⟩ := tI_bind (show (tI k r).bind _ = _ from h)
    obtain ⟨qe, qx⟩ := tE_ok h2
    replace qe : r2 = [] := qe
    subst q; subst qe; subst qx; exact .cons (.same _) .nil
  | .bool, r, x, h => by
    obtain ⟨n, r2, q, h2⟩ := tB_bind (show (tB r).bind _ = _ from h)
    obtain ⟨qe, qx⟩ := tE_ok h2
    replace qe : r2 = [] := qe
    subst q; subst qe; subst qx; exact .cons (.same _) .nil
  | .str, r, x, h => by
    obtain ⟨n, r2, q, h2⟩ := tS_bind (show (tS r).bind _ = _ from h)
    obtain ⟨qe, qx⟩ := tE_ok h2
    replace qe : r2 = [] := qe
    subst q; subst qe; subst qx; exact .cons (.same _) .nil
  | .sl t, r, x, h => by
    obtain ⟨d, l, r2, q, e, h2⟩ := tL_bind (show (tL t r).bind _ = _ from h)
    obtain ⟨qe, qx⟩ := tE_ok h2
    replace qe : r2 = [] := qe
    subst q; subst qe; subst qx; exact .cons e .nil
  | .ptr t, r, x, h => by rw [tP_ok (fun h => decC_ok t h) (show tP (decC t) r = some x from h)]; exact .cons (.same _) .nil
  | .clo f t, r, x, h => by rw [tC_ok (fun h => decC_ok t h) (show tC f (decC t) r = some x from h)]; exact .cons (.same _) .nil
  | .clo0 f, r, x, h => by rw [tC0_ok (show tC0 f r = some x from h)]; exact .cons (.same _) .nil
  | .clo3 f t u v, r, x, h => by rw [tC3_ok (fun h => decC_ok t h) (fun h => decC_ok u h) (fun h => decC_ok v h) (show tC3 f (decC t) (decC u) (decC v) r = some x from h)]; exact .cons (.same _) .nil
  | .clo2 f t u, r, x, h => by rw [tC2_ok (fun h => decC_ok t h) (fun h => decC_ok u h) (show tC2 f (decC t) (decC u) r = some x from h)]; exact .cons (.same _) .nil
  | .mfn f t, r, x, h => by rw [tM_ok (fun h => decC_ok t h) (show tM f (decC t) r = some x from h)]; exact .cons (.same _) .nil
  | .Span, r, x, h => decSpan_ok h
  | .Path, r, x, h => decPath_ok h
  | .Post, r, x, h => decPost_ok h
  | .Chill, r, x, h => decChill_ok h
  | .Rescue, r, x, h => decRescue_ok h
  | .Facts, r, x, h => decFacts_ok h
  | .Watch, r, x, h => decWatch_ok h
  | .Search, r, x, h => decSearch_ok h
  | .Pair, r, x, h => decPair_ok h
  | .Quad, r, x, h => decQuad_ok h
  | .Seed, r, x, h => decSeed_ok h
mutual
def I.toD (h : Nat → Nat) : I → D
  | .int k n => .int k n
  | .bool b => .bool b
  | .str s => .str s
  | .agg l => .agg (I.toDL h l)
  | .tup l => .tup (I.toDL h l)
  | .sl t l => slD t l
  | .nil => .nil
  | .rp l o => .rp (I.toDL h l) o
  | .bx s g o => .bx s (h s + g) o
  | .os s g => .os s (h s + g)
  | .op s g z i o => .op s (h s + g) z i o
  | .ow s g z a m => .ow s (h s + g) z a m
  | .fn f c => .fn f (I.toDL h c)
  | .yl l => .yl (h l)
  | .mf f c => .mf f (I.toDL h c)
  | .one => .one
  | .undef => .undef
def I.toDL (h : Nat → Nat) : List I → List D
  | [] => []
  | d :: l => d.toD h :: I.toDL h l
end
theorem toDL_enc (h : Nat → Nat) : ∀ (t : T) (x : den t), I.toDL h (encC t x) = encD t x := by
  intro t
  induction t with
  | ptr t ih => intro x; show [D.rp (I.toDL h (encC t x)) 0] = _; rw [ih]; rfl
  | clo f t ih => intro x; show [D.fn f [D.rp (I.toDL h (encC t x)) 0]] = _; rw [ih]; rfl
  | clo3 f t u v ih1 ih2 ih3 => intro x; show [D.fn f [D.rp (I.toDL h (encC t x.1)) 0, D.rp (I.toDL h (encC u x.2.1)) 0, D.rp (I.toDL h (encC v x.2.2)) 0]] = _; rw [ih1, ih2, ih3]; rfl
  | clo2 f t u ih1 ih2 => intro x; show [D.fn f [D.rp (I.toDL h (encC t x.1)) 0, D.rp (I.toDL h (encC u x.2)) 0]] = _; rw [ih1, ih2]; rfl
  | mfn f t ih => intro x; show [D.mf f [D.agg (I.toDL h (encC t x))]] = _; rw [ih]; rfl
  | _ => intro x; rfl
theorem pureSpan (x : Span) : PureL (encDSpan x) := PureL.cons (.int _ _) (PureL.cons (.int _ _) (PureL.nil))
theorem purePath (x : Path) : PureL (encDPath x) := PureL.cons (.int _ _) (PureL.cons (.int _ _) (PureL.cons (.int _ _) (PureL.cons (.int _ _) (PureL.cons (.int _ _) (PureL.nil)))))
theorem purePost (x : Post) : PureL (encDPost x) := PureL.cons (.int _ _) (PureL.cons (.int _ _) (PureL.cons (.int _ _) (PureL.cons (.int _ _) (PureL.cons (.int _ _) (PureL.cons (.int _ _) (PureL.cons (.sl _ _ _ fun i _ d hd => pureSpan _ d hd) (PureL.nil)))))))
theorem pureChill (x : Chill) : PureL (encDChill x) := PureL.cons (.int _ _) (PureL.cons (.int _ _) (PureL.cons (.int _ _) (PureL.nil)))
theorem pureRescue (x : Rescue) : PureL (encDRescue x) := PureL.cons (.int _ _) (PureL.cons (.sl _ _ _ fun i _ d hd => purePath _ d hd) (PureL.cons (.sl _ _ _ fun i _ d hd => purePost _ d hd) (PureL.cons (.sl _ _ _ fun i _ d hd => pureSpan _ d hd) (PureL.cons (.sl _ _ _ fun i _ d hd => pureChill _ d hd) (PureL.nil)))))
theorem pureFacts (x : Facts) : PureL (encDFacts x) := PureL.cons (.sl _ _ _ fun i _ d hd => (fun y => PureL.cons (.int _ _) PureL.nil) _ d hd) (PureL.cons (.sl _ _ _ fun i _ d hd => (fun y => PureL.cons (.int _ _) PureL.nil) _ d hd) (PureL.cons (.sl _ _ _ fun i _ d hd => (fun y => PureL.cons (.int _ _) PureL.nil) _ d hd) (PureL.cons (.sl _ _ _ fun i _ d hd => (fun y => PureL.cons (.int _ _) PureL.nil) _ d hd) (PureL.cons (.sl _ _ _ fun i _ d hd => (fun y => PureL.cons (.bool _) PureL.nil) _ d hd) (PureL.cons (.sl _ _ _ fun i _ d hd => (fun y => PureL.cons (.bool _) PureL.nil) _ d hd) (PureL.cons (.sl _ _ _ (by intro i hi d hd; simp only [List.mem_singleton] at hd; subst hd; exact (.sl _ _ _ fun i _ d hd => (fun y => PureL.cons (.int _ _) PureL.nil) _ d hd))) (PureL.nil)))))))
theorem pureWatch (x : Watch) : PureL (encDWatch x) := PureL.cons (.int _ _) (PureL.cons (.sl _ _ _ fun i _ d hd => purePath _ d hd) (PureL.cons (.sl _ _ _ fun i _ d hd => purePost _ d hd) (PureL.cons (.sl _ _ _ fun i _ d hd => pureSpan _ d hd) (PureL.cons (.sl _ _ _ fun i _ d hd => pureChill _ d hd) (PureL.cons (.sl _ _ _ (by intro i hi d hd; simp only [List.mem_singleton] at hd; subst hd; exact (.sl _ _ _ fun i _ d hd => pureSpan _ d hd))) (PureL.cons (.sl _ _ _ fun i _ d hd => pureSpan _ d hd) (PureL.nil)))))))
theorem pureSearch (x : Search) : PureL (encDSearch x) := PureL.cons (.sl _ _ _ (by intro i hi d hd; simp only [List.mem_singleton] at hd; subst hd; exact (.sl _ _ _ fun i _ d hd => (fun y => PureL.cons (.bool _) PureL.nil) _ d hd))) (PureL.cons (.sl _ _ _ fun i _ d hd => (fun y => PureL.cons (.int _ _) PureL.nil) _ d hd) (PureL.cons (.int _ _) (PureL.nil)))
theorem purePair (x : Pair) : PureL (encDPair x) := PureL.cons (.int _ _) (PureL.cons (.int _ _) (PureL.nil))
theorem pureQuad (x : Quad) : PureL (encDQuad x) := PureL.cons (.int _ _) (PureL.cons (.int _ _) (PureL.cons (.int _ _) (PureL.cons (.int _ _) (PureL.nil))))
theorem pureSeed (x : Seed) : PureL (encDSeed x) := PureL.cons (.int _ _) (PureL.nil)
theorem encD_pure : ∀ (t : T) (x : den t), PureL (encD t x)
  | .int k, x => PureL.cons (.int _ _) PureL.nil
  | .bool, x => PureL.cons (.bool _) PureL.nil
  | .str, x => PureL.cons (.str _) PureL.nil
  | .sl t, x => PureL.cons (.sl _ _ _ fun i _ d hd => encD_pure t _ d hd) PureL.nil
  | .ptr t, x => PureL.cons (.rp _ _ (encD_pure t x)) PureL.nil
  | .clo f t, x => PureL.cons (.fn _ _ (PureL.cons (.rp _ _ (encD_pure t x)) PureL.nil)) PureL.nil
  | .clo0 f, x => PureL.cons (.fn _ _ PureL.nil) PureL.nil
  | .clo3 f t u v, x => PureL.cons (.fn _ _ (PureL.cons (.rp _ _ (encD_pure t x.1)) (PureL.cons (.rp _ _ (encD_pure u x.2.1)) (PureL.cons (.rp _ _ (encD_pure v x.2.2)) PureL.nil)))) PureL.nil
  | .clo2 f t u, x => PureL.cons (.fn _ _ (PureL.cons (.rp _ _ (encD_pure t x.1)) (PureL.cons (.rp _ _ (encD_pure u x.2)) PureL.nil))) PureL.nil
  | .mfn f t, x => PureL.cons (.mf _ _ (PureL.cons (.agg _ (encD_pure t x)) PureL.nil)) PureL.nil
  | .Span, x => pureSpan x
  | .Path, x => purePath x
  | .Post, x => purePost x
  | .Chill, x => pureChill x
  | .Rescue, x => pureRescue x
  | .Facts, x => pureFacts x
  | .Watch, x => pureWatch x
  | .Search, x => pureSearch x
  | .Pair, x => purePair x
  | .Quad, x => pureQuad x
  | .Seed, x => pureSeed x
end Go.Ab
namespace Go.Ab
open Go Go.RowKit
set_option linter.all false
structure ContractRO (Z : Seat) (f : FuncId) (l l' A : List D) (R : D) (E z n : Nat) (el : Nat → List D) : Prop where
  pureA : PureL A
  purel : PureL l
  purel' : PureL l'
  cell' : allCell l' = true
  poR : PO R
  pureE : ∀ i, i < n → PureL (el i)
  body : HasBody Z.P f
  calls : ∀ (w : World) (κ : Nat → Nat → Option Value) (args : List Value) (b : Nat) (T : TypeId) (cs : List Value), Fits κ w → (∀ o, κ b o = none) → w.heap[b]? = some (.cells (List.toArray cs) T (0, 0)) → RepL κ γ0 sv0 l cs → GlobOk Z κ → RepL κ γ0 sv0 A args →
    Calls Z.P f (Value.pointer (some ⟨b, 0, none⟩) :: args).toArray w fun e w' => ∃ v sl κ' cs' T', e = .returned v ∧ w'.heap[b]? = some (.cells (List.toArray cs') T' (0, 0)) ∧ RepL κ' γ0 sv0 l' cs' ∧
      Rep κ' (fun _ => 1) (fun _ => sl) (renO 0 1 R) v ∧ (∀ b o u, κ b o = some u → κ' b o = some u) ∧ (∀ b o u, b < w.heap.size → κ' b o = some u → κ b o = some u) ∧
      (∀ b o u, κ' b o = some u → w'.cell? ⟨b, o, none⟩ = some u) ∧ Owns w.heap.size κ' (fun _ => 1) (fun _ => sl) w' 0 (.arr E z n el) ∧ (∀ b, blk (.arr E z n el) sl = some b → ∀ o, κ' b o = none) ∧ Frame (some b) w w'
section
variable {X : Ctx} {Q : Exit → St → Prop} {S : St} {ops : Array Oper} {o : Oper} {rest : List Oper}
theorem WL_callRO (p : Nat) {f : FuncId} {x0 : Operand} {xs : List Operand} {ts : Array TypeId} {l l' A : List D} {R : D} {E z n : Nat} {el : Nat → List D} {s g : Nat} (hps : p ≠ s) (hg : o.guard = none) (ho : o.op = .call { callee := .value (.func f), args := (x0 :: xs).toArray, argTypes := ts }) (hx : S.ev X x0 = .bx s g 0) (hγ : S.γ s = g) (hσ : S.σ s = .box l)
    (hc : ContractRO X.Z f l l' A R E z n el) (hA : xs.map (S.ev X) = A) {t : Nat} (hd : o.dst = some t) {R' : D} (hR : renO p (S.γ p + 1) R = R')
    (hk : WL X ops rest Q ⟨upd S.ρ t R', upd S.γ p (S.γ p + 1), upd (upd S.σ s (.box l')) p (.arr E z n el)⟩) : WL X ops (o :: rest) Q S := fun κ sv a w hs => by
  subst hR
  obtain ⟨b, T, cs, he, hsv, hh, hrep, hac⟩ := box_cells hs hx hγ hσ
  have hblk : blk (S.σ s) (sv s) = some b := by rw [hσ, hsv]; rfl
  have hr := evs_rep hs xs
  rw [hA] at hr
  have hrun := run_call (P := X.Z.P) (a := a) (w := w) hc.body ho
  simp only [List.map_cons, he] at hrun
  have hcall := hc.calls w κ (xs.map a.eval) b T cs (Sim.fits hs.wld) (fun o => hs.wld.sep s b o hblk) hh (hrep.pure (fun _ _ _ h => h) hc.purel) (Sim.globOk hs.wld) (hr.pure (fun _ _ _ h => h) hc.pureA)
  refine wpListIn_plain hg fun K hK => op_call hrun hcall ?_
  rintro e w' ⟨v, sl, κ', cs', T', rfl, hh', hl', hv, k1, k2, k3, hown, hsep, hfr⟩
  have hgr : w.grownBy w' (some b) := ⟨hfr.os, hfr.tape, hfr.output, hfr.size, fun k hk hne => hfr.block k hk hne⟩
  have hle : Le κ κ' S.γ (upd S.γ p (S.γ p + 1)) sv (upd sv p sl) := by
    obtain ⟨a, b, c⟩ := le_renew κ S.γ sv p sl
    exact ⟨k1, b, c⟩
  have hnew : ∀ b', blk (.arr E z n el) sl = some b' → w.heap.size ≤ b' ∧ b' < w'.heap.size ∧ ∀ o, κ' b' o = none := fun b' hbk => by
    obtain ⟨xs, e1, _⟩ := hown
    rcases e1.2 with ⟨hv, _⟩ | ⟨b'', off, cap, cur, hv, hbase, hh, _⟩
    · simp only at hv; rw [hv] at hbk; cases hbk
    · simp only at hv
      rw [hv] at hbk; simp only [blk, Option.some.injEq] at hbk; subst hbk
      exact ⟨hbase, (Array.getElem?_eq_some_iff.1 hh).1, hsep b'' (by rw [hv]; rfl)⟩
  have hbt : ∀ t, t ≠ s → ∀ b', blk (S.σ t) (sv t) = some b' → w'.heap[b']? = w.heap[b']? := fun t ht b' hb' =>
    hgr.block b' (owns_lt (hs.wld.own t) hb') (fun e => ht (hs.wld.inj t s b' hb' (by rw [hblk]; exact e.symm)))
  have hbk : ∀ t b', blk (upd (upd S.σ s (.box l')) p (.arr E z n el) t) (upd sv p sl t) = some b' → (t = p ∧ blk (.arr E z n el) sl = some b') ∨ (t ≠ p ∧ blk (S.σ t) (sv t) = some b') := by
    intro t b' hb'
    by_cases e : t = p
    · subst e; rw [upd_same, upd_same] at hb'; exact .inl ⟨rfl, hb'⟩
    · rw [upd_ne _ _ _ _ e, upd_ne _ _ _ _ e] at hb'
      refine .inr ⟨e, ?_⟩
      by_cases e2 : t = s
      · subst e2; rw [upd_same, hsv] at hb'; rw [hblk]; exact hb'
      · rw [upd_ne _ _ _ _ e2] at hb'; exact hb'
  have hκb : ∀ o, κ' b o = none := fun o => by
    cases hk : κ' b o with
    | none => rfl
    | some u =>
      have h2 := k2 b o u (owns_lt (hs.wld.own s) hblk) hk
      rw [hs.wld.sep s b o hblk] at h2; cases h2
  have hW : SimW X κ' (upd sv p sl) ⟨S.ρ, upd S.γ p (S.γ p + 1), upd (upd S.σ s (.box l')) p (.arr E z n el)⟩ w' := by
    have h0 := hs.wld
    obtain ⟨h1, h2, h3, h4, h5, _, h7, h8, h9, h10, h11, h12, h13, h14⟩ := hs.wld
    refine ⟨k3, fun t => ?_, fun t u b' ht hu => ?_, fun t b' o ht => ?_, fun t b' ht => ?_, frame_step h0 hgr (fun b' e => ⟨s, by rw [hblk]; exact e⟩) (fun t b' ht => ?_), fun g l hgl => ?_, fun b' o v hlt hk => k2 b' o v (Nat.lt_of_lt_of_le hlt h10) hk |> h8 b' o v hlt, fun b' hb' => ?_, Nat.le_trans h10 hgr.size, h11.trans hle, fun b' o v hk hT => ?_, fun t b' ht hT => ?_, fun b' h => Nat.lt_of_lt_of_le (h14 b' h) hgr.size⟩
    · by_cases e : t = p
      · subst e
        simp only [upd_same]
        obtain ⟨xs, e1, e2, e3, e4⟩ := hown
        exact ⟨xs, by rw [upd_same]; exact owns_base e1 h10, e2, e3, fun i hi => (e4 i hi).pure (fun _ _ _ h => h) (hc.pureE i hi)⟩
      · simp only [upd_ne _ _ _ _ e]
        by_cases e2 : t = s
        · subst e2; simp only [upd_same]
          exact ⟨b, T', cs', by rw [upd_ne _ _ _ _ e]; exact hsv, hh', hl'.pure (fun _ _ _ h => h) hc.purel', hc.cell'⟩
        · simp only [upd_ne _ _ _ _ e2]
          exact owns_mono hle (upd_ne _ _ _ _ e) (hbt t e2) (h2 t)
    · simp only at ht hu
      rcases hbk t b' ht with ⟨rfl, a1⟩ | ⟨e1, a1⟩ <;> rcases hbk u b' hu with ⟨rfl, a2⟩ | ⟨e2, a2⟩
      · rfl
      · have := owns_lt (h2 u) a2; have := (hnew b' a1).1; omega
      · have := owns_lt (h2 t) a1; have := (hnew b' a2).1; omega
      · exact h3 t u b' a1 a2
    · simp only at ht
      rcases hbk t b' ht with ⟨rfl, a1⟩ | ⟨e1, a1⟩
      · exact (hnew b' a1).2.2 o
      · cases hk : κ' b' o with
        | none => rfl
        | some v => have h20 := k2 b' o v (owns_lt (h2 t) a1) hk; rw [h4 t b' o a1] at h20; cases h20
    · simp only at ht
      rcases hbk t b' ht with ⟨rfl, a1⟩ | ⟨e1, a1⟩
      · exact .inl (Nat.le_trans h10 (hnew b' a1).1)
      · exact h5 t b' a1
    · rcases hbk t b' ht with ⟨rfl, a1⟩ | ⟨e1, a1⟩
      · exact .inl (hnew b' a1).1
      · exact .inr ⟨t, a1⟩
    · obtain ⟨hc2, u, hu, hk⟩ := h7 g l hgl
      exact ⟨hc2, u, hu.mono hle, fun j v hj => k1 _ _ _ (hk j v hj)⟩
    · obtain ⟨e1, e2⟩ := h9 b' hb'
      by_cases e : 0 = p
      · subst e; simp only [upd_same]; exact ⟨by omega, fun e => by omega⟩
      · simp only [upd_ne _ _ _ _ e]; exact ⟨e1, e2⟩
    · by_cases e : b' < w.heap.size
      · exact h12 b' o v (k2 b' o v e hk) hT
      · have := h14 b' hT; omega
    · simp only at ht
      rcases hbk t b' ht with ⟨rfl, a1⟩ | ⟨e1, a1⟩
      · have := h14 b' hT; have := (hnew b' a1).1; omega
      · exact h13 t b' a1 hT
  have hs' : Sim X κ' (upd sv p sl) ⟨S.ρ, upd S.γ p (S.γ p + 1), upd (upd S.σ s (.box l')) p (.arr E z n el)⟩ a w' := ⟨hs.size, dfr_own hs s (by rw [hblk]; exact hgr), fun i hi => (hs.slot i hi).mono hle, hW⟩
  refine ⟨v, rfl, ?_⟩
  rw [hd]
  exact hK _ _ (hk κ' _ _ w' (hs'.put (some t) (rep_ren (p := 0) (g := 1) (fun _ _ _ h => h) rfl (upd_same _ _ _) (upd_same _ _ _) hc.poR hv)))
end
end Go.Ab
namespace Go.Ab
open Go Go.RowKit
set_option linter.all false
section
variable {X : Ctx} {o : Oper} {S : St} {x : Operand}
theorem q_slV {T E : TypeId} {r q : TRow} {s g z n i j : Nat} {f : Nat → List D} {lo hi : Option Operand} (ho : o.op = .slice T x lo hi none) (hx : S.ev X x = .os s g) (hg : S.γ s = g) (hσ : S.σ s = .arr E z n f)
    (hlo : bndd X S lo i 0) (hhi : bndd X S hi j n) (hij : i ≤ j) (hjn : j ≤ n)
    (hr : nth X.Z.tab T = some r) (hk : Nat.beq r.k 3 = true) (hq : nth X.Z.tab r.el = some q) (hq9 : Nat.beq q.k 9 = false) (hz : q.sz = z) :
    QOp X o S (.ow s g z i (j - i)) := fun κ sv a w hs => by
  subst hz
  have hokr := X.Z.tabOk _ _ hr (by intro e; rw [e] at hk; cases hk)
  have hokq := X.Z.tabOk _ _ hq (by intro e; rw [e] at hq9; cases hq9)
  have hu := slice_row hokr hk
  have hown0 := hs.wld.own s
  rw [hσ] at hown0
  obtain ⟨xs, hown, _⟩ := hown0
  have hxv := hs.ev x
  rw [hx] at hxv
  have hxe : a.eval x = sv s := by
    generalize a.eval x = v at hxv
    cases hxv with
    | os _ _ _ _ hh _ => exact hh hg.symm
  have fin : ∀ (ad : Option Addr) (cap : Nat), sv s = .slice ad n cap → n ≤ cap → (Value.slice (if cap = i then ad else ad.map (·.add (i * q.sz))) (j - i) (cap - i)).oneCell' = true →
      ∃ v, Rep κ S.γ sv (.ow s g q.sz i (j - i)) v ∧ ∀ w', Below w.heap.size w w' → (execOp a.eval o).run X.Z.P w' = .ok (.value v) w' := fun ad cap he hnc h1c => by
    refine ⟨_, .ow s g q.sz i (j - i) _ (by omega) (fun _ => ⟨ad, n, cap, he, rfl⟩) h1c, fun w' _ => ?_⟩
    have := run_sliceAt (P := X.Z.P) (w := w') (a := ad) (len := n) (cap := cap) hu hokq (hlo.v hs) (hhi.v hs) hij (by omega)
    simp only [execOp, ho, hxe, he, Option.map_none]
    simp [this]
  rcases hown.2 with ⟨hv, hn⟩ | ⟨b, off, cap, cur, hv, _, _, hnc, _⟩
  · refine fin none 0 (by rw [hv, hn]) (by omega) ?_
    split <;> rfl
  · refine fin _ cap hv hnc ?_
    split <;> rfl
theorem n_appV {T E : TypeId} {r q : TRow} {x y : Operand} {s g z n k c m t n' : Nat} {f f' : Nat → List D} {ts : Array TypeId} (ho : o.op = .call { callee := .builtin .append, args := #[x, y], argTypes := ts }) (hts : ts = #[T, T]) (hd : o.dst = some t)
    (hx : S.ev X x = .ow s g z 0 k) (hy : S.ev X y = .ow s g z c m) (hg : S.γ s = g) (hσ : S.σ s = .arr E z n f) (hkn : k ≤ n) (hcn : c + m ≤ n) (hkm : k + m ≤ n)
    (hr : nth X.Z.tab T = some r) (hk : Nat.beq r.k 3 = true) (hE : r.el = E) (hq : nth X.Z.tab E = some q) (hq9 : Nat.beq q.k 9 = false) (hz : q.sz = z) (hzs : Nat.beq q.zs.length z = true) (hz0 : Nat.beq z 0 = false)
    (hb : (k + m) * q.bytes ≤ 140737488355328) (hm : k + m ≤ 140737488355328) (hn' : n' = k + m) (h1 : ∀ i, i < k → f' i = f i) (h2 : ∀ i, i < m → f' (k + i) = f (c + i)) :
    NOp X o S (S.owned t s (.arr E z n' f')) := fun κ sv a w hs => by
  subst hts hn'
  have hokr := X.Z.tabOk _ _ hr (by intro e; rw [e] at hk; cases hk)
  have hokq := X.Z.tabOk _ _ hq (by intro e; rw [e] at hq9; cases hq9)
  obtain ⟨iq, dq, hiq, hdq, hsq, hbq, ⟨zv, hzv, hzf⟩, _⟩ := row_info hokq
  have hu := slice_row hokr hk
  rw [hE] at hu
  have hown0 := hs.wld.own s
  rw [hσ] at hown0
  obtain ⟨xs, hown, hfl, hfc, hfr⟩ := hown0
  have hxv := hs.ev x
  have hyv := hs.ev y
  rw [hx] at hxv
  rw [hy] at hyv
  have hzl : zv.cells.size = z := by have := zr_len hzf; have h2 := Nat.eq_of_beq_eq_true hzs; simp at this; omega
  have hz1 : 0 < z := by
    cases z with
    | zero => cases hz0
    | succ z => omega
  have hle : ∀ pv, Le κ κ S.γ (upd S.γ s (S.γ s + 1)) sv (upd sv s pv) := le_renew κ S.γ sv s
  have hxl : xs.length = n * z := hown.1
  rw [hd]
  have hxe : ∃ ad N cap, sv s = .slice ad N cap ∧ a.eval x = .slice (if cap = 0 then ad else ad.map (·.add (0 * z))) k (cap - 0) := by
    generalize a.eval x = v at hxv
    cases hxv with
    | ow _ _ _ _ _ _ _ hh _ => exact hh hg.symm
  have hye : ∃ ad N cap, sv s = .slice ad N cap ∧ a.eval y = .slice (if cap = c then ad else ad.map (·.add (c * z))) m (cap - c) := by
    generalize a.eval y = v at hyv
    cases hyv with
    | ow _ _ _ _ _ _ _ hh _ => exact hh hg.symm
  obtain ⟨ad, N, cap, hv, hxe⟩ := hxe
  obtain ⟨ad2, N2, cap2, hv2, hye⟩ := hye
  rw [hv] at hv2
  simp only [Value.slice.injEq] at hv2
  obtain ⟨rfl, rfl, rfl⟩ := hv2
  rcases hown.2 with ⟨hv0, hn0⟩ | ⟨b, off, cap', cur, hv', hbase, hh, hnc, hcm, hcs, htake⟩
  · rw [hv0] at hv
    simp only [Value.slice.injEq] at hv
    obtain ⟨rfl, rfl, rfl⟩ := hv
    have hk0 : k = 0 := by omega
    have hm0 : m = 0 := by omega
    have hc0 : c = 0 := by omega
    subst hk0 hm0 hc0
    have hxe' : a.eval x = .slice none 0 0 := by rw [hxe]; rfl
    have hye' : a.eval y = .slice none 0 0 := by rw [hye]; rfl
    have hrun := run_append_none (P := X.Z.P) (w := w) X.w0.heap.size T o.type E iq z hu hiq (.slice none 0 0) 0 [] ⟨by simp, .inl ⟨rfl, rfl⟩⟩
    refine ⟨.slice none 0 0, w, κ, _, .inl ?_, sim_owned hs t s (pv := .slice none 0 0) rfl (below_grown (Below.refl _ _) _) (fun b hb => by cases hb) ?_⟩
    · simp [execOp, ho, resolve, invoke, builtin, hxe', hye', hrun]
    · exact ⟨[], by rw [upd_same]; exact ⟨by simp, .inl ⟨rfl, rfl⟩⟩, fun i hi => by omega, fun i hi => by omega, fun i hi => by omega⟩
  · rw [hv'] at hv
    simp only [Value.slice.injEq] at hv
    obtain ⟨rfl, rfl, rfl⟩ := hv
    have hkz : k * z ≤ n * z := Nat.mul_le_mul_right _ hkn
    have hcz : c * z + m * z ≤ n * z := by rw [← Nat.add_mul]; exact Nat.mul_le_mul_right _ hcn
    have hxe' : a.eval x = .slice (some ⟨b, off, none⟩) k cap' := by
      rw [hxe]
      by_cases h0 : cap' = 0
      · rw [if_pos h0]; simp
      · rw [if_neg h0]; simp [addr_add]
    have hownk : ownsAt w X.w0.heap.size E z (.slice (some ⟨b, off, none⟩) k cap') k (xs.take (k * z)) := by
      refine ⟨by simp; omega, .inr ⟨b, off, cap', cur, rfl, hbase, hh, by omega, hcm, hcs, ?_⟩⟩
      rw [← htake, List.take_take, Nat.min_eq_left hkz]
    have hcells : ∀ j u, xs[j]? = some u → w.cell? ⟨b, off + j, none⟩ = some u := fun j u hj => by
      have := (show ownsAt w X.w0.heap.size E z (.slice (some ⟨b, off, none⟩) n cap') n xs from ⟨hown.1, .inr ⟨b, off, cap', cur, rfl, hbase, hh, hnc, hcm, hcs, htake⟩⟩).cells j u hj
      rwa [addr_add] at this
    obtain ⟨news, hnews⟩ : ∃ l, (xs.drop (c * z)).take (m * z) = l := ⟨_, rfl⟩
    have hnl : news.length = m * z := by rw [← hnews]; simp; omega
    have hng : ∀ j u, news[j]? = some u → xs[c * z + j]? = some u := fun j u hj => by
      have hjl := (List.getElem?_eq_some_iff.1 hj).1
      rw [← hnews, List.getElem?_take, if_pos (by omega), List.getElem?_drop] at hj
      exact hj
    have hone : ∀ (j : Nat) (u : Value), xs[j]? = some u → u.oneCell' = true := fun j u hj => by
      have hjl := (List.getElem?_eq_some_iff.1 hj).1
      have hkk : j % z < z := Nat.mod_lt _ hz1
      have hi : j / z < n := (Nat.div_lt_iff_lt_mul hz1).2 (by omega)
      have e : j = j / z * z + j % z := by rw [Nat.mul_comm]; exact (Nat.div_add_mod j z).symm
      refine RepL.oneCells (hfr _ hi) (hfc _ hi) u ?_
      refine List.mem_of_getElem? (i := j % z) ?_
      rw [List.getElem?_take, if_pos hkk, List.getElem?_drop, ← e]; exact hj
    have hchunk : ∀ i, i < m → (news.drop (i * z)).take z = (xs.drop ((c + i) * z)).take z := fun i hi => by
      have h1 : i * z + z ≤ m * z := by have := Nat.mul_le_mul_right z (show i + 1 ≤ m by omega); rw [Nat.add_mul] at this; omega
      rw [← hnews, List.drop_take, List.take_take, Nat.min_eq_left (by omega), List.drop_drop, Nat.add_mul]
    obtain ⟨ya, yc, hye', hycell⟩ : ∃ ya yc, a.eval y = .slice (some ya) m yc ∧ ∀ j u, news[j]? = some u → w.cell? (ya.add j) = some u := by
      by_cases h0 : cap' = c
      · have hm0 : m = 0 := by omega
        refine ⟨⟨b, off, none⟩, cap' - c, by rw [hye, if_pos h0], fun j u hj => ?_⟩
        have := (List.getElem?_eq_some_iff.1 hj).1
        rw [hnl, hm0] at this; omega
      · refine ⟨⟨b, off + c * z, none⟩, cap' - c, by rw [hye, if_neg h0]; simp [addr_add], fun j u hj => ?_⟩
        rw [addr_add, Nat.add_assoc]
        exact hcells _ _ (hng j u hj)
    obtain ⟨v', w', hrun, hown', hgr, hwh⟩ := run_append_where (P := X.Z.P) (w := w) X.w0.heap.size T o.type E iq zv z q.bytes hu hiq hzv (by rw [hsq, hz]) (by rw [hbq]) hzl hz1 (.slice (some ⟨b, off, none⟩) k cap') k (xs.take (k * z)) hownk ya m yc news hnl
      hycell (fun v hv => by
        obtain ⟨j, hj⟩ := List.getElem?_of_mem hv
        exact hone _ _ (hng j v hj)) (by unfold maxLen; omega) hb hs.wld.base
    have hob : (Value.slice (some (⟨b, off, none⟩ : Addr)) k cap').ownBlock = blk (S.σ s) (sv s) := by rw [hσ, hv']; rfl
    rw [hob] at hgr
    have hxk : (xs.take (k * z)).length = k * z := by simp; omega
    refine ⟨v', w', κ, _, .inl ?_, sim_owned hs t s (pv := v') ?_ hgr (fun b' hb' => ?_) ?_⟩
    · simp [execOp, ho, resolve, invoke, builtin, hxe', hye', hrun]
    · rcases hown'.2 with ⟨e, _⟩ | ⟨_, _, _, _, e, _⟩ <;> rw [e] <;> rfl
    · rw [← hob]
      refine hwh b' ?_
      rcases hown'.2 with ⟨e, _⟩ | ⟨_, _, _, _, e, _⟩ <;> (rw [e] at hb' ⊢; exact hb')
    · refine ⟨_, by rw [upd_same]; exact hown', fun i hi => ?_, fun i hi => ?_, fun i hi => ?_⟩
      · by_cases hin : i < k
        · rw [h1 i hin]; exact hfl i (by omega)
        · obtain ⟨p, rfl⟩ : ∃ p, i = k + p := ⟨i - k, by omega⟩
          rw [h2 p (by omega)]; exact hfl _ (by omega)
      · by_cases hin : i < k
        · rw [h1 i hin]; exact hfc i (by omega)
        · obtain ⟨p, rfl⟩ : ∃ p, i = k + p := ⟨i - k, by omega⟩
          rw [h2 p (by omega)]; exact hfc _ (by omega)
      · by_cases hin : i < k
        · rw [h1 i hin, append_chunkL hxk hin]
          have hiz : i * z + z ≤ k * z := by have := Nat.mul_le_mul_right z (show i + 1 ≤ k by omega); rw [Nat.add_mul] at this; omega
          rw [List.drop_take, List.take_take, Nat.min_eq_left (by omega)]
          exact (hfr i (by omega)).mono (hle _)
        · obtain ⟨p, rfl⟩ : ∃ p, i = k + p := ⟨i - k, by omega⟩
          rw [h2 p (by omega), append_chunkR hxk, hchunk p (by omega)]
          exact (hfr _ (by omega)).mono (hle _)
end
end Go.Ab
namespace Go.Ab
open Go Go.RowKit
set_option linter.all false
def gM (n : Nat) : Nat → Nat := fun i => bif Nat.blt i n then 1 else 0
def svM (bs : Nat → Nat) : Nat → Value := fun i => .pointer (some ⟨bs i, 0, none⟩)
theorem gM_lt {n i : Nat} (h : i < n) : gM n i = 1 := by
  unfold gM; have : Nat.blt i n = true := by rw [Nat.blt_eq]; exact h
  rw [this]; rfl
mutual
inductive Rn (n : Nat) (p g p' g' : Nat → Nat) : D → D → Prop
  | pure (d : D) : Pure d → Rn n p g p' g' d d
  | bx (i o : Nat) : i < n → Rn n p g p' g' (.bx (p i) (g i) o) (.bx (p' i) (g' i) o)
  | agg (l l' : List D) : RnL n p g p' g' l l' → Rn n p g p' g' (.agg l) (.agg l')
  | fn (f : FuncId) (c c' : List D) : RnL n p g p' g' c c' → Rn n p g p' g' (.fn f c) (.fn f c')
inductive RnL (n : Nat) (p g p' g' : Nat → Nat) : List D → List D → Prop
  | nil : RnL n p g p' g' [] []
  | cons (d d' : D) (l l' : List D) : Rn n p g p' g' d d' → RnL n p g p' g' l l' → RnL n p g p' g' (d :: l) (d' :: l')
end
section
variable {κ κ' : Nat → Nat → Option Value} {γ γ' : Nat → Nat} {sv sv' : Nat → Value} {n : Nat} {p g p' g' : Nat → Nat}
mutual
theorem Rn.rep (hκ : ∀ b o v, κ b o = some v → κ' b o = some v) (h1 : ∀ i, i < n → γ (p i) = g i) (h2 : ∀ i, i < n → γ' (p' i) = g' i) (h3 : ∀ i, i < n → sv (p i) = sv' (p' i)) : ∀ {d d' : D} {v : Value}, Rn n p g p' g' d d' → Rep κ γ sv d v → Rep κ' γ' sv' d' v
  | _, _, _, .pure d hd, hr => hr.pure hκ hd
  | _, _, _, .bx i o hi, hr => by
    cases hr with
    | bx _ _ _ _ a b c =>
      obtain ⟨b1, e1, e2⟩ := b (h1 i hi).symm
      exact .bx _ _ _ _ (Nat.le_of_eq (h2 i hi).symm) (fun _ => ⟨b1, by rw [← h3 i hi]; exact e1, e2⟩) c
  | _, _, _, .agg l l' hl, hr => by
    cases hr with
    | agg _ vs hv => exact .agg _ _ (RnL.rep hκ h1 h2 h3 hl hv)
  | _, _, _, .fn f c c' hl, hr => by
    cases hr with
    | fn _ _ vs hv => exact .fn _ _ _ (RnL.rep hκ h1 h2 h3 hl hv)
theorem RnL.rep (hκ : ∀ b o v, κ b o = some v → κ' b o = some v) (h1 : ∀ i, i < n → γ (p i) = g i) (h2 : ∀ i, i < n → γ' (p' i) = g' i) (h3 : ∀ i, i < n → sv (p i) = sv' (p' i)) : ∀ {l l' : List D} {vs : List Value}, RnL n p g p' g' l l' → RepL κ γ sv l vs → RepL κ' γ' sv' l' vs
  | _, _, _, .nil, hr => by cases hr; exact .nil
  | _, _, _, .cons d d' l l' a b, hr => by
    cases hr with
    | cons _ _ _ _ r1 r2 => exact .cons _ _ _ _ (Rn.rep hκ h1 h2 h3 a r1) (RnL.rep hκ h1 h2 h3 b r2)
end
end
theorem rn_cell {n : Nat} {p g p' g' : Nat → Nat} {d d' : D} (h : Rn n p g p' g' d d') : d'.isCell = d.isCell := by cases h <;> rfl
theorem rnL_cell {n : Nat} {p g p' g' : Nat → Nat} : ∀ {l l' : List D}, RnL n p g p' g' l l' → allCell l = true → allCell l' = true
  | _, _, .nil, h => h
  | _, _, .cons d d' l l' a b, h => by
    simp only [allCell, Bool.and_eq_true] at h ⊢
    exact ⟨by rw [rn_cell a]; exact h.1, rnL_cell b h.2⟩
structure FrameM (n : Nat) (bs : Nat → Nat) (w w' : World) : Prop where
  os : w'.os = w.os
  tape : w'.tape = w.tape
  output : w'.output = w.output
  size : w.heap.size ≤ w'.heap.size
  block : ∀ k, k < w.heap.size → (∀ i, i < n → bs i ≠ k) → w'.heap[k]? = w.heap[k]?
theorem FrameM.refl (n : Nat) (bs : Nat → Nat) (w : World) : FrameM n bs w w := ⟨rfl, rfl, rfl, Nat.le_refl _, fun _ _ _ => rfl⟩
def idp : Nat → Nat := fun i => i
def one : Nat → Nat := fun _ => 1
structure ContractM (Z : Seat) (f : FuncId) (n : Nat) (ls ls' : Nat → List D) (A : List D) (R : D) : Prop where
  pureR : Pure R
  cell' : ∀ i, i < n → allCell (ls' i) = true
  body : HasBody Z.P f
  calls : ∀ (w : World) (κ : Nat → Nat → Option Value) (bs : Nat → Nat) (args : List Value), (∀ i j, i < n → j < n → bs i = bs j → i = j) → Fits κ w → (∀ i, i < n → ∀ o, κ (bs i) o = none) → GlobOk Z κ →
    (∀ i, i < n → ∃ T cs, w.heap[bs i]? = some (.cells (List.toArray cs) T (0, 0)) ∧ RepL κ (gM n) (svM bs) (ls i) cs ∧ allCell (ls i) = true) → RepL κ (gM n) (svM bs) A args →
    Calls Z.P f args.toArray w fun e w' => ∃ v, e = .returned v ∧ Rep (growK κ w w') γ0 sv0 R v ∧ (∀ i, i < n → ∃ T cs, w'.heap[bs i]? = some (.cells (List.toArray cs) T (0, 0)) ∧ RepL (growK κ w w') (gM n) (svM bs) (ls' i) cs) ∧ FrameM n bs w w'
def multiF (w0 : World) (n : Nat) (bs : Nat → Nat) (M : Nat → Prop) (w : World) : Prop := FrameM n bs w0 w ∧ ∀ k, M k → w0.heap.size ≤ k ∨ ∃ i, i < n ∧ bs i = k
theorem multi_cl (w0 : World) (n : Nat) (bs : Nat → Nat) : ∀ M w w', multiF w0 n bs M w → Step M w w' → multiF w0 n bs (fun k => M k ∨ w.heap.size ≤ k) w' := fun M w w' h hs =>
  ⟨⟨hs.os.trans h.1.os, hs.tape.trans h.1.tape, hs.output.trans h.1.output, Nat.le_trans h.1.size hs.size, fun k hk he =>
    (hs.block k (Nat.lt_of_lt_of_le hk h.1.size) (fun hm => by
      rcases h.2 k hm with h8 | ⟨i, h8, h9⟩
      · omega
      · exact he i h8 h9)).trans (h.1.block k hk he)⟩,
    fun k hk => by
      rcases hk with hk | hk
      · exact h.2 k hk
      · exact .inl (Nat.le_trans h.1.size hk)⟩
theorem multi_turn {w0 : World} {n : Nat} {bs : Nat → Nat} : ∀ M w w' D, multiF w0 n bs M w → w.grownBy w' (some D) → w0.heap.size ≤ D → multiF w0 n bs M w' := fun M w w' D h1 hg hD =>
  ⟨⟨hg.os.trans h1.1.os, hg.tape.trans h1.1.tape, hg.output.trans h1.1.output, Nat.le_trans h1.1.size hg.size, fun k hk he =>
    (hg.block k (Nat.lt_of_lt_of_le hk h1.1.size) (fun e => by simp only [Option.some.injEq] at e; omega)).trans (h1.1.block k hk he)⟩, h1.2⟩
def Ctx.multi (Z : Seat) (nt : Nat) (w0 : World) (κ0 : Nat → Nat → Option Value) (n : Nat) (bs : Nat → Nat) : Ctx := ⟨Z, nt, w0, κ0, none, fun b => ∃ i, i < n ∧ bs i = b, fun _ _ => none, gM n, svM bs, fun _ => False, false, none, multiF w0 n bs, multi_cl w0 n bs⟩
def boxF (n : Nat) (ls : Nat → List D) : Nat → Own := fun i => bif Nat.blt i n then .box (ls i) else .none
theorem boxF_lt {n i : Nat} {ls : Nat → List D} (h : i < n) : boxF n ls i = .box (ls i) := by
  unfold boxF; have : Nat.blt i n = true := by rw [Nat.blt_eq]; exact h
  rw [this]; rfl
theorem boxF_ge {n i : Nat} {ls : Nat → List D} (h : ¬ i < n) : boxF n ls i = .none := by
  unfold boxF
  have : Nat.blt i n = false := by
    cases hb : Nat.blt i n
    · rfl
    · rw [Nat.blt_eq] at hb; exact absurd hb h
  rw [this]; rfl
def St.initM (n : Nat) (ls : Nat → List D) (A : List D) : St := ⟨fun i => match nth A i with | some d => d | none => .undef, gM n, boxF n ls⟩
def FinM (X : Ctx) (rs : List ResultVar) (n : Nat) (ls' : Nat → List D) (R : D) : Exit → St → Prop
  | .normal, S | .ret, S => ∃ S' ds, Wk X S S' ∧ (∀ i, i < n → S'.γ i = 1 ∧ ∃ l, S'.σ i = .box l ∧ ∀ κ γ sv vs, RepL κ γ sv l vs → RepL κ γ sv (ls' i) vs) ∧ ResL X S' rs ds ∧ tupOf ds = R
  | _, _ => False
theorem contractM_intro {Z : Seat} {f : FuncId} {fn : Func} {c : Code} {n : Nat} {ls ls' : Nat → List D} {A : List D} {R : D} (hf : Z.P.funcs[f]? = some fn) (hb : fn.body = some c) (hname : (fn.name == "runtime.NumGoroutine") = false) (hn : Nat.ble A.length fn.ntmps = true)
    (hc' : ∀ i, i < n → allCell (ls' i) = true) (ht' : ∀ i, i < n → RnL n idp one idp one (ls' i) (ls' i)) (hR : Pure R)
    (h : ∀ w κ bs, W (Ctx.multi Z fn.ntmps w κ n bs) c (FinM (Ctx.multi Z fn.ntmps w κ n bs) fn.results.toList n ls' R) (St.initM n ls A)) : ContractM Z f n ls ls' A R := by
  refine ⟨hR, hc', ⟨fn, c, hf, hb, hname⟩, fun w κ bs args hinj hκ hκb hglob hbox hrep => ?_⟩
  refine (callsIn_wide (n := 0)).1 (callsIn_of_wp_marks hf hb trivial ?_ rfl)
  have hlen : A.length ≤ fn.ntmps := Nat.le_of_ble_eq_true hn
  have hal := hrep.length
  have hσ : ∀ s b', blk (boxF n ls s) (svM bs s) = some b' → s < n ∧ b' = bs s := by
    intro s b' hs
    by_cases e : s < n
    · rw [boxF_lt e] at hs
      simp only [svM, blk, Option.some.injEq] at hs
      exact ⟨e, hs.symm⟩
    · rw [boxF_ge e] at hs; cases hs
  have hsim : Sim (Ctx.multi Z fn.ntmps w κ n bs) κ (svM bs) (St.initM n ls A) { tmps := args.toArray ++ Array.replicate (fn.ntmps - args.toArray.size) Go.undef, defers := [] } w := by
    refine ⟨by simp [Ctx.multi]; omega, Dfr.nil rfl, fun i _ => slot_init hrep _ i, ?_⟩
    refine ⟨hκ, fun s => ?_, fun s t b' hs ht => ?_, fun s b' o hs => ?_, fun s b' hs => .inr (.inr ⟨s, (hσ s b' hs).1, (hσ s b' hs).2.symm⟩), ⟨fun k => ∃ i, i < n ∧ bs i = k, ⟨FrameM.refl _ _ _, fun k h => .inr h⟩, fun s b' hs => ⟨s, (hσ s b' hs).1, (hσ s b' hs).2.symm⟩⟩, fun g l hg => ?_, fun b o v _ hk => hk, (fun b' hb' => by cases hb'), Nat.le_refl _, ⟨fun _ _ _ h => (by cases h), fun _ => Nat.le_refl _, fun _ _ => rfl⟩, fun _ _ _ _ h => h, fun _ _ _ h => h, fun _ h => h.elim⟩
    · show Owns _ _ _ _ _ s (boxF n ls s)
      by_cases e : s < n
      · rw [boxF_lt e]
        obtain ⟨T, cs, h1, h2, h3⟩ := hbox s e
        exact ⟨bs s, T, cs, rfl, h1, h2, h3⟩
      · rw [boxF_ge e]; trivial
    · obtain ⟨h1, h2⟩ := hσ s b' hs
      obtain ⟨h3, h4⟩ := hσ t b' ht
      exact hinj s t h1 h3 (h2.symm.trans h4)
    · obtain ⟨h1, h2⟩ := hσ s b' hs
      rw [h2]; exact hκb s h1 o
    · obtain ⟨h1, u, h2, h3⟩ := hglob g l hg
      exact ⟨h1, u, h2.pure (fun _ _ _ h => h) (Z.globPure g l hg), h3⟩
  refine wpIn_mono (h w κ bs κ (svM bs) _ w hsim) ?_
  rintro e a' w' ⟨κ', sv', S', hs, hq⟩
  cases e <;> first | exact hq.elim | skip
  all_goals
    obtain ⟨S2, ds, hw, hbx, hd, rfl⟩ := hq
    obtain ⟨κ2, sv2, hs⟩ := hw _ _ _ _ hs
    obtain ⟨Ds, d1, d2, d3, _⟩ := hs.defers
    show LeavesInM _ _ _ _ _ _ a'.defers _ _
    rw [d1]
    refine leaves_of rfl multi_turn hd (fun a w v hs h2 => ?_) Ds a' w' hs d1 d2 d3
    obtain ⟨M, h1, _⟩ := hs.wld.frame
    have hpin : ∀ i, i < n → sv2 i = svM bs i := fun i hi => hs.wld.le.vals i (show gM n i = S2.γ i from by rw [gM_lt hi, (hbx i hi).1])
    refine ⟨v, rfl, h2.pure (fits_grow hs.wld) hR, fun i hi => ?_, h1.1⟩
    obtain ⟨hγ, l, hσi, hconv⟩ := hbx i hi
    have hown := hs.wld.own i
    rw [hσi] at hown
    obtain ⟨b2, T2, cs2, e1, e2, e3, e4⟩ := hown
    rw [hpin i hi] at e1
    simp only [svM, Value.pointer.injEq, Option.some.injEq, Addr.mk.injEq, and_true] at e1
    subst e1
    exact ⟨T2, cs2, e2, (ht' i hi).rep (fits_grow hs.wld) (fun j hj => (hbx j hj).1) (fun j hj => gM_lt hj) (fun j hj => hpin j hj) (hconv _ _ _ _ e3)⟩
section
variable {X : Ctx} {Q : Exit → St → Prop} {S : St} {ops : Array Oper} {o : Oper} {rest : List Oper}
theorem WL_callM {f : FuncId} {x : Operand} {xs : Array Operand} {ts : Array TypeId} {n : Nat} {ps : Nat → Nat} {ls ls' : Nat → List D} {c A : List D} {R : D} (hinj : ∀ i j, i < n → j < n → ps i = ps j → i = j) (hg : o.guard = none) (ho : o.op = .call { callee := .value x, args := xs, argTypes := ts })
    (hx : S.ev X x = .fn f c) (hbox : ∀ i, i < n → ∃ l, S.σ (ps i) = .box l ∧ RnL n ps (fun j => S.γ (ps j)) idp one l (ls i)) (hA : RnL n ps (fun j => S.γ (ps j)) idp one (xs.toList.map (S.ev X) ++ c) A)
    (hc : ContractM X.Z f n ls ls' A R) {t : Nat} (hd : o.dst = some t) {σ' : Nat → Own} (hσ1 : ∀ s, (∀ i, i < n → ps i ≠ s) → σ' s = S.σ s) (hσ2 : ∀ i, i < n → ∃ l, σ' (ps i) = .box l ∧ RnL n idp one ps (fun j => S.γ (ps j)) (ls' i) l)
    (hk : WL X ops rest Q ⟨upd S.ρ t R, S.γ, σ'⟩) : WL X ops (o :: rest) Q S := fun κ sv a w hs => by
  obtain ⟨lb, hl1, hl2⟩ := ev_fn hs hx
  have hrun := run_callv (w := w) hc.body ho hl1
  have hr := (evs_rep hs xs.toList).append hl2
  have hex : ∀ i, ∃ b, i < n → sv (ps i) = .pointer (some ⟨b, 0, none⟩) ∧ blk (S.σ (ps i)) (sv (ps i)) = some b := fun i => by
    by_cases e : i < n
    · obtain ⟨l, h1, _⟩ := hbox i e
      have hown := hs.wld.own (ps i)
      rw [h1] at hown
      obtain ⟨b, T, cs, e1, _⟩ := hown
      exact ⟨b, fun _ => ⟨e1, by rw [h1, e1]; rfl⟩⟩
    · exact ⟨0, fun h => absurd h e⟩
  let bs : Nat → Nat := fun i => (hex i).choose
  have hbs : ∀ i, i < n → sv (ps i) = .pointer (some ⟨bs i, 0, none⟩) ∧ blk (S.σ (ps i)) (sv (ps i)) = some (bs i) := fun i => (hex i).choose_spec
  have hbi : ∀ i j, i < n → j < n → bs i = bs j → i = j := fun i j hi hj e => hinj i j hi hj (hs.wld.inj _ _ (bs i) (hbs i hi).2 (by rw [e]; exact (hbs j hj).2))
  have hsvp : ∀ i, i < n → sv (ps i) = svM bs (idp i) := fun i hi => (hbs i hi).1
  have hcall := hc.calls w κ bs _ hbi (Sim.fits hs.wld) (fun i hi o => hs.wld.sep _ _ o (hbs i hi).2) (Sim.globOk hs.wld) (fun i hi => by
    obtain ⟨l, h1, h2⟩ := hbox i hi
    have hown := hs.wld.own (ps i)
    rw [h1] at hown
    obtain ⟨b, T, cs, e1, e2, e3, e4⟩ := hown
    rw [(hbs i hi).1] at e1
    simp only [Value.pointer.injEq, Option.some.injEq, Addr.mk.injEq, and_true] at e1
    subst e1
    have hr2 : RepL κ (gM n) (svM bs) (ls i) cs := h2.rep (fun _ _ _ h => h) (fun _ _ => rfl) (fun j hj => gM_lt hj) hsvp e3
    refine ⟨T, cs, e2, hr2, ?_⟩
    exact rnL_cell h2 e4) (hA.rep (fun _ _ _ h => h) (fun _ _ => rfl) (fun j hj => gM_lt hj) hsvp hr)
  refine wpListIn_plain hg fun K hK => op_call hrun hcall ?_
  rintro e w' ⟨v, rfl, hv, hnew, hfr⟩
  have hle : Le κ (growK κ w w') S.γ S.γ sv sv := le_growK hs.wld.imm w'
  have hno : ∀ s, (∀ i, i < n → ps i ≠ s) → ∀ b', blk (S.σ s) (sv s) = some b' → w'.heap[b']? = w.heap[b']? := fun s hns b' hb' =>
    hfr.block b' (owns_lt (hs.wld.own s) hb') (fun i hi e => hns i hi (hs.wld.inj _ _ b' (by rw [(hbs i hi).2, e]) hb'))
  have hbk : ∀ s b', blk (σ' s) (sv s) = some b' → blk (S.σ s) (sv s) = some b' := fun s b' hb' => by
    by_cases e : ∃ i, i < n ∧ ps i = s
    · obtain ⟨i, hi, rfl⟩ := e
      obtain ⟨l, h1, _⟩ := hσ2 i hi
      rw [h1, (hbs i hi).1] at hb'
      rw [(hbs i hi).2]; exact hb'
    · rw [hσ1 s (fun i hi e2 => e ⟨i, hi, e2⟩)] at hb'; exact hb'
  have hW : SimW X (growK κ w w') sv ⟨S.ρ, S.γ, σ'⟩ w' := by
    have h0 := hs.wld
    obtain ⟨h1, h2, h3, h4, h5, ⟨M, h6, h6'⟩, h7, h8, h9, h10, h11, h12, h13, h14⟩ := hs.wld
    refine ⟨fun b' o v hk => ?_, fun s => ?_, fun s u b' ht hu => h3 s u b' (hbk s b' ht) (hbk u b' hu), fun s b' o ht => ?_, fun s b' ht => h5 s b' (hbk s b' ht), ⟨_, X.cl M w w' h6 ⟨hfr.os, hfr.tape, hfr.output, hfr.size, fun k hk hm => hfr.block k hk (fun i hi e => hm (h6' _ _ (by rw [(hbs i hi).2, e])))⟩, fun s b' ht => .inl (h6' s b' (hbk s b' ht))⟩, fun g l hgl => ?_, fun b' o v hlt hk => ?_, h9, Nat.le_trans h10 hfr.size, h11.trans hle, fun b' o v hk => ?_, fun s b' ht => h13 s b' (hbk s b' ht), fun b h => Nat.lt_of_lt_of_le (h14 b h) hfr.size⟩
    · simp only [growK] at hk
      split at hk
      · rename_i hlt
        have h1' := h1 b' o v hk
        have hb2 := hfr.block b' hlt (fun i hi e => by
          have := h4 (ps i) (bs i) o (hbs i hi).2
          rw [e, hk] at this; cases this)
        have : w'.cell? ⟨b', o, none⟩ = w.cell? ⟨b', o, none⟩ := by simp only [World.cell?, hb2]
        rw [this]; exact h1'
      · exact hk
    · by_cases e : ∃ i, i < n ∧ ps i = s
      · obtain ⟨i, hi, rfl⟩ := e
        obtain ⟨l, q1, q3⟩ := hσ2 i hi
        obtain ⟨T, cs, r1, r2⟩ := hnew i hi
        show Owns _ _ _ _ _ _ (σ' (ps i))
        rw [q1]
        exact ⟨bs i, T, cs, (hbs i hi).1, r1, q3.rep (fun _ _ _ h => h) (fun j hj => gM_lt hj) (fun _ _ => rfl) (fun j hj => (hsvp j hj).symm) r2, rnL_cell q3 (hc.cell' i hi)⟩
      · have hns : ∀ i, i < n → ps i ≠ s := fun i hi e2 => e ⟨i, hi, e2⟩
        show Owns _ _ _ _ _ _ (σ' s)
        rw [hσ1 s hns]
        exact owns_mono hle rfl (hno s hns) (h2 s)
    · have hb' := hbk s b' ht
      have := owns_lt (h2 s) hb'
      simp only [growK]; rw [if_pos this]; exact h4 s b' o hb'
    · obtain ⟨hc2, u, hu, hk⟩ := h7 g l hgl
      exact ⟨hc2, u, hu.mono hle, fun j v hj => hle.cells _ _ _ (hk j v hj)⟩
    · have := h10
      simp only [growK] at hk
      rw [if_pos (by omega)] at hk
      exact h8 b' o v hlt hk
    · simp only [growK] at hk
      split at hk
      · exact h12 b' o v hk
      · intro hT; have := h14 b' hT; omega
  have hdf : Dfr X.nd X.w0.heap.size a w' := hs.defers.step fun k o hk ho => by
    rw [hfr.block k (Array.getElem?_eq_some_iff.1 hk).1 (fun i hi e => by
      obtain ⟨o', q1, q2⟩ := owns_cells (hs.wld.own (ps i)) (hbs i hi).2
      rw [e, hk] at q1; cases q1; rw [ho] at q2; cases q2)]
    exact hk
  have hs' : Sim X (growK κ w w') sv ⟨S.ρ, S.γ, σ'⟩ a w' := ⟨hs.size, hdf, fun i hi => (hs.slot i hi).mono hle, hW⟩
  refine ⟨v, rfl, ?_⟩
  rw [hd]
  exact hK _ _ (hk _ sv _ w' (hs'.put (some t) (hv.pure (fun _ _ _ h => h) hc.pureR)))
end
end Go.Ab
namespace Go.Ab
open Go Go.RowKit
set_option linter.all false
section
variable {X : Ctx} {Q : Exit → St → Prop} {S S' S0 : St} {ops : Array Oper} {o : Oper}
def lastB (M : List Nat) (m : Nat) : Bool := (List.range m).all fun j => ((M[m]?).getD 0).testBit j
def okBL (ops : List Oper) (E : List Ent) : Bool := backB ops && pairsB (masks [] ops) E && Nat.beq ops.length (E.length + 1) && lastB (masks [] ops) E.length
theorem reg_last {E : List Ent} {V : List Vl} (hok : okBL ops.toList E = true) (hs : ∀ k, k < E.length → Snd X Q ops k (stt S0 E V top k) (lcF E k) (wrF E k) (vlF V k))
    (hQ : ∀ κ sv a w, Sim X κ sv (stt S0 E V top E.length) a w → wpOpIn X.F 0 X.Z.P ops (lift X Q) E.length (lift X Q .normal) a w) : Reg X Q ops S0 := by
  simp only [okBL, Bool.and_eq_true] at hok
  obtain ⟨⟨⟨hback, hpairs⟩, hlen⟩, hlast⟩ := hok
  have hlen : ops.size = E.length + 1 := by simpa using Nat.eq_of_beq_eq_true hlen
  have back : ∀ {i : Nat} {o : Oper}, ops[i]? = some o → ∀ j ∈ dirB o, j < i := by
    intro i o ho j hj
    have h1 := List.all_eq_true.1 hback (o, i) (List.mk_mem_zipIdx_iff_getElem?.2 (by simpa using ho))
    have h2 := List.all_eq_true.1 h1 j hj
    simpa [Nat.blt_eq] using h2
  have ent : ∀ {i : Nat}, i < E.length → ∃ a, E[i]? = some a := fun h => ⟨_, List.getElem?_eq_getElem h⟩
  have bits : ∀ {L : Nat → Bool}, Closed ops.toList L → ∀ (i : Nat) (o : Oper) (b : Nat), ops[i]? = some o → (((masks [] ops.toList)[i]?).getD 0).testBit b = true → (∀ j ∈ dirB o, L j = true) → L b = true := fun hc i o b ho =>
    masks_bit hc ops.toList [] [] (by simp) rfl (by simp) i o b (by simpa using ho)
  have main : ∀ n (L : Array Bool) (a : Act) (w : World) κ sv, L.size = ops.size → L.toList.count false ≤ n → Closed ops.toList (fun i => L.getD i false) → L.getD E.length false = false →
      Sim X κ sv (stt S0 E V (fun i => L.getD i false) E.length) a w → wpAnyIn X.F 0 X.Z.P .any ops (lift X Q) n L a w := by
    intro n
    have done : ∀ n (L : Array Bool) (a : Act) (w : World), L.size = ops.size → (∀ i, i < ops.size → L.getD i false = true) → lift X Q .normal a w → wpAnyIn X.F 0 X.Z.P .any ops (lift X Q) n L a w := by
      intro n L a w hsz hall hl
      have hno : ∀ i, i ∉ Region.ready .any ops L := by
        intro i hi
        obtain ⟨h1, o, h2, _⟩ := mem_ready.1 hi
        have h3 : i < ops.size := (Array.getElem?_eq_some_iff.1 h2).1
        have := hall i h3
        have h4 : i < L.size := by omega
        simp [Array.getD, h4] at h1 this
        rw [this] at h1; cases h1
      cases n with
      | zero => exact ⟨List.eq_nil_iff_forall_not_mem.2 hno, hl⟩
      | succ n => exact ⟨fun _ => hl, fun i hi => absurd hi (hno i)⟩
    have rdy : ∀ (L : Array Bool), L.size = ops.size → Region.ready .any ops L = [] → ∀ i, i < ops.size → L.getD i false = true := by
      intro L hsz hr i
      induction i using Nat.strongRecOn with
      | ind i ih =>
        intro hi
        cases hL : L.getD i false with
        | true => rfl
        | false =>
          exfalso
          have : i ∈ Region.ready .any ops L := by
            refine mem_ready.2 ⟨?_, ops[i], Array.getElem?_eq_getElem hi, fun e he hb => ?_⟩
            · have h1 : i < L.size := by omega
              simp [Array.getD, h1] at hL ⊢; exact hL
            · have hj : e.on ∈ dirB ops[i] := List.mem_map.2 ⟨e, List.mem_filter.2 ⟨by simpa using he, hb⟩, rfl⟩
              have := back (Array.getElem?_eq_getElem hi) _ hj
              exact ih _ this (by omega)
          rw [hr] at this; cases this
    induction n with
    | zero =>
      intro L a w κ sv hsz hcnt hcl hm hsim
      exfalso
      have h0 : L.toList.count false = 0 := by omega
      have h2 := List.count_eq_zero.1 h0
      have h1 : E.length < L.size := by omega
      apply h2
      simp [Array.getD, h1] at hm
      rw [← hm]; exact List.getElem_mem (by simpa using h1)
    | succ n ih =>
      intro L a w κ sv hsz hcnt hcl hm hsim
      refine ⟨fun h0 => (by have := rdy L hsz h0 E.length (by omega); rw [hm] at this; cases this), fun i hi => ?_⟩
      obtain ⟨h1, o, h2, h3⟩ := mem_ready.1 hi
      have hio : i < ops.size := (Array.getElem?_eq_some_iff.1 h2).1
      have hiL : i < L.size := by omega
      have hLi : L.getD i false = false := by simp [Array.getD, hiL] at h1 ⊢; exact h1
      have hdir : ∀ j ∈ dirB o, L.getD j false = true := by
        intro j hj
        obtain ⟨e, he, rfl⟩ := List.mem_map.1 hj
        obtain ⟨he1, he2⟩ := List.mem_filter.1 he
        exact h3 e (by simpa using he1) he2
      by_cases him : i = E.length
      · subst him
        have hall : ∀ j, j < E.length → L.getD j false = true := fun j hj => by
          have hb : (((masks [] ops.toList)[E.length]?).getD 0).testBit j = true := List.all_eq_true.1 hlast j (List.mem_range.2 hj)
          exact bits hcl E.length o j h2 hb hdir
        have hst : stt S0 E V (fun i => L.getD i false) E.length = stt S0 E V top E.length := by
          unfold stt
          rw [val_congr (L' := top) _ fun j hj => hall j hj, val_congr (L' := top) _ fun j hj => hall j hj, val_congr (L' := top) _ fun j hj => hall j hj]
        rw [hst] at hsim
        refine wpOpIn_mono ?_ (hQ κ sv a w hsim)
        intro a' w' hl
        refine done n (L.setIfInBounds E.length true) a' w' (by simp [hsz]) (fun k hk => ?_) hl
        simp only [Array.getD_eq_getD_getElem?]
        rw [Array.getElem?_setIfInBounds]
        by_cases e : E.length = k
        · subst e; simp [hiL]
        · rw [if_neg e]
          have := hall k (by omega)
          simpa [Array.getD_eq_getD_getElem?] using this
      have hilt : i < E.length := by omega
      obtain ⟨ei, hei⟩ := ent (i := i) hilt
      -- what number i reads is as in the text's order
      have order : ∀ j, j < E.length → j ≠ i → ∀ ej, E[j]? = some ej → clash ei ej = true → (L.getD j false = true ↔ j < i) := by
        intro j hj hne ej hej hc
        have hp := pairs_spec hpairs hei hej (Ne.symm hne) (by rw [hc]; rfl)
        constructor
        · intro hLj
          refine Nat.lt_of_le_of_ne (Nat.le_of_not_lt fun hlt => ?_) hne
          rw [if_neg (by omega)] at hp
          obtain ⟨oj, hoj⟩ : ∃ oj, ops[j]? = some oj := ⟨_, Array.getElem?_eq_getElem (by omega)⟩
          have := bits hcl j oj i hoj hp (hcl j oj (by simpa using hoj) hLj)
          rw [hLi] at this; cases this
        · intro hlt
          rw [if_pos hlt] at hp
          exact bits hcl i o j h2 hp hdir
      have agree : Agree (lcF E i) (stt S0 E V top i) (stt S0 E V (fun i => L.getD i false) E.length) := by
        rw [lcF_of hei]
        have hmin : min E.length i = i := by omega
        have key : ∀ (j t : Nat), j < E.length → ((t ∈ ei.1.rr ∧ (wrF E j).t = some t) ∨ (t ∈ ei.1.rg ∧ (wrF E j).g = some t) ∨ (t ∈ ei.1.ro ∧ (wrF E j).o = some t)) → (L.getD j false = true ↔ j < i) := by
          intro j t hj hc
          by_cases e : j = i
          · subst e; rw [hLi]; simp
          · obtain ⟨ej, hej⟩ := ent hj
            rw [wrF_of hej] at hc
            exact order j hj e ej hej (clash_of hc)
        refine ⟨fun t ht => ?_, fun t ht => ?_, fun t ht => ?_⟩
        · have := val_at (w := fun j => (wrF E j).t) (v := fun j => (vlF V j).d) (L := fun i => L.getD i false) (f0 := S0.ρ) (i := i) (l := t) E.length (fun j hj hw => key j t hj (.inl ⟨ht, hw⟩))
          rw [hmin] at this; exact this
        · have := val_at (w := fun j => (wrF E j).g) (v := fun j => (vlF V j).g) (L := fun i => L.getD i false) (f0 := S0.γ) (i := i) (l := t) E.length (fun j hj hw => key j t hj (.inr (.inl ⟨ht, hw⟩)))
          rw [hmin] at this; exact this
        · have := val_at (w := fun j => (wrF E j).o) (v := fun j => (vlF V j).o) (L := fun i => L.getD i false) (f0 := S0.σ) (i := i) (l := t) E.length (fun j hj hw => key j t hj (.inr (.inr ⟨ht, hw⟩)))
          rw [hmin] at this; exact this
      refine wpOpIn_mono ?_ (hs i hilt _ agree κ sv a w hsim)
      rintro a' w' ⟨κ', sv', hsim'⟩
      have hLset : (fun k => (L.setIfInBounds i true).getD k false) = fun k => bif Nat.beq k i then true else L.getD k false := by
        funext k
        by_cases e : k = i
        · subst e; rw [Nat.beq_refl]; simp [Array.getD, hiL]
        · have : Nat.beq k i = false := by
            cases hb : Nat.beq k i
            · rfl
            · exact absurd (Nat.eq_of_beq_eq_true hb) e
          rw [this]
          simp only [Array.getD_eq_getD_getElem?, cond_false]
          rw [Array.getElem?_setIfInBounds, if_neg (fun h => e h.symm)]
      refine ih (L.setIfInBounds i true) a' w' κ' sv' (by simp [hsz]) ?_ ?_ (by refine (congrFun hLset E.length).trans ?_; have hb : Nat.beq E.length i = false := (by cases hb : Nat.beq E.length i with | false => rfl | true => exact absurd (Nat.eq_of_beq_eq_true hb).symm him); rw [hb]; exact hm) ?_
      · rw [Array.toList_setIfInBounds]
        have hget : L.toList[i]'(by simpa using hiL) = false := by simp [Array.getD, hiL] at hLi; simpa using hLi
        have hmem : false ∈ L.toList := hget ▸ List.getElem_mem (by simpa using hiL)
        have hpos := List.count_pos_iff.2 hmem
        rw [List.count_set (by simpa using hiL), hget, if_pos (show (false == false) = true from rfl), if_neg (by decide)]
        omega
      · intro j oj hoj hLj d hd
        have hcong : ∀ k, (L.setIfInBounds i true).getD k false = bif Nat.beq k i then true else L.getD k false := fun k => congrFun hLset k
        simp only [hcong] at hLj ⊢
        by_cases e : d = i
        · subst e; rw [Nat.beq_refl]; rfl
        · have hb : Nat.beq d i = false := by
            cases hb : Nat.beq d i
            · rfl
            · exact absurd (Nat.eq_of_beq_eq_true hb) e
          rw [hb]
          show L.getD d false = true
          by_cases e2 : j = i
          · subst e2
            have : ops[j]? = some oj := by simpa using hoj
            rw [h2] at this
            cases this
            exact hdir d hd
          · have hb2 : Nat.beq j i = false := by
              cases hb : Nat.beq j i
              · rfl
              · exact absurd (Nat.eq_of_beq_eq_true hb) e2
            rw [hb2] at hLj
            exact hcl j oj hoj hLj d hd
      · rw [hLset]
        have hww : ∀ j, i < j → j < E.length → L.getD j false = true → ∀ ej, E[j]? = some ej → clashW ei ej = false := by
          intro j hij hj hLj ej hej
          cases hc : clashW ei ej with
          | false => rfl
          | true =>
            exfalso
            have hp := pairs_spec hpairs hei hej (by omega) (by rw [hc]; simp)
            rw [if_neg (by omega)] at hp
            obtain ⟨oj, hoj⟩ : ∃ oj, ops[j]? = some oj := ⟨_, Array.getElem?_eq_getElem (by omega)⟩
            have := bits hcl j oj i hoj hp (hcl j oj (by simpa using hoj) hLj)
            rw [hLi] at this; cases this
        have kw : ∀ (f : Wr → Option Nat) j, i < j → j < E.length → L.getD j false = true → (∀ a b : Ent, f a.2 = f b.2 → f a.2 ≠ none → clashW a b = true) → f (wrF E i) ≠ f (wrF E j) ∨ f (wrF E i) = none := by
          intro f j h1 h2 h3 h4
          obtain ⟨ej, hej⟩ := ent h2
          have := hww j h1 h2 h3 ej hej
          rw [wrF_of hei, wrF_of hej]
          by_cases e : f ei.2 = none
          · exact .inr e
          · refine .inl fun e2 => ?_
            rw [h4 ei ej e2 e] at this; cases this
        have : stt S0 E V (fun k => bif Nat.beq k i then true else L.getD k false) E.length = (stt S0 E V (fun i => L.getD i false) E.length).app (wrF E i) (vlF V i) := by
          unfold stt St.app
          simp only
          rw [val_add (L := fun i => L.getD i false) hLi E.length (by omega) fun j a b c => kw Wr.t j a b c fun a b h1 h2 => clashW_of (.inl ⟨h1, h2⟩),
            val_add (L := fun i => L.getD i false) hLi E.length (by omega) fun j a b c => kw Wr.g j a b c fun a b h1 h2 => clashW_of (.inr (.inl ⟨h1, h2⟩)),
            val_add (L := fun i => L.getD i false) hLi E.length (by omega) fun j a b c => kw Wr.o j a b c fun a b h1 h2 => clashW_of (.inr (.inr ⟨h1, h2⟩))]
        rw [this]; exact hsim'
  intro κ sv a w hsim
  refine main ops.size (Array.replicate ops.size false) a w κ sv (by simp) (by simp) ?_ (by simp [Array.getD]) ?_
  · intro i o ho hL
    exfalso
    by_cases h : i < ops.size <;> simp [Array.getD, h] at hL
  · have : stt S0 E V (fun i => (Array.replicate ops.size false).getD i false) E.length = S0 := by
      have e : (fun i => (Array.replicate ops.size false).getD i false) = fun _ => false := by
        funext i
        by_cases h : i < ops.size <;> simp [Array.getD, h]
      rw [e]
      have k : ∀ {α : Type} (w : Nat → Option Nat) (v : Nat → α) (f0 : Nat → α) n, val w v (fun _ => false) f0 n = f0 := by
        intro α w v f0 n
        induction n with
        | zero => rfl
        | succ n ih => simp only [val, ih]; rfl
      unfold stt
      rw [k, k, k]
    rw [this]; exact hsim
theorem WG_last {E : List Ent} {V : List Vl} (hok : okBL ops.toList E = true) (hg : o.guard = none) (hk : WL X ops [o] Q S) : WG X Q ops S0 E V [o] S := by
  rintro ⟨pre, hp1, hp2⟩ hl hsnd hst
  have hoi : ops[E.length]? = some o := by rw [hp1, ← hp2]; simp
  refine reg_last hok hsnd fun κ sv a w hs => ?_
  rw [hst] at hs
  have h := hk κ sv a w hs
  unfold wpListIn at h
  unfold wpOpIn
  rw [hoi]
  simp only
  have hw : Region.wanted o (yielded ops a.tmps) = true := by unfold Region.wanted; rw [hg]
  rw [if_pos hw] at h ⊢
  exact Oper.wpIn_mono (fun a' w' h2 => by unfold wpListIn at h2; exact h2) h
end
end Go.Ab
namespace Go.Ab
open Go Go.RowKit
set_option linter.all false
def mFind : List (Int × Int) → Int → Option Int
  | [], _ => none
  | p :: l, n => bif decide (p.1 = n) then some p.2 else mFind l n
def mSet : List (Int × Int) → Int → Int → List (Int × Int)
  | [], n, v => [(n, v)]
  | p :: l, n, v => bif decide (p.1 = n) then (n, v) :: l else p :: mSet l n v
def mGet (l : List (Int × Int)) (n : Int) : Int := (mFind l n).getD 0
def mHas (l : List (Int × Int)) (n : Int) : Bool := (mFind l n).isSome
def mIdx : List (Int × Int) → Int → Nat
  | [], _ => 0
  | p :: l, n => bif decide (p.1 = n) then 0 else mIdx l n + 1
theorem mFind_set (l : List (Int × Int)) (n v m : Int) : mFind (mSet l n v) m = if m = n then some v else mFind l m := by
  induction l with
  | nil =>
    simp only [mSet, mFind]
    by_cases h : n = m
    · subst h; simp
    · rw [if_neg (fun e => h e.symm)]; simp [h]
  | cons p l ih =>
    simp only [mSet, mFind]
    by_cases h : p.1 = n
    · simp only [h, decide_true, cond_true, mFind]
      by_cases h2 : n = m
      · subst h2; simp
      · rw [if_neg (fun e => h2 e.symm)]; simp [h2]
    · simp only [h, decide_false, cond_false, mFind, ih]
      by_cases h2 : p.1 = m
      · simp only [h2, decide_true, cond_true]; rw [if_neg (fun e => h (h2.trans e))]
      · simp [h2]
abbrev kvP (p : Int × Int) : Value × Value := (Value.int .i64 p.1, Value.int .i64 p.2)
theorem findNow_is : ∀ {es : List MapEntry} {l : List (Int × Int)}, es.map (fun e => (e.key, e.val)) = l.map kvP → ∀ (n : Int) (i : Nat),
    Instr.findNow (.int .i64) (.int .i64 n) es i = some (match mFind l n with | some v => some (i + mIdx l n, .int .i64 v) | none => none)
  | [], [], _, n, i => rfl
  | [], _ :: _, h, n, i => by cases h
  | _ :: _, [], h, n, i => by cases h
  | e :: es, p :: l, h, n, i => by
    simp only [List.map_cons, List.cons.injEq, Prod.mk.injEq] at h
    obtain ⟨⟨h1, h2⟩, h3⟩ := h
    have ih := findNow_is h3 n (i + 1)
    simp only [Instr.findNow, h1, h2, Instr.sameNow, mFind, mIdx]
    by_cases hp : p.1 = n
    · simp [hp]
    · have : (n == p.1) = false := by simpa using fun e => hp e.symm
      simp only [this, hp, decide_false, cond_false, if_true]
      rw [ih]
      cases mFind l n with
      | none => rfl
      | some v => simp; omega
theorem mIdx_at : ∀ {es : List MapEntry} {l : List (Int × Int)}, es.map (fun e => (e.key, e.val)) = l.map kvP → ∀ {n v : Int}, mFind l n = some v → ∃ e, es[mIdx l n]? = some e ∧ e.key = .int .i64 n
  | [], [], _, n, v, h => by cases h
  | [], _ :: _, h, n, v, _ => by cases h
  | _ :: _, [], h, n, v, _ => by cases h
  | e :: es, p :: l, h, n, v, hf => by
    simp only [List.map_cons, List.cons.injEq, Prod.mk.injEq] at h
    obtain ⟨⟨h1, h2⟩, h3⟩ := h
    simp only [mFind, mIdx] at hf ⊢
    by_cases hp : p.1 = n
    · simp only [hp, decide_true, cond_true]
      exact ⟨e, by simp, by rw [h1, hp]⟩
    · simp only [hp, decide_false, cond_false] at hf ⊢
      obtain ⟨e', q1, q2⟩ := mIdx_at h3 hf
      exact ⟨e', by simpa using q1, q2⟩
theorem mSet_mod : ∀ {es : List MapEntry} {l : List (Int × Int)}, es.map (fun e => (e.key, e.val)) = l.map kvP → ∀ {n v : Int} (x : Int), mFind l n = some v →
    (es.modify (mIdx l n) fun e => { e with key := .int .i64 n, val := .int .i64 x }).map (fun e => (e.key, e.val)) = (mSet l n x).map kvP
  | [], [], _, n, v, x, h => by cases h
  | [], _ :: _, h, n, v, x, _ => by cases h
  | _ :: _, [], h, n, v, x, _ => by cases h
  | e :: es, p :: l, h, n, v, x, hf => by
    have h' := h
    simp only [List.map_cons, List.cons.injEq, Prod.mk.injEq] at h
    obtain ⟨⟨h1, h2⟩, h3⟩ := h
    simp only [mFind, mIdx, mSet] at hf ⊢
    by_cases hp : p.1 = n
    · simp only [hp, decide_true, cond_true, List.modify_zero_cons, List.map_cons]
      rw [h3]
    · simp only [hp, decide_false, cond_false, List.modify_succ_cons, List.map_cons] at hf ⊢
      rw [mSet_mod h3 x hf, h1, h2]
theorem mSet_push : ∀ {es : List MapEntry} {l : List (Int × Int)}, es.map (fun e => (e.key, e.val)) = l.map kvP → ∀ {n x : Int} (b : Nat), mFind l n = none →
    (es ++ [({ key := .int .i64 n, val := .int .i64 x, born := b } : MapEntry)]).map (fun e : MapEntry => (e.key, e.val)) = (mSet l n x).map kvP
  | [], [], _, n, x, b, _ => rfl
  | [], _ :: _, h, n, x, b, _ => by cases h
  | _ :: _, [], h, n, x, b, _ => by cases h
  | e :: es, p :: l, h, n, x, b, hf => by
    simp only [List.map_cons, List.cons.injEq, Prod.mk.injEq] at h
    obtain ⟨⟨h1, h2⟩, h3⟩ := h
    simp only [mFind, mSet] at hf ⊢
    by_cases hp : p.1 = n
    · simp only [hp, decide_true, cond_true] at hf; cases hf
    · simp only [hp, decide_false, cond_false, List.cons_append, List.map_cons] at hf ⊢
      rw [mSet_push h3 b hf, h1, h2]
structure MapTy (P : Program) (t : TypeId) : Prop where
  ty : ∃ k e i, P.underlying t = some (.map k e) ∧ P.underlying k = some (.int .i64) ∧ P.info? e = some i ∧ i.zero = some (.int .i64 0)
section
variable {P : Program} {w : World} {t : TypeId} {b : Nat} {es : Array MapEntry} {c : Nat} {l : List (Int × Int)}
theorem run_lookupI (ht : MapTy P t) (hb : w.heap[b]? = some (.map es c)) (hm : mapIs es l) (n : Int) : (Instr.lookup t (.map (some b)) (.int .i64 n) true).run P w = .ok (.tuple #[.int .i64 (mGet l n), .bool (mHas l n)]) w := by
  obtain ⟨k, e, i, h1, h2, h3, h4⟩ := ht
  have hk : MapKept.IsKey (.int .i64) (.int .i64 n) := rfl
  have hf := findNow_is (es := es.toList) (l := l) hm n 0
  cases hq : mFind l n with
  | none =>
    rw [hq] at hf
    simp [Instr.lookup, run_underlying h1, MapKept.run_getObj_map hb, MapKept.run_checkKey h2 hk, MapKept.run_findKey h2 hf, Result.andThen, zeroValue, typeInfo, h3, h4, mGet, mHas, hq]
  | some v =>
    rw [hq] at hf
    simp [Instr.lookup, run_underlying h1, MapKept.run_getObj_map hb, MapKept.run_checkKey h2 hk, MapKept.run_findKey h2 hf, Result.andThen, mGet, mHas, hq]
theorem run_updateI (ht : MapTy P t) (hb : w.heap[b]? = some (.map es c)) (hm : mapIs es l) (n x : Int) : ∃ es' c', (Instr.mapUpdate t (.map (some b)) (.int .i64 n) (.int .i64 x)).run P w = .ok () { w with heap := w.heap.setIfInBounds b (.map es' c') } ∧ mapIs es' (mSet l n x) := by
  obtain ⟨k, e, i, h1, h2, h3, h4⟩ := ht
  have hk : MapKept.IsKey (.int .i64) (.int .i64 n) := rfl
  have hf := findNow_is (es := es.toList) (l := l) hm n 0
  cases hq : mFind l n with
  | none =>
    rw [hq] at hf
    refine ⟨es.push { key := .int .i64 n, val := .int .i64 x, born := c }, c + 1, ?_, ?_⟩
    · simp [Instr.mapUpdate, run_underlying h1, MapKept.run_getObj_map hb, MapKept.run_checkKey h2 hk, MapKept.run_findKey h2 hf, Result.andThen, MapKept.run_setObj_map _ hb]
    · have := mSet_push (es := es.toList) (l := l) hm (x := x) c hq
      unfold mapIs
      rw [Array.toList_push]; exact this
  | some v =>
    rw [hq] at hf
    obtain ⟨e0, q1, q2⟩ := mIdx_at (es := es.toList) (l := l) hm hq
    have hj : es[mIdx l n]? = some e0 := by simpa using q1
    refine ⟨es.modify (mIdx l n) fun e => { e with key := .int .i64 n, val := .int .i64 x }, c, ?_, ?_⟩
    · simp [Instr.mapUpdate, run_underlying h1, MapKept.run_getObj_map hb, MapKept.run_checkKey h2 hk, MapKept.run_findKey h2 hf, hj, q2, MapKept.run_keyThatStays hk, Result.andThen, MapKept.run_setObj_map _ hb]
    · have := mSet_mod (es := es.toList) (l := l) hm x hq
      unfold mapIs
      rw [Array.toList_modify]; exact this
end
section
variable {X : Ctx} {S : St} {o : Oper}
theorem map_own {κ : Nat → Nat → Option Value} {sv : Nat → Value} {a : Act} {w : World} (hs : Sim X κ sv S a w) {x : Operand} {s g : Nat} {l : List (Int × Int)} (hx : S.ev X x = .os s g) (hγ : S.γ s = g) (hσ : S.σ s = .mp l) :
    ∃ b es c, a.eval x = .map (some b) ∧ sv s = .map (some b) ∧ w.heap[b]? = some (.map es c) ∧ mapIs es l := by
  have h1 := hs.ev x
  rw [hx] at h1
  have h2 := hs.wld.own s
  rw [hσ] at h2
  obtain ⟨b, es, c, e1, e2, e3⟩ := h2
  generalize a.eval x = v at h1
  cases h1 with
  | os _ _ _ _ hh _ => exact ⟨b, es, c, by rw [hh hγ.symm, e1], e1, e2, e3⟩
theorem q_lookup {T : TypeId} {x y : Operand} {s g : Nat} {l : List (Int × Int)} {n : Int} (ht : MapTy X.Z.P T) (ho : o.op = .lookup T x y true) (hx : S.ev X x = .os s g) (hγ : S.γ s = g) (hσ : S.σ s = .mp l) (hy : S.ev X y = .int .i64 n) :
    QOp X o S (.tup [.int .i64 (mGet l n), .bool (mHas l n)]) := fun κ sv a w hs => by
  obtain ⟨b, es, c, h1, h2, h3, h4⟩ := map_own hs hx hγ hσ
  have hyv := hs.ev y
  rw [hy] at hyv
  generalize hye : a.eval y = v at hyv
  cases hyv
  refine ⟨_, .tup _ _ (.cons _ _ _ _ (.int _ _) (.cons _ _ _ _ (.bool _) .nil)), fun w' hb => ?_⟩
  have hb' : w'.heap[b]? = some (.map es c) := by rw [hb.block b (Array.getElem?_eq_some_iff.1 h3).1]; exact h3
  simp [execOp, ho, h1, hye, run_lookupI ht hb' h4]
theorem n_mapUpdate {T : TypeId} {x y z : Operand} {s g : Nat} {l : List (Int × Int)} {n v : Int} (ht : MapTy X.Z.P T) (ho : o.op = .mapUpdate T x y z ∨ o.op = .insert T x y z) (hd : o.dst = none) (hx : S.ev X x = .os s g) (hγ : S.γ s = g) (hσ : S.σ s = .mp l) (hy : S.ev X y = .int .i64 n) (hz : S.ev X z = .int .i64 v) :
    NOp X o S ⟨S.ρ, S.γ, upd S.σ s (.mp (mSet l n v))⟩ := fun κ sv a w hs => by
  obtain ⟨b, es, c, h1, h2, h3, h4⟩ := map_own hs hx hγ hσ
  have hyv := hs.ev y
  rw [hy] at hyv
  generalize hye : a.eval y = yv at hyv
  cases hyv
  have hzv := hs.ev z
  rw [hz] at hzv
  generalize hze : a.eval z = zv at hzv
  cases hzv
  obtain ⟨es', c', r1, r2⟩ := run_updateI ht h3 h4 n v
  have hgr : w.grownBy { w with heap := w.heap.setIfInBounds b (.map es' c') } (some b) := by
    refine ⟨rfl, rfl, rfl, by simp, fun k hk hne => ?_⟩
    have : k ≠ b := fun e => hne (by rw [e])
    exact (MapKept.heap_set h3).2 k this
  have hblk : blk (S.σ s) (sv s) = some b := by rw [hσ, h2]; rfl
  rw [hd]
  refine ⟨Go.undef, _, κ, sv, .inr ⟨?_, rfl⟩, ⟨hs.size, dfr_own hs s (by rw [hblk]; exact hgr), hs.slot, ?_⟩⟩
  · rcases ho with ho | ho <;> simp [execOp, ho, h1, hye, hze, r1, Result.andThen]
  · refine hs.wld.rewrite s (.mp _) (by rw [hblk]; exact hgr) (by rw [hσ, h2]; rfl) ⟨b, es', c', h2, (MapKept.heap_set h3).1, r2⟩ _
theorem run_eqnil {P : Program} {w : World} {T e : TypeId} (hu : P.underlying T = some (.slice e)) (a : Option Addr) (n c : Nat) : (binOp .eql T (.slice a n c) (.slice none 0 0)).run P w = .ok (.bool a.isNone) w := by
  have h : (Op.equal T (.slice a n c) (.slice none 0 0)).run P w = .ok a.isNone w := by
    unfold Op.equal
    have : Op.maxDepth = 9999 + 1 := rfl
    rw [this]
    unfold Op.equalIn
    simp only [Sem.run_bind, run_underlying hu, Result.andThen_ok]
    cases a <;> rfl
  have h2 : binOp .eql T (.slice a n c) (.slice none 0 0) = (do pure (.bool (← Op.equal T (.slice a n c) (.slice none 0 0)))) := rfl
  rw [h2]
  simp [h]
theorem WL_eqnil {Q : Exit → St → Prop} {ops : Array Oper} {rest : List Oper} {T T2 : TypeId} {x y : Operand} {t : Nat} {z n : Nat} {f : Nat → List D} {r : TRow} (hg : o.guard = none) (ho : o.op = .binOp .eql T x y T2) (hd : o.dst = some t) (hr : nth X.Z.tab T = some r) (hk : Nat.beq r.k 3 = true) (hx : S.ev X x = .sl z n f) (hy : S.ev X y = .nil)
    (ht : n = 0 → WL X ops rest Q (S.set t (.bool true))) (hf : WL X ops rest Q (S.set t (.bool false))) : WL X ops (o :: rest) Q S := fun κ sv a w hs => by
  have hu := slice_row (X.Z.tabOk _ _ hr (by intro e; rw [e] at hk; cases hk)) hk
  have h1 := hs.ev x
  rw [hx] at h1
  have h2 := hs.ev y
  rw [hy] at h2
  generalize hxe : a.eval x = xv at h1
  generalize hye : a.eval y = yv at h2
  cases h2
  cases h1 with
  | sl _ _ _ b off cap u q1 q2 q3 q4 q5 =>
    refine wpListIn_plain hg fun K hK => op_val (v := .bool false) (w' := w) ?_ ?_
    · simp [execOp, ho, hxe, hye, eqGuard, run_eqnil hu]
    · rw [hd]; exact hK _ _ (hf κ sv _ _ (hs.put (some t) (.bool _)))
  | sl0 =>
    refine wpListIn_plain hg fun K hK => op_val (v := .bool true) (w' := w) ?_ ?_
    · simp [execOp, ho, hxe, hye, eqGuard, run_eqnil hu]
    · rw [hd]; exact hK _ _ (ht rfl κ sv _ _ (hs.put (some t) (.bool _)))
  | slE _ _ ad cap =>
    refine wpListIn_plain hg fun K hK => op_val (v := .bool false) (w' := w) ?_ ?_
    · simp [execOp, ho, hxe, hye, eqGuard, run_eqnil hu]
    · rw [hd]; exact hK _ _ (hf κ sv _ _ (hs.put (some t) (.bool _)))
theorem n_makeMap {T : TypeId} {t : Nat} (ho : o.op = .makeMap T none) (hd : o.dst = some t) : NOp X o S ⟨upd S.ρ t (.os t (S.γ t + 1)), upd S.γ t (S.γ t + 1), upd S.σ t (.mp [])⟩ := fun κ sv a w hs => by
  have hle := le_renew κ S.γ sv t (.map (some w.heap.size))
  rw [hd]
  refine ⟨.map (some w.heap.size), w.alloc (.map #[] 0), κ, upd sv t (.map (some w.heap.size)), .inl ?_, ?_⟩
  · simp [execOp, ho, run_makeMap]
  · refine ⟨by rw [put_size]; exact hs.size, (dfr_own hs t (World.grownBy_alloc w _ _)).put _ _, ?_, ?_⟩
    · exact hs.slotsR hle (some t) (.os _ _ _ (by rw [upd_same]; exact Nat.le_refl _) (fun _ => (upd_same _ _ _).symm) rfl)
    · refine hs.wld.renew t (.mp []) _ (World.grownBy_alloc w _ _) (fun b hb => ?_) ⟨w.heap.size, #[], 0, upd_same _ _ _, (MapKept.heap_alloc w _).1, rfl⟩ _
      simp only [blk, Option.some.injEq] at hb
      exact .inl (by omega)
end
section
variable {F : Fence} {n : Nat} {P : Program} {Q : Exit → Act → World → Prop} {a : Act} {w : World} {b : Go.Frame} {k : List Item} {cs : List Go.Frame}
theorem stepR_scope {c : Code} : step P (lone (b.atR a (.code (.scope c) :: k)) cs w) = .next (lone (b.atR a (.code c :: .inScope c :: k)) cs w) :=
  step_lone_go (by simp [stepG, stepG.exec, Frame.atR])
theorem stepR_inScope {c : Code} : step P (lone (b.atR a (.inScope c :: k)) cs w) = .next (lone (b.atR a k) cs w) :=
  step_lone_go (by simp [stepG, stepG.exec, Frame.atR])
theorem wpIn_scope {c : Code} (h : c.wpIn F n P (Exit.noGoto Q) a w) : (Code.scope c).wpIn F n P Q a w := by
  intro b k cs hro hb hr
  have h0 : (lone (b.atR a (.code (.scope c) :: k)) cs w).fenced P F := fenced_calm hb hr rfl
  obtain ⟨e, a₁, w₁, hq, harr⟩ := h b (.inScope c :: k) cs hro hb hr
  cases e with
  | normal => exact ⟨.normal, a₁, w₁, hq, .head h0 stepR_scope (StepsIn.trans harr (.one (fenced_calm hb hr rfl) stepR_inScope))⟩
  | exit id =>
    have hx : exitTo id (.inScope c :: k) = exitTo id k := by simp [exitTo]
    exact ⟨.exit id, a₁, w₁, hq, fun k' hk => .head h0 stepR_scope (harr.1 k' (by rw [hx]; exact hk)),
      fun hr' hk => let ⟨k₁, h1, h2⟩ := harr.2 hr' (by rw [hx]; exact hk); ⟨k₁, h1, .head h0 stepR_scope h2⟩⟩
  | goto l => exact hq.elim
  | ret => exact ⟨_, a₁, w₁, hq, .of_steps (.one h0 stepR_scope) harr⟩
  | panic ch => exact ⟨_, a₁, w₁, hq, .of_steps (.one h0 stepR_scope) harr⟩
  | outgrown => exact ⟨_, a₁, w₁, hq, .of_steps (.one h0 stepR_scope) harr⟩
end
theorem W_scope {X : Ctx} {Q : Exit → St → Prop} {S : St} {c : Code} (h : W X c (fun e T => match e with | .goto _ => False | e => Q e T) S) : W X (.scope c) Q S := fun κ sv a w hs => by
  refine wpIn_scope (wpIn_mono (h κ sv a w hs) ?_)
  rintro e a' w' ⟨κ', sv', S', h1, h2⟩
  cases e <;> first | exact h2.elim | exact ⟨κ', sv', S', h1, h2⟩
theorem W_label {X : Ctx} {Q : Exit → St → Prop} {S : St} {l : Nat} (h : Q .normal S) : W X (.label l) Q S := fun κ sv _ _ hs => wpIn_label ⟨κ, sv, S, hs, h⟩
end Go.Ab
namespace Go.Ab
open Go Go.RowKit
set_option linter.all false
inductive IOwn where
  | none
  | box (l : List I)
  | arr (E : TypeId) (t : T) (l : List (den t))
  | arrp (E : TypeId) (t : T) (l : List (den t)) (i : Nat) (row : List I)
  | mp (l : List (Int × Int))
def IOwn.toOwn (h : Nat → Nat) : IOwn → Own
  | .none => .none
  | .box l => .box (I.toDL h l)
  | .arr E t l => .arr E (sz t) l.length (fun i => encD t (l.getD i (dflt t)))
  | .arrp E t l i row => .arr E (sz t) l.length (updF (fun i => encD t (l.getD i (dflt t))) i (I.toDL h row))
  | .mp l => .mp l
structure IS where
  rs : List (Nat × I)
  gs : List (Nat × Nat)
  os : List (Nat × IOwn)
def IS.get (S : IS) (t : Nat) : I := look .undef S.rs t
def IS.gen (S : IS) (s : Nat) : Nat := look 0 S.gs s
def IS.own (S : IS) (s : Nat) : IOwn := look .none S.os s
def IS.toSt (h : Nat → Nat) (S : IS) : St := ⟨fun t => (S.get t).toD h, fun s => h s + S.gen s, fun s => (S.own s).toOwn h⟩
structure ISeat extends Seat where
  gI : Nat → Option (List I)
  gI_ok : ∀ g h, toSeat.glob g = (gI g).map (I.toDL h)
  ty : Nat → Option T
  ty_ok : ∀ E t q, ty E = some t → nth toSeat.tab E = some q → Nat.beq q.k 9 = false ∧ q.sz = sz t ∧ q.zs.length = sz t
  ik : Nat → Option IntKind
  ik_ok : ∀ t k, ik t = some k → toSeat.P.underlying t = some (.int k)
  isB : Nat → Bool
  isB_ok : ∀ t, isB t = true → toSeat.P.underlying t = some .bool
  isF : Nat → Bool
  isF_ok : ∀ t, isF t = true → ∃ d, toSeat.P.underlying t = some d ∧ aggOf toSeat.P t = false
  isS : Nat → Bool
  isS_ok : ∀ t, isS t = true → toSeat.P.underlying t = some .string
  isM : Nat → Bool
  isM_ok : ∀ t, isM t = true → MapTy toSeat.P t
def ofCI : Value → I
  | .int k n => .int k n
  | .bool b => .bool b
  | .string s => .str s
  | .slice none 0 0 => .nil
  | _ => .undef
def ofVI : Value → I
  | .agg cs => .agg (cs.toList.map ofCI)
  | v => ofCI v
def IS.ev (Z : ISeat) (nt : Nat) (S : IS) : Operand → I
  | .tmp t => bif Nat.blt t nt then S.get t else .undef
  | .const v => ofVI v
  | .global g => match Z.gI g with | some l => .rp l 0 | none => .undef
  | .func f => .fn f []
theorem toDL_map (h : Nat → Nat) : ∀ l : List I, I.toDL h l = l.map (I.toD h)
  | [] => rfl
  | d :: l => by simp only [I.toDL, List.map_cons, toDL_map h l]
theorem toD_ofC (h : Nat → Nat) (v : Value) : (ofCI v).toD h = ofC v := by
  cases v <;> try rfl
  rename_i a n c
  cases a <;> cases n <;> cases c <;> rfl
theorem toD_ofV (h : Nat → Nat) (v : Value) : (ofVI v).toD h = ofV v := by
  cases hv : v with
  | agg cs =>
    simp only [ofVI, ofV, I.toD, toDL_map, List.map_map]
    congr 1
    exact List.map_congr_left fun x _ => toD_ofC h x
  | _ => (try rfl) <;> (rw [← hv]; have := toD_ofC h v; rw [hv] at this ⊢; exact this)
structure Ef where
  t : Option Nat
  d : I
  g : Option (Nat × Nat)
  o : Option (Nat × IOwn)
def Ef.wr (e : Ef) : Wr := ⟨e.t, e.g.map (·.1), e.o.map (·.1)⟩
def Ef.vl (h : Nat → Nat) (e : Ef) : Vl := ⟨e.d.toD h, match e.g with | some p => h p.1 + p.2 | none => 0, match e.o with | some p => p.2.toOwn h | none => .none⟩
def IS.eff (S : IS) (e : Ef) : IS :=
  ⟨match e.t with | some t => (t, e.d) :: S.rs | none => S.rs, match e.g with | some p => p :: S.gs | none => S.gs, match e.o with | some p => p :: S.os | none => S.os⟩
theorem look_cons {α β : Type} (f : α → β) (e : α) (i : Nat) (a : α) (l : List (Nat × α)) : (fun j => f (look e ((i, a) :: l) j)) = upd (fun j => f (look e l j)) i (f a) := by
  funext j
  simp only [look, upd]
  cases Nat.beq j i <;> rfl
theorem toSt_eff (h : Nat → Nat) (S : IS) (e : Ef) : (S.eff e).toSt h = (S.toSt h).app e.wr (e.vl h) := by
  obtain ⟨t, d, g, o⟩ := e
  unfold IS.toSt St.app IS.eff Ef.wr Ef.vl
  congr 1
  · cases t with
    | none => rfl
    | some t => exact look_cons (I.toD h) .undef t d S.rs
  · cases g with
    | none => rfl
    | some p =>
      funext j
      simp only [IS.gen, look, Option.map_some, updO, upd]
      cases hb : Nat.beq j p.1 with
      | false => rfl
      | true => have := Nat.eq_of_beq_eq_true hb; subst this; rfl
  · cases o with
    | none => rfl
    | some p => exact look_cons (IOwn.toOwn h) .none p.1 p.2 S.os
mutual
def plI : I → List Nat
  | .bx s _ _ => [s]
  | .os s _ => [s]
  | .op s _ _ _ _ => [s]
  | .ow s _ _ _ _ => [s]
  | .agg l => plIL l
  | .tup l => plIL l
  | .fn _ l => plIL l
  | .mf _ l => plIL l
  | _ => []
def plIL : List I → List Nat
  | [] => []
  | d :: l => plI d ++ plIL l
end
mutual
theorem pl_toD (h : Nat → Nat) : ∀ d : I, plD (d.toD h) = plI d
  | .int _ _ => rfl | .bool _ => rfl | .str _ => rfl | .sl _ _ => rfl | .nil => rfl | .rp _ _ => rfl | .bx _ _ _ => rfl | .os _ _ => rfl | .op _ _ _ _ _ => rfl | .ow _ _ _ _ _ => rfl | .yl _ => rfl | .one => rfl | .undef => rfl
  | .agg l => pl_toDL h l
  | .tup l => pl_toDL h l
  | .fn _ l => pl_toDL h l
  | .mf _ l => pl_toDL h l
theorem pl_toDL (h : Nat → Nat) : ∀ l : List I, plL (I.toDL h l) = plIL l
  | [] => rfl
  | d :: l => by simp only [I.toDL, plL, plIL, pl_toD h d, pl_toDL h l]
end
def plIS (Z : ISeat) (nt : Nat) (S : IS) : List Operand → List Nat
  | [] => []
  | x :: l => plI (S.ev Z nt x) ++ plIS Z nt S l
def lcI (Z : ISeat) (nt : Nat) (S : IS) (o : Oper) : Lc :=
  ⟨slotsOf o.op.operands.toList, (match lvl o with | 0 => [] | _ => plIS Z nt S o.op.operands.toList), (match lvl o with | 0 => [] | 1 => [] | _ => plIS Z nt S o.op.operands.toList)⟩
def OpOk (X : Ctx) (o : Oper) (T T' : St) : Prop := ∀ κ sv a w, Sim X κ sv T a w → ∀ K Qw, (∀ κ' sv' a' w', Sim X κ' sv' T' a' w' → K a' w') → o.wpIn X.F 0 X.Z.P a w K Qw
structure At (X : Ctx) (Z : ISeat) (nt : Nat) : Prop where
  Z : X.Z = Z.toSeat
  nt : X.nt = nt
section
variable {X : Ctx} {Z : ISeat} {nt : Nat} {S : IS} {o : Oper} {h : Nat → Nat} {T : St}
theorem ev_toSt (hX : At X Z nt) (x : Operand) : (S.toSt h).ev X x = (S.ev Z nt x).toD h := by
  cases x with
  | tmp t =>
    simp only [St.ev, IS.ev, hX.nt]
    cases Nat.blt t nt <;> rfl
  | const v => exact (toD_ofV h v).symm
  | func f => rfl
  | global g =>
    simp only [St.ev, IS.ev, hX.Z]
    rw [Z.gI_ok g h]
    cases Z.gI g <;> rfl
theorem plS_toSt (hX : At X Z nt) : ∀ l : List Operand, plS X (S.toSt h) l = plIS Z nt S l
  | [] => rfl
  | x :: l => by simp only [plS, plIS, ev_toSt hX, pl_toD, plS_toSt hX l]
theorem lc_toSt (hX : At X Z nt) : lcOf X (S.toSt h) o = lcI Z nt S o := by
  simp only [lcOf, lcI, plS_toSt hX]
  cases lvl o with
  | zero => rfl
  | succ n => cases n <;> rfl
structure Ag (X : Ctx) (Z : ISeat) (nt : Nat) (S : IS) (h : Nat → Nat) (T : St) (o : Oper) : Prop where
  at' : At X Z nt
  agr : Agree (lcOf X (S.toSt h) o) (S.toSt h) T
theorem Ag.ev (ha : Ag X Z nt S h T o) {x : Operand} (hx : x ∈ o.op.operands.toList) {d : I} (hd : S.ev Z nt x = d) : T.ev X x = d.toD h := by
  rw [agree_ev ha.agr hx, ev_toSt ha.at', hd]
theorem Ag.γ (ha : Ag X Z nt S h T o) (hl : lvl o ≠ 0) {x : Operand} (hx : x ∈ o.op.operands.toList) {s : Nat} (hs : s ∈ plI (S.ev Z nt x)) : T.γ s = h s + S.gen s :=
  agree_γ ha.agr hl hx (by rw [ev_toSt ha.at', pl_toD]; exact hs)
theorem Ag.σ (ha : Ag X Z nt S h T o) (hl : lvl o = 2) {x : Operand} (hx : x ∈ o.op.operands.toList) {s : Nat} (hs : s ∈ plI (S.ev Z nt x)) : T.σ s = (S.own s).toOwn h :=
  agree_σ ha.agr hl hx (by rw [ev_toSt ha.at', pl_toD]; exact hs)
theorem Ag.self (hX : At X Z nt) : Ag X Z nt S h (S.toSt h) o := ⟨hX, ⟨fun _ _ => rfl, fun _ _ => rfl, fun _ _ => rfl⟩⟩
def EfOk (X : Ctx) (Z : ISeat) (nt : Nat) (o : Oper) (S : IS) (e : Ef) : Prop := ∀ h T, Ag X Z nt S h T o → (∀ p, e.g = some p → T.γ p.1 = h p.1 + S.gen p.1) → OpOk X o T (T.app e.wr (e.vl h))
theorem opOk_q {d : D} {t : Nat} {g : Nat} {ow : Own} (hd : o.dst = some t) (hq : QOp X o T d) : OpOk X o T (T.app ⟨some t, none, none⟩ ⟨d, g, ow⟩) := fun κ sv a w hs K Qw hK => by
  obtain ⟨v, h1, h2⟩ := hq κ sv a w hs
  refine op_val (h2 w (Below.refl _ _)) ?_
  rw [hd]
  exact hK κ sv _ _ (hs.put (some t) h1)
theorem opOk_n {T' : St} (hn : NOp X o T T') : OpOk X o T T' := fun κ sv a w hs K Qw hK => by
  obtain ⟨v, w', κ', sv', h1, h2⟩ := hn κ sv a w hs
  rcases h1 with h1 | ⟨h1, rfl⟩
  · exact op_val h1 (hK κ' sv' _ _ h2)
  · exact op_skip h1 (hK κ' sv' _ _ h2)
theorem OpOk.wk {T1 T2 : St} (h1 : OpOk X o T T1) (hw : Wk X T1 T2) : OpOk X o T T2 := fun κ sv a w hs K Qw hK =>
  h1 κ sv a w hs K Qw fun κ' sv' a' w' hs' =>
    let ⟨κ2, sv2, hs2⟩ := hw κ' sv' a' w' hs'
    hK κ2 sv2 a' w' hs2
def vE (t : Nat) (d : I) : Ef := ⟨some t, d, none, none⟩
theorem efq {d : I} {t : Nat} (hd : o.dst = some t) (hq : ∀ h T, Ag X Z nt S h T o → QOp X o T (d.toD h)) : EfOk X Z nt o S (vE t d) := fun h T ha _ => opOk_q hd (hq h T ha)
end
def chk {R : Type} (b : Bool) (r : Option R) : Option R := bif b then r else none
theorem chk_some {R : Type} {b : Bool} {r : Option R} {x : R} (h : chk b r = some x) : b = true ∧ r = some x := by
  cases b with
  | true => exact ⟨rfl, h⟩
  | false => cases h
section
variable {α β : Type}
def takeP : Nat → List α → Option (List α)
  | 0, _ => some []
  | n + 1, d :: l => match takeP n l with
    | some m => some (d :: m)
    | none => none
  | _ + 1, [] => none
def dropP : Nat → List α → List α
  | 0, l => l
  | n + 1, _ :: l => dropP n l
  | _ + 1, [] => []
def overP : List α → Nat → List α → Option (List α)
  | l, 0, [] => some l
  | _ :: l, 0, d :: m => match overP l 0 m with
    | some k => some (d :: k)
    | none => none
  | x :: l, j + 1, m => match overP l j m with
    | some k => some (x :: k)
    | none => none
  | [], _, _ => none
def bldP (pl : Nat → Option (Nat × Nat)) : List α → List (Nat × List α) → Option (List α)
  | l, [] => some l
  | l, (i, m) :: rest => match pl i with
    | some (off, sz) => bif Nat.beq m.length sz then (match overP l off m with | some l' => bldP pl l' rest | none => none) else none
    | none => none
end
theorem take_map (h : Nat → Nat) : ∀ {n : Nat} {l m : List I}, takeP n l = some m → takeN n (I.toDL h l) = some (I.toDL h m)
  | 0, l, m, e => by simp [takeP] at e; subst e; rfl
  | n + 1, [], m, e => by simp [takeP] at e
  | n + 1, d :: l, m, e => by
    unfold takeP at e
    cases h1 : takeP n l with
    | none => rw [h1] at e; cases e
    | some m' =>
      rw [h1] at e
      simp only [Option.some.injEq] at e
      subst e
      simp only [I.toDL, takeN, take_map h h1]
theorem drop_map (h : Nat → Nat) : ∀ (n : Nat) (l : List I), dropN n (I.toDL h l) = I.toDL h (dropP n l)
  | 0, l => by simp [dropN, dropP]
  | n + 1, [] => by simp [dropN, dropP, I.toDL]
  | n + 1, d :: l => by simp only [I.toDL, dropN, dropP, drop_map h n l]
theorem over_map (h : Nat → Nat) : ∀ {l m k : List I} {j : Nat}, overP l j m = some k → overN (I.toDL h l) j (I.toDL h m) = some (I.toDL h k)
  | l, [], k, 0, e => by
    cases l <;> (simp [overP] at e; subst e; simp [I.toDL, overN])
  | [], m, k, j + 1, e => by simp [overP] at e
  | [], d :: m, k, 0, e => by simp [overP] at e
  | x :: l, d :: m, k, 0, e => by
    unfold overP at e
    cases h1 : overP l 0 m with
    | none => rw [h1] at e; cases e
    | some k' =>
      rw [h1] at e
      simp only [Option.some.injEq] at e
      subst e
      simp only [I.toDL, overN, over_map h h1]
  | x :: l, m, k, j + 1, e => by
    unfold overP at e
    cases h1 : overP l j m with
    | none => rw [h1] at e; cases e
    | some k' =>
      rw [h1] at e
      simp only [Option.some.injEq] at e
      subst e
      have := over_map h h1
      cases m <;> simp only [I.toDL, overN] at this ⊢ <;> rw [this]
theorem toDL_len (h : Nat → Nat) (l : List I) : (I.toDL h l).length = l.length := by simp [toDL_map]
theorem bld_map (h : Nat → Nat) (pl : Nat → Option (Nat × Nat)) : ∀ {ps : List (Nat × List I)} {l k : List I}, bldP pl l ps = some k → bldN pl (I.toDL h l) (ps.map fun p => (p.1, I.toDL h p.2)) = some (I.toDL h k)
  | [], l, k, e => by simp [bldP] at e; subst e; rfl
  | (i, m) :: ps, l, k, e => by
    simp only [bldP] at e
    simp only [List.map_cons, bldN, toDL_len]
    cases hp : pl i with
    | none => rw [hp] at e; cases e
    | some q =>
      obtain ⟨off, sz⟩ := q
      rw [hp] at e
      simp only at e ⊢
      cases hb : Nat.beq m.length sz with
      | false => rw [hb] at e; cases e
      | true =>
        rw [hb] at e
        simp only [cond_true] at e ⊢
        cases ho : overP l off m with
        | none => rw [ho] at e; cases e
        | some l' =>
          rw [ho] at e
          rw [over_map h ho]
          exact bld_map h pl e
theorem nth_map (h : Nat → Nat) : ∀ {l : List I} {n : Nat} {d : I}, nth l n = some d → nth (I.toDL h l) n = some (d.toD h)
  | [], n, d, e => by simp [nth] at e
  | x :: l, 0, d, e => by simp [nth] at e; subst e; rfl
  | x :: l, n + 1, d, e => by simp only [nth] at e; simp only [I.toDL, nth]; exact nth_map h e
def I.isCell : I → Bool
  | .agg _ | .tup _ | .undef => false
  | _ => true
def I.cells : I → List I
  | .agg l => l
  | d => [d]
def allC : List I → Bool
  | [] => true
  | d :: l => d.isCell && allC l
theorem isCell_toD (h : Nat → Nat) (d : I) : (d.toD h).isCell = d.isCell := by cases d <;> rfl
theorem allC_toDL (h : Nat → Nat) : ∀ l : List I, allCell (I.toDL h l) = allC l
  | [] => rfl
  | d :: l => by simp only [I.toDL, allCell, allC, isCell_toD, allC_toDL h l]
theorem cells_toD (h : Nat → Nat) (d : I) : (d.toD h).cells = I.toDL h d.cells := by cases d <;> rfl
def zI : Zr → I
  | .i k => .int k 0
  | .b => .bool false
  | .s => .str ⟨#[]⟩
  | .sl => .nil
  | .o => .one
theorem zI_toDL (h : Nat → Nat) : ∀ zs : List Zr, I.toDL h (zs.map zI) = zs.map Zr.toD
  | [] => rfl
  | z :: zs => by simp only [List.map_cons, I.toDL, zI_toDL h zs]; cases z <;> rfl
end Go.Ab
namespace Go.Ab
open Go Go.RowKit
set_option linter.all false
set_option maxHeartbeats 1000000
section
variable {R : Type} {X : Ctx} {Z : ISeat} {nt : Nat} {S : IS} {o : Oper} {r : R} {k : Ef → Option R} {t : Nat}
def isNil : Operand → Bool
  | .const (.slice none 0 0) => true
  | _ => false
theorem isNil_eq {x : Operand} (h : isNil x = true) : x = .const (.slice none 0 0) := by
  unfold isNil at h
  split at h
  · rfl
  · cases h
def slTy (Z : ISeat) (ty : Nat) : Option (Nat × T) := match nth Z.tab ty with
  | some r => bif Nat.beq r.k 3 then (match Z.ty r.el with | some t => some (r.el, t) | none => none) else none
  | none => none
def ownE (S : IS) (t s : Nat) (ow : IOwn) : Ef := ⟨some t, .os s (S.gen s + 1), some (s, S.gen s + 1), some (s, ow)⟩
theorem owned_app {h : Nat → Nat} {T : St} {t s : Nat} {ow : IOwn} (hγ : T.γ s = h s + S.gen s) : T.owned t s (ow.toOwn h) = T.app (ownE S t s ow).wr ((ownE S t s ow).vl h) := by
  unfold St.owned St.app ownE Ef.wr Ef.vl
  rw [hγ]; rfl
theorem n_nil {T : St} {x : Operand} {E z : Nat} {f : Nat → List D} (ho : o.op = .move x ∨ o.op = .assign x) (hd : o.dst = some t) (hx : x = .const (.slice none 0 0)) : NOp X o T (T.owned t t (.arr E z 0 f)) := fun κ sv a w hs => by
  subst hx
  refine ⟨.slice none 0 0, w, κ, upd sv t (.slice none 0 0), .inl ?_, ?_⟩
  · rcases ho with ho | ho <;> simp [execOp, ho, Act.eval]
  · rw [hd]
    exact sim_owned hs t t (pv := .slice none 0 0) (ow := .arr E z 0 f) rfl (below_grown (Below.refl _ _) _) (fun b hb => by cases hb)
      ⟨[], by rw [upd_same]; exact ownsAt_nil _ _ _ _, fun _ h => by omega, fun _ h => by omega, fun _ h => by omega⟩
def opMv (Z : ISeat) (nt : Nat) (S : IS) (ty : Nat) (t : Nat) (x : Operand) (k : Ef → Option R) : Option R :=
  bif isNil x then (match slTy Z ty with | some p => k (ownE S t t (.arr p.1 p.2 [])) | none => k (vE t .nil)) else k (vE t (S.ev Z nt x))
theorem opMv_ok {x : Operand} {ty : Nat} (ho : o.op = .move x ∨ o.op = .assign x) (hd : o.dst = some t) (h : opMv Z nt S ty t x k = some r) : ∃ e, k e = some r ∧ EfOk X Z nt o S e := by
  have q : EfOk X Z nt o S (vE t (S.ev Z nt x)) := efq hd fun h T ha => by
    rcases ho with ho | ho
    · exact q_move ho (ha.ev (by rw [ho]; simp [Op.operands]) rfl)
    · exact q_assign ho (ha.ev (by rw [ho]; simp [Op.operands]) rfl)
  unfold opMv at h
  cases hn : isNil x with
  | false => rw [hn] at h; exact ⟨_, h, q⟩
  | true =>
    rw [hn] at h
    have hx := isNil_eq hn
    simp only [cond_true] at h
    cases hs : slTy Z ty with
    | none =>
      rw [hs] at h
      have : S.ev Z nt x = .nil := by rw [hx]; rfl
      rw [this] at q
      exact ⟨_, h, q⟩
    | some p =>
      rw [hs] at h
      refine ⟨_, h, fun h T ha hg => ?_⟩
      rw [← owned_app (hg _ rfl)]
      exact opOk_n (n_nil ho hd hx)
def opPk (Z : ISeat) (nt : Nat) (S : IS) (t : Nat) (c x y : Operand) (k : Ef → Option R) : Option R := match S.ev Z nt c with
  | .bool b => bif b then k (vE t (S.ev Z nt x)) else k (vE t (S.ev Z nt y))
  | _ => none
theorem opPk_ok {c x y : Operand} (ho : o.op = .pick c x y) (hd : o.dst = some t) (h : opPk Z nt S t c x y k = some r) : ∃ e, k e = some r ∧ EfOk X Z nt o S e := by
  unfold opPk at h
  split at h
  · rename_i b hb
    cases b with
    | true => exact ⟨_, h, efq hd fun h T ha => q_pickT ho (ha.ev (by rw [ho]; simp [Op.operands]) hb) (ha.ev (by rw [ho]; simp [Op.operands]) rfl)⟩
    | false => exact ⟨_, h, efq hd fun h T ha => q_pickF ho (ha.ev (by rw [ho]; simp [Op.operands]) hb) (ha.ev (by rw [ho]; simp [Op.operands]) rfl)⟩
  · cases h
def zh : Nat → Nat := fun _ => 0
theorem eqL_h (h : Nat → Nat) : ∀ {l m : List I} {b : Bool}, eqL (I.toDL zh l) (I.toDL zh m) = some b → eqL (I.toDL h l) (I.toDL h m) = some b
  | [], [], b, e => e
  | [], _ :: _, b, e => by simp [I.toDL, eqL] at e
  | x :: l, [], b, e => by cases x <;> simp [I.toDL, I.toD, eqL, slD] at e
  | x :: l, y :: m, b, e => by
    cases x <;> cases y <;> simp only [I.toDL, I.toD, eqL, slD] at e ⊢ <;> try (cases e; done)
    · cases hk : (_ : IntKind) == _ with
      | false => simp [hk] at e
      | true =>
        simp only [hk] at e ⊢
        cases hr : eqL (I.toDL zh l) (I.toDL zh m) with
        | none => rw [hr] at e; simp at e
        | some r => rw [hr] at e; rw [eqL_h h hr]; exact e
    · cases hr : eqL (I.toDL zh l) (I.toDL zh m) with
      | none => rw [hr] at e; simp at e
      | some r => rw [hr] at e; rw [eqL_h h hr]; exact e
theorem fieldOk_h (h : Nat → Nat) (P : Program) (f : Field) (d : I) : fieldOk P f (d.toD h) = fieldOk P f (d.toD zh) := by cases d <;> rfl
theorem fieldsOk_h (h : Nat → Nat) (P : Program) : ∀ (fs : List Field) (l : List I) (n : Nat), fieldsOk P fs (I.toDL h l) n = fieldsOk P fs (I.toDL zh l) n
  | [], [], n => rfl
  | [], _ :: _, n => rfl
  | _ :: _, [], n => rfl
  | f :: fs, d :: l, n => by simp only [I.toDL, fieldsOk, fieldOk_h h, fieldsOk_h h P fs l]
theorem flatB_h (h : Nat → Nat) (P : Program) (ty : TypeId) (l : List I) : flatB P ty (I.toDL h l) = flatB P ty (I.toDL zh l) := by
  unfold flatB
  split
  · rw [fieldsOk_h]
  · rfl
theorem fields2Ok_h (h : Nat → Nat) (P : Program) : ∀ (fs : List Field) (l : List I) (n : Nat), fields2Ok P fs (I.toDL h l) n = fields2Ok P fs (I.toDL zh l) n
  | [], [], n => rfl
  | [], _ :: _, n => rfl
  | f :: fs, l, n => by
    have e1 : ∀ h : Nat → Nat, ∀ (l : List I) k, (I.toDL h l).take k = I.toDL h (l.take k) := fun h l k => by simp [toDL_map, List.map_take]
    have e2 : ∀ h : Nat → Nat, ∀ (l : List I) k, (I.toDL h l).drop k = I.toDL h (l.drop k) := fun h l k => by simp [toDL_map, List.map_drop]
    have e3 : ∀ (l : List I), (I.toDL h l).length = (I.toDL zh l).length := fun l => by simp [toDL_map]
    simp only [fields2Ok, e1, e2, flatB_h h, e3, fields2Ok_h h P fs]
theorem flatA_h (h : Nat → Nat) (P : Program) (ty : TypeId) (l : List I) : flatA P ty (I.toDL h l) = flatA P ty (I.toDL zh l) := by
  unfold flatA flat2B
  rw [flatB_h]
  split
  · rw [fields2Ok_h]
  · rfl
def opBin (Z : ISeat) (t : Nat) (op : BinOp) (ty : TypeId) (k : Ef → Option R) : I → I → Option R
  | .int k1 m, .int k2 n => match op with
    | .eql => chk (decide (k1 = k2)) (k (vE t (.bool (m == n))))
    | .neq => chk (decide (k1 = k2)) (k (vE t (.bool (m != n))))
    | .lss => chk (decide (k1 = k2)) (k (vE t (.bool (decide (m < n)))))
    | .leq => chk (decide (k1 = k2)) (k (vE t (.bool (decide (m ≤ n)))))
    | .gtr => chk (decide (k1 = k2)) (k (vE t (.bool (decide (m > n)))))
    | .geq => chk (decide (k1 = k2)) (k (vE t (.bool (decide (m ≥ n)))))
    | .add => chk (decide (k1 = k2)) (k (vE t (.int k1 (k1.wrap (m + n)))))
    | .sub => chk (decide (k1 = k2)) (k (vE t (.int k1 (k1.wrap (m - n)))))
    | .mul => chk (decide (k1 = k2)) (k (vE t (.int k1 (k1.wrap (m * n)))))
    | .quo => chk (decide (k1 = k2)) (chk (n != 0) (k (vE t (.int k1 (k1.wrap (m.tdiv n))))))
    | .rem => chk (decide (k1 = k2)) (chk (n != 0) (k (vE t (.int k1 (m.tmod n)))))
    | .xor => chk (decide (k1 = k2)) (k (vE t (.int k1 (k1.wrap (BitVec.ofInt k1.bits m ^^^ BitVec.ofInt k1.bits n).toNat))))
    | .and => chk (decide (k1 = k2)) (k (vE t (.int k1 (k1.wrap (BitVec.ofInt k1.bits m &&& BitVec.ofInt k1.bits n).toNat))))
    | .shr => chk (decide (0 ≤ n)) (k (vE t (.int k1 (m.fdiv (2 ^ (min n.toNat k1.bits))))))
    | .shl => chk (decide (0 ≤ n)) (k (vE t (.int k1 (k1.wrap (m * 2 ^ (min n.toNat k1.bits))))))
    | _ => none
  | .bool a, .bool b => match op with
    | .eql => chk (Z.isB ty) (k (vE t (.bool (a == b))))
    | .neq => chk (Z.isB ty) (k (vE t (.bool (!(a == b)))))
    | _ => none
  | .str a, .str b => (match op with
    | .eql => k (vE t (.bool (a.toList == b.toList)))
    | .neq => k (vE t (.bool (!(a.toList == b.toList))))
    | _ => none)
  | .agg l, .agg m => chk (flatA Z.P ty (I.toDL zh l)) (match eqL (I.toDL zh l) (I.toDL zh m) with
    | some b => (match op with
      | .eql => k (vE t (.bool b))
      | .neq => k (vE t (.bool (!b)))
      | _ => none)
    | none => none)
  | _, _ => none
theorem opBin_ok (hX : At X Z nt) {op : BinOp} {ty ty2 : TypeId} {x y : Operand} (ho : o.op = .binOp op ty x y ty2) (hd : o.dst = some t) (h : opBin Z t op ty k (S.ev Z nt x) (S.ev Z nt y) = some r) : ∃ e, k e = some r ∧ EfOk X Z nt o S e := by
  have mx : x ∈ o.op.operands.toList := by rw [ho]; simp [Op.operands]
  have my : y ∈ o.op.operands.toList := by rw [ho]; simp [Op.operands]
  unfold opBin at h
  split at h
  · rename_i k1 m k2 n hx hy
    have cm : ∀ {b : Bool}, k1 = k2 → cmpI op m n = some b → EfOk X Z nt o S (vE t (.bool b)) := fun e hc => by
      subst e
      exact efq hd fun h T ha => q_cmp ho (ha.ev mx hx) (ha.ev my hy) hc
    have ar : ∀ {e : Int}, k1 = k2 → arithI op m n = some e → EfOk X Z nt o S (vE t (.int k1 (k1.wrap e))) := fun e hc => by
      subst e
      exact efq hd fun h T ha => q_arithw ho (ha.ev mx hx) (ha.ev my hy) hc
    split at h <;> first
      | (obtain ⟨h1, h2⟩ := chk_some h; exact ⟨_, h2, cm (of_decide_eq_true h1) rfl⟩)
      | (obtain ⟨h1, h2⟩ := chk_some h; exact ⟨_, h2, ar (of_decide_eq_true h1) rfl⟩)
      | (obtain ⟨h1, h⟩ := chk_some h
         obtain ⟨h3, h2⟩ := chk_some h
         have := of_decide_eq_true h1
         subst this
         have hn : n ≠ 0 := by simpa using h3
         refine ⟨_, h2, efq hd fun h T ha => ?_⟩
         first
          | exact q_quot ho (ha.ev mx hx) (ha.ev my hy) hn
          | exact q_remt ho (ha.ev mx hx) (ha.ev my hy) hn)
      | (obtain ⟨h1, h2⟩ := chk_some h
         have := of_decide_eq_true h1
         subst this
         refine ⟨_, h2, efq hd fun h T ha => ?_⟩
         first
          | exact q_xor ho (ha.ev mx hx) (ha.ev my hy)
          | exact q_and ho (ha.ev mx hx) (ha.ev my hy))
      | (obtain ⟨h1, h2⟩ := chk_some h
         have := of_decide_eq_true h1
         refine ⟨_, h2, efq hd fun h T ha => ?_⟩
         first
          | exact q_shr ho (ha.ev mx hx) (ha.ev my hy) this
          | exact q_shl ho (ha.ev mx hx) (ha.ev my hy) this)
      | cases h
  · rename_i a b hx hy
    split at h
    · obtain ⟨h1, h2⟩ := chk_some h
      exact ⟨_, h2, efq hd fun h T ha => q_beq ho (by rw [hX.Z]; exact Z.isB_ok _ h1) (ha.ev mx hx) (ha.ev my hy)⟩
    · obtain ⟨h1, h2⟩ := chk_some h
      exact ⟨_, h2, efq hd fun h T ha => q_bneq ho (by rw [hX.Z]; exact Z.isB_ok _ h1) (ha.ev mx hx) (ha.ev my hy)⟩
    · cases h
  · rename_i a b hx hy
    split at h
    · exact ⟨_, h, efq hd fun h T ha => q_eqS ho (ha.ev mx hx) (ha.ev my hy)⟩
    · exact ⟨_, h, efq hd fun h T ha => q_neS ho (ha.ev mx hx) (ha.ev my hy)⟩
    · cases h
  · rename_i l m hx hy
    obtain ⟨h1, h⟩ := chk_some h
    split at h
    · rename_i b hb
      split at h
      · exact ⟨_, h, efq hd fun h T ha => q_eqA ho (ha.ev mx hx) (ha.ev my hy) (eqL_h h hb) (by rw [hX.Z, flatA_h]; exact h1)⟩
      · exact ⟨_, h, efq hd fun h T ha => q_neA ho (ha.ev mx hx) (ha.ev my hy) (eqL_h h hb) (by rw [hX.Z, flatA_h]; exact h1)⟩
      · cases h
    · cases h
  · cases h
theorem q_negw {T : St} {ty : TypeId} {x : Operand} {kk : IntKind} {n : Int} (ho : o.op = .unOp .neg ty x) (hx : T.ev X x = .int kk n) : QOp X o T (.int kk (kk.wrap (-n))) := fun κ sv a w hs =>
  ⟨.int kk (kk.wrap (-n)), .int _ _, fun w' _ => by simp [execOp, ho, ev_int hs hx, Op.unary, Op.intArith]⟩
def opUn (t : Nat) (op : UnOp) (k : Ef → Option R) : I → Option R
  | .bool b => match op with | .not => k (vE t (.bool (!b))) | _ => none
  | .int kk n => match op with | .neg => k (vE t (.int kk (kk.wrap (-n)))) | _ => none
  | _ => none
theorem opUn_ok {op : UnOp} {ty : TypeId} {x : Operand} (ho : o.op = .unOp op ty x) (hd : o.dst = some t) (h : opUn t op k (S.ev Z nt x) = some r) : ∃ e, k e = some r ∧ EfOk X Z nt o S e := by
  have mx : x ∈ o.op.operands.toList := by rw [ho]; simp [Op.operands]
  unfold opUn at h
  split at h
  · rename_i b hx
    split at h
    · exact ⟨_, h, efq hd fun h T ha => q_not ho (ha.ev mx hx)⟩
    · cases h
  · rename_i b hx
    split at h
    · exact ⟨_, h, efq hd fun h T ha => q_negw ho (ha.ev mx hx)⟩
    · cases h
  · cases h
def opCv (Z : ISeat) (t : Nat) (ty ty2 : TypeId) (k : Ef → Option R) : I → Option R
  | .int _ n => chk ((Z.ik ty).isSome) (match Z.ik ty2 with | some k2 => k (vE t (.int k2 (k2.wrap n))) | none => none)
  | _ => none
theorem opCv_ok (hX : At X Z nt) {ty ty2 : TypeId} {x : Operand} (ho : o.op = .convert ty ty2 x) (hd : o.dst = some t) (h : opCv Z t ty ty2 k (S.ev Z nt x) = some r) : ∃ e, k e = some r ∧ EfOk X Z nt o S e := by
  have mx : x ∈ o.op.operands.toList := by rw [ho]; simp [Op.operands]
  unfold opCv at h
  split at h
  · rename_i kk n hx
    obtain ⟨h1, h⟩ := chk_some h
    obtain ⟨k1, e1⟩ := Option.isSome_iff_exists.1 h1
    split at h
    · rename_i k2 e2
      exact ⟨_, h, efq hd fun h T ha => q_conv ho (by rw [hX.Z, Z.ik_ok _ _ e1]; rfl) (by rw [hX.Z]; exact Z.ik_ok _ _ e2) (ha.ev mx hx)⟩
    · cases h
  · cases h
def opEx (t i : Nat) (k : Ef → Option R) : I → Option R
  | .tup l => match nth l i with | some d => k (vE t d) | none => none
  | _ => none
theorem opEx_ok {i : Nat} {x : Operand} (ho : o.op = .extract x i) (hd : o.dst = some t) (h : opEx t i k (S.ev Z nt x) = some r) : ∃ e, k e = some r ∧ EfOk X Z nt o S e := by
  have mx : x ∈ o.op.operands.toList := by rw [ho]; simp [Op.operands]
  unfold opEx at h
  split at h
  · rename_i l hx
    split at h
    · rename_i d hi
      exact ⟨_, h, efq hd fun h T ha => q_ext ho (ha.ev mx hx) (nth_map h hi)⟩
    · cases h
  · cases h
end
end Go.Ab
namespace Go.Ab
open Go Go.RowKit
set_option linter.all false
set_option maxHeartbeats 1000000
section
variable {R : Type} {X : Ctx} {Z : ISeat} {nt : Nat} {S : IS} {o : Oper} {r : R} {k : Ef → Option R} {t : Nat}
def rowOf (Z : ISeat) (ty : Nat) (k : TRow → Option R) : Option R := match nth Z.tab ty with
  | some q => bif Nat.beq q.k 9 then none else k q
  | none => none
theorem rowOf_ok {ty : Nat} {f : TRow → Option R} (h : rowOf Z ty f = some r) : ∃ q, nth Z.tab ty = some q ∧ Nat.beq q.k 9 = false ∧ f q = some r := by
  unfold rowOf at h
  split at h
  · rename_i q hq
    cases hb : Nat.beq q.k 9 with
    | true => rw [hb] at h; cases h
    | false => rw [hb] at h; exact ⟨q, hq, hb, h⟩
  · cases h
def isAg (q : TRow) : Bool := Nat.beq q.k 1 || Nat.beq q.k 2
theorem q_fielda {T : St} {ty : TypeId} {x : Operand} {f off fsz : Nat} {l m : List D} {q : TRow} (ho : o.op = .field ty x f) (hx : T.ev X x = .agg l) (hr : nth X.Z.tab ty = some q) (hk : Nat.beq q.k 1 = true)
    (hf : nth q.fl f = some (off, fsz, true)) (hm : takeN fsz (dropN off l) = some m) : QOp X o T (.agg m) := fun κ sv a w hs => by
  have hok := X.Z.tabOk _ _ hr (by intro e; rw [e] at hk; cases hk)
  obtain ⟨i, dd, hi, hdd, _, _, _, h4⟩ := row_info hok
  have hk1 := Nat.eq_of_beq_eq_true hk
  cases dd <;> try (simp only at h4; omega)
  rename_i fs
  obtain ⟨_, hfl, hall⟩ := h4
  rw [nth_eq, ← hfl, List.getElem?_map] at hf
  obtain ⟨rfl, hlen⟩ := takeN_eq hm
  rw [dropN_eq] at hlen ⊢
  obtain ⟨vs, he, hl⟩ := ev_agg hs hx
  refine ⟨.agg ((vs.drop off).take fsz).toArray, .agg _ _ ((hl.drop _).take _), fun w' _ => ?_⟩
  cases hff : fs.toList[f]? with
  | none => rw [hff] at hf; cases hf
  | some fld =>
    rw [hff] at hf
    simp only [Option.map_some, Option.some.injEq, Prod.mk.injEq] at hf
    obtain ⟨h1, h2, h3⟩ := hf
    have hsome := List.all_eq_true.1 hall fld (List.mem_of_getElem? hff)
    rw [Bool.and_eq_true] at hsome
    obtain ⟨d2, hu2⟩ := Option.isSome_iff_exists.1 hsome.2
    obtain ⟨i2, hi2⟩ := Option.isSome_iff_exists.1 hsome.1
    have hff' : fs[f]? = some fld := by simpa using hff
    have hagg : (isAgg fld.type).run X.Z.P w' = .ok true w' := by rw [run_isAgg hu2, h3]
    have hsz : i2.size = fsz := by rw [← cellsOf_eq hi2, h2]
    have hext : vs.toArray.extract off (off + fsz) = ((vs.drop off).take fsz).toArray := by simp [List.extract_eq_drop_take]
    simp [execOp, ho, he, Instr.field, run_underlying hdd, hff', asAgg, part, hagg, h1, run_sizeOf hi2, hsz, hext]
def opFd (Z : ISeat) (t ty f : Nat) (k : Ef → Option R) : I → Option R
  | .agg l => rowOf Z ty fun q => chk (Nat.beq q.k 1) (match nth q.fl f with
    | some (off, fsz, true) => (match takeP fsz (dropP off l) with | some m => k (vE t (.agg m)) | none => none)
    | some (off, _, false) => (match nth l off with | some d => k (vE t d) | none => none)
    | none => none)
  | _ => none
theorem opFd_ok (hX : At X Z nt) {ty f : Nat} {x : Operand} (ho : o.op = .field ty x f) (hd : o.dst = some t) (h : opFd Z t ty f k (S.ev Z nt x) = some r) : ∃ e, k e = some r ∧ EfOk X Z nt o S e := by
  have mx : x ∈ o.op.operands.toList := by rw [ho]; simp [Op.operands]
  unfold opFd at h
  split at h
  · rename_i l hx
    obtain ⟨q, hq, h9, h⟩ := rowOf_ok h
    obtain ⟨hk, h⟩ := chk_some h
    split at h
    · rename_i off fsz hf
      split at h
      · rename_i m hm
        exact ⟨_, h, efq hd fun h T ha => q_fielda ho (ha.ev mx hx) (by rw [hX.Z]; exact hq) hk hf (by rw [drop_map]; exact take_map h hm)⟩
      · cases h
    · rename_i off fsz hf
      split at h
      · rename_i d hm
        exact ⟨_, h, efq hd fun h T ha => q_field ho (ha.ev mx hx) (by rw [hX.Z]; exact hq) hk hf rfl (nth_map h hm)⟩
      · cases h
    · cases h
  · cases h
def partsI (Z : ISeat) (nt : Nat) (S : IS) : List (Nat × Operand) → List (Nat × List I)
  | [] => []
  | (i, x) :: l => (i, (S.ev Z nt x).cells) :: partsI Z nt S l
def partsB (Z : ISeat) (nt : Nat) (S : IS) : List (Nat × Operand) → Bool
  | [] => true
  | (_, x) :: l => allC (S.ev Z nt x).cells && partsB Z nt S l
theorem parts_map {h : Nat → Nat} {T : St} (ha : Ag X Z nt S h T o) : ∀ {l : List (Nat × Operand)}, (∀ p ∈ l, p.2 ∈ o.op.operands.toList) →
    partsD X T l = (partsI Z nt S l).map (fun p => (p.1, I.toDL h p.2)) ∧ partsOk X T l = partsB Z nt S l
  | [], _ => ⟨rfl, rfl⟩
  | (i, x) :: l, hm => by
    obtain ⟨h1, h2⟩ := parts_map ha (l := l) fun p hp => hm p (List.mem_cons_of_mem _ hp)
    have h3 := ha.ev (hm (i, x) (List.mem_cons_self ..)) rfl
    simp only at h3
    simp only [partsD, partsI, partsOk, partsB, List.map_cons, h1, h2, h3, cells_toD, allC_toDL, and_self]
def opBd (Z : ISeat) (nt : Nat) (S : IS) (t ty : Nat) (ps : Array (Nat × Operand)) (k : Ef → Option R) : Option R := rowOf Z ty fun q => chk (partsB Z nt S ps.toList)
  (bif Nat.beq q.k 1 then (match bldP (plF q.fl) (q.zs.map zI) (partsI Z nt S ps.toList) with | some l => k (vE t (.agg l)) | none => none)
   else chk (Nat.beq q.k 2) (rowOf Z q.el fun q2 => match bldP (fun i => some (i * q2.sz, q2.sz)) (q.zs.map zI) (partsI Z nt S ps.toList) with | some l => k (vE t (.agg l)) | none => none))
theorem opBd_ok (hX : At X Z nt) {ty : Nat} {ps : Array (Nat × Operand)} (ho : o.op = .build ty ps) (hd : o.dst = some t) (h : opBd Z nt S t ty ps k = some r) : ∃ e, k e = some r ∧ EfOk X Z nt o S e := by
  have hm : ∀ p ∈ ps.toList, p.2 ∈ o.op.operands.toList := fun p hp => by rw [ho]; simp only [Op.operands]; exact List.mem_map.2 ⟨p, hp, rfl⟩
  unfold opBd at h
  obtain ⟨q, hq, h9, h⟩ := rowOf_ok h
  obtain ⟨hp, h⟩ := chk_some h
  cases hk : Nat.beq q.k 1 with
  | true =>
    rw [hk] at h
    simp only [cond_true] at h
    split at h
    · rename_i l hl
      refine ⟨_, h, efq hd fun h T ha => ?_⟩
      obtain ⟨h1, h2⟩ := parts_map ha hm
      exact q_bld ho (by rw [hX.Z]; exact hq) hk (h2.trans hp) (by rw [h1, ← zI_toDL h]; exact bld_map h _ hl)
    · cases h
  | false =>
    rw [hk] at h
    simp only [cond_false] at h
    obtain ⟨hk2, h⟩ := chk_some h
    obtain ⟨q2, hq2, h92, h⟩ := rowOf_ok h
    split at h
    · rename_i l hl
      refine ⟨_, h, efq hd fun h T ha => ?_⟩
      obtain ⟨h1, h2⟩ := parts_map ha hm
      exact q_blda ho (by rw [hX.Z]; exact hq) hk2 rfl (by rw [hX.Z]; exact hq2) h92 (h2.trans hp) (by rw [h1, ← zI_toDL h]; exact bld_map h _ hl)
    · cases h
def ldC (q : TRow) (t : Nat) (l : List I) (j : Nat) (k : Ef → Option R) : Option R :=
  bif isAg q then (match takeP q.sz (dropP j l) with | some m => k (vE t (.agg m)) | none => none) else (match nth l j with | some d => k (vE t d) | none => none)
theorem ldC_ok {q : TRow} {l : List I} {j : Nat} (h : ldC q t l j k = some r) : (isAg q = true ∧ ∃ m, takeP q.sz (dropP j l) = some m ∧ k (vE t (.agg m)) = some r) ∨ (isAg q = false ∧ ∃ d, nth l j = some d ∧ k (vE t d) = some r) := by
  unfold ldC at h
  cases ha : isAg q with
  | true =>
    rw [ha] at h
    simp only [cond_true] at h
    split at h
    · exact .inl ⟨rfl, _, by assumption, h⟩
    · cases h
  | false =>
    rw [ha] at h
    simp only [cond_false] at h
    split at h
    · exact .inr ⟨rfl, _, by assumption, h⟩
    · cases h
def rowI (ty : T) (l : List (den ty)) (i : Nat) : List I := encC ty (l.getD i (dflt ty))
def opLd (Z : ISeat) (S : IS) (t ty : Nat) (k : Ef → Option R) : I → Option R
  | .rp l j => bif Z.isF ty then (match nth l j with | some d => k (vE t d) | none => none) else rowOf Z ty fun q => ldC q t l j k
  | .bx s g j => bif Z.isF ty then (bif Nat.beq g (S.gen s) then (match S.own s with | .box l => (match nth l j with | some d => k (vE t d) | none => none) | _ => none) else none) else rowOf Z ty fun q => bif Nat.beq g (S.gen s) then (match S.own s with | .box l => ldC q t l j k | _ => none) else none
  | .op s g z i j => rowOf Z ty fun q => bif Nat.beq g (S.gen s) then (match S.own s with | .arr _ e l => chk (Nat.beq z (sz e)) (chk (decide (i < l.length)) (ldC q t (rowI e l i) j k)) | _ => none) else none
  | _ => none
theorem pl_bx {x : Operand} {s g j : Nat} (hx : S.ev Z nt x = .bx s g j) : s ∈ plI (S.ev Z nt x) := by rw [hx]; simp [plI]
theorem pl_os {x : Operand} {s g : Nat} (hx : S.ev Z nt x = .os s g) : s ∈ plI (S.ev Z nt x) := by rw [hx]; simp [plI]
theorem pl_op {x : Operand} {s g z i j : Nat} (hx : S.ev Z nt x = .op s g z i j) : s ∈ plI (S.ev Z nt x) := by rw [hx]; simp [plI]
theorem opLd_ok (hX : At X Z nt) {ty : Nat} {x : Operand} (ho : o.op = .load ty x) (hd : o.dst = some t) (h : opLd Z S t ty k (S.ev Z nt x) = some r) : ∃ e, k e = some r ∧ EfOk X Z nt o S e := by
  have mx : x ∈ o.op.operands.toList := by rw [ho]; simp [Op.operands]
  have hl2 : lvl o = 2 := by simp [lvl, ho]
  have hl1 : lvl o ≠ 0 := by rw [hl2]; simp
  unfold opLd at h
  split at h
  · rename_i l j hx
    cases hF : Z.isF ty with
    | true =>
      rw [hF] at h
      simp only [cond_true] at h
      obtain ⟨td, hu, ha0⟩ := Z.isF_ok _ hF
      split at h
      · rename_i d hm
        exact ⟨_, h, efq hd fun h T ha => q_ldrf ho (ha.ev mx hx) (by rw [hX.Z]; exact hu) (by rw [hX.Z]; exact ha0) (nth_map h hm)⟩
      · cases h
    | false =>
    rw [hF] at h
    simp only [cond_false] at h
    obtain ⟨q, hq, h9, h⟩ := rowOf_ok h
    rcases ldC_ok h with ⟨hk, m, hm, h⟩ | ⟨hk, d, hm, h⟩
    · exact ⟨_, h, efq hd fun h T ha => q_ldra ho (ha.ev mx hx) (by rw [hX.Z]; exact hq) hk h9 (by rw [drop_map]; exact take_map h hm)⟩
    · exact ⟨_, h, efq hd fun h T ha => q_ldr ho (ha.ev mx hx) (by rw [hX.Z]; exact hq) hk h9 (nth_map h hm)⟩
  · rename_i s g j hx
    cases hF : Z.isF ty with
    | true =>
      rw [hF] at h
      simp only [cond_true] at h
      obtain ⟨td, hu, ha0⟩ := Z.isF_ok _ hF
      cases hg : Nat.beq g (S.gen s) with
      | false => rw [hg] at h; cases h
      | true =>
      have hg := Nat.eq_of_beq_eq_true hg
      subst hg
      simp only [Nat.beq_refl, cond_true] at h
      split at h
      · rename_i l hσ
        have hp := pl_bx hx
        split at h
        · rename_i d hm
          exact ⟨_, h, efq hd fun h T ha => q_ldbf ho (ha.ev mx hx) (by rw [hX.Z]; exact hu) (by rw [hX.Z]; exact ha0) (ha.γ hl1 mx hp) ((ha.σ hl2 mx hp).trans (by rw [hσ]; rfl)) (nth_map h hm)⟩
        · cases h
      · cases h
    | false =>
    rw [hF] at h
    simp only [cond_false] at h
    obtain ⟨q, hq, h9, h⟩ := rowOf_ok h
    cases hg : Nat.beq g (S.gen s) with
    | false => rw [hg] at h; cases h
    | true =>
    have hg := Nat.eq_of_beq_eq_true hg
    subst hg
    simp only [Nat.beq_refl, cond_true] at h
    split at h
    · rename_i l hσ
      have hp := pl_bx hx
      rcases ldC_ok h with ⟨hk, m, hm, h⟩ | ⟨hk, d, hm, h⟩
      · exact ⟨_, h, efq hd fun h T ha => q_ldba ho (ha.ev mx hx) (by rw [hX.Z]; exact hq) hk h9 (ha.γ hl1 mx hp) ((ha.σ hl2 mx hp).trans (by rw [hσ]; rfl)) (by rw [drop_map]; exact take_map h hm)⟩
      · exact ⟨_, h, efq hd fun h T ha => q_ldb ho (ha.ev mx hx) (by rw [hX.Z]; exact hq) hk h9 (ha.γ hl1 mx hp) ((ha.σ hl2 mx hp).trans (by rw [hσ]; rfl)) (nth_map h hm)⟩
    · cases h
  · rename_i s g z i j hx
    obtain ⟨q, hq, h9, h⟩ := rowOf_ok h
    cases hg : Nat.beq g (S.gen s) with
    | false => rw [hg] at h; cases h
    | true =>
    have hg := Nat.eq_of_beq_eq_true hg
    subst hg
    simp only [Nat.beq_refl, cond_true] at h
    split at h
    · rename_i E e l hσ
      obtain ⟨hz0, h2⟩ := chk_some h
      obtain ⟨hi0, h3⟩ := chk_some h2
      clear h h2
      have hz := Nat.eq_of_beq_eq_true hz0
      clear hz0
      subst hz
      have hi := of_decide_eq_true hi0
      have h := h3
      clear h3
      have hp := pl_op hx
      have er : ∀ h : Nat → Nat, encD e (l.getD i (dflt e)) = I.toDL h (rowI e l i) := fun h => (toDL_enc h e _).symm
      have hσT : ∀ h T, Ag X Z nt S h T o → T.σ s = .arr E (sz e) l.length (fun i => encD e (l.getD i (dflt e))) := fun h T ha => (ha.σ hl2 mx hp).trans (by rw [hσ]; rfl)
      rcases ldC_ok h with ⟨hk, m, hm, h⟩ | ⟨hk, d, hm, h⟩
      · exact ⟨_, h, efq hd fun h T ha => q_ldoa ho (ha.ev mx hx) (by rw [hX.Z]; exact hq) hk h9 (ha.γ hl1 mx hp) (hσT h T ha) hi (by rw [er h, drop_map]; exact take_map h hm)⟩
      · exact ⟨_, h, efq hd fun h T ha => q_ldo ho (ha.ev mx hx) (by rw [hX.Z]; exact hq) hk h9 (ha.γ hl1 mx hp) (hσT h T ha) hi (by rw [er h]; exact nth_map h hm)⟩
    · cases h
  · cases h
end
end Go.Ab
namespace Go.Ab
open Go Go.RowKit
set_option linter.all false
set_option maxHeartbeats 1000000
section
variable {R : Type} {X : Ctx} {Z : ISeat} {nt : Nat} {S : IS} {o : Oper} {r : R} {k : Ef → Option R} {t : Nat}
def live (S : IS) (s g : Nat) (x : Option R) : Option R := bif Nat.beq g (S.gen s) then x else none
theorem live_ok {s g : Nat} {x : Option R} (h : live S s g x = some r) : g = S.gen s ∧ x = some r := by
  unfold live at h
  cases hg : Nat.beq g (S.gen s) with
  | false => rw [hg] at h; cases h
  | true => rw [hg] at h; exact ⟨Nat.eq_of_beq_eq_true hg, h⟩
def opFa (Z : ISeat) (S : IS) (t ty f : Nat) (k : Ef → Option R) (d : I) : Option R := rowOf Z ty fun q => chk (Nat.beq q.k 1) (match nth q.fl f with
  | some (off, fsz, _) => bif Nat.beq fsz 0 then none else (match d with
    | .rp l j => k (vE t (.rp l (j + off)))
    | .bx s g j => live S s g (k (vE t (.bx s g (j + off))))
    | .op s g z i j => live S s g (k (vE t (.op s g z i (j + off))))
    | _ => none)
  | none => none)
theorem opFa_ok (hX : At X Z nt) {ty f : Nat} {x : Operand} (ho : o.op = .fieldAddr ty x f) (hd : o.dst = some t) (h : opFa Z S t ty f k (S.ev Z nt x) = some r) : ∃ e, k e = some r ∧ EfOk X Z nt o S e := by
  have mx : x ∈ o.op.operands.toList := by rw [ho]; simp [Op.operands]
  have hl1 : lvl o ≠ 0 := by simp [lvl, ho]
  unfold opFa at h
  obtain ⟨q, hq, h9, h⟩ := rowOf_ok h
  obtain ⟨hk, h⟩ := chk_some h
  split at h
  · rename_i off fsz ag hf
    cases hz : Nat.beq fsz 0 with
    | true => rw [hz] at h; cases h
    | false =>
      rw [hz] at h
      simp only [cond_false] at h
      split at h
      · rename_i l j hx
        exact ⟨_, h, efq hd fun h T ha => q_far ho (ha.ev mx hx) (by rw [hX.Z]; exact hq) hk hf hz⟩
      · rename_i s g j hx
        replace h := live_ok h
        obtain ⟨rfl, h⟩ := h
        exact ⟨_, h, efq hd fun h T ha => q_fab ho (ha.ev mx hx) (ha.γ hl1 mx (pl_bx hx)) (by rw [hX.Z]; exact hq) hk hf hz⟩
      · rename_i s g z i j hx
        replace h := live_ok h
        obtain ⟨rfl, h⟩ := h
        exact ⟨_, h, efq hd fun h T ha => q_fao ho (ha.ev mx hx) (ha.γ hl1 mx (pl_op hx)) (by rw [hX.Z]; exact hq) hk hf hz⟩
      · cases h
  · cases h
def finIx (i : Int) (k : Nat → Option R) : Nat → Nat → Option R
  | 0, _ => none
  | n + 1, a => bif i == (a : Int) then k a else finIx i k n (a + 1)
theorem finIx_ok {i : Int} {k : Nat → Option R} : ∀ {n a : Nat}, finIx i k n a = some r → ∃ j : Nat, i = (j : Int) ∧ j < a + n ∧ k j = some r
  | 0, a, h => by cases h
  | n + 1, a, h => by
    unfold finIx at h
    cases hb : i == (a : Int) with
    | true => rw [hb] at h; exact ⟨a, by simpa using hb, by omega, h⟩
    | false =>
      rw [hb] at h
      obtain ⟨j, h1, h2, h3⟩ := finIx_ok h
      exact ⟨j, h1, by omega, h3⟩
theorem q_iaop {T : St} {ty : TypeId} {x y : Operand} {r q : TRow} {s g z i j : Nat} {k : Int} (ho : o.op = .indexAddr ty x y) (hx : T.ev X x = .op s g z i j) (hg : T.γ s = g) (hy : T.ev X y = .int .i64 k) (h0 : 0 ≤ k)
    (hr : nth X.Z.tab ty = some r) (hk : Nat.beq r.k 2 = true) (h1 : k < r.ln) (hq : nth X.Z.tab r.el = some q) (hq9 : Nat.beq q.k 9 = false) : QOp X o T (.op s g z i (j + k.toNat * q.sz)) := fun κ sv a w hs => by
  have hok := X.Z.tabOk _ _ hr (by intro e; rw [e] at hk; cases hk)
  have hokq := X.Z.tabOk _ _ hq (by intro e; rw [e] at hq9; cases hq9)
  have hyv := rep_int (hy ▸ hs.ev y)
  obtain ⟨b, off, n, cap, e1, e2⟩ := live_op hs hx hg
  exact ⟨.pointer (some ⟨b, off + (i * z + (j + k.toNat * q.sz)), none⟩), .op _ _ _ _ _ _ (by omega) (fun _ => ⟨b, off, n, cap, e1, rfl⟩) rfl, fun w' _ => by
    simp [execOp, ho, e2, hyv, Instr.indexAt, asIntOf, run_underlying (array_row hok hk), Instr.sureAddr, h0, h1, run_size_row hokq, addr_add, Nat.add_assoc]⟩
def opIa (Z : ISeat) (S : IS) (t ty : Nat) (k : Ef → Option R) (d y : I) : Option R := rowOf Z ty fun q => rowOf Z q.el fun q2 => match y with
  | .int .i64 i => (match d with
    | .sl e l => chk (Nat.beq q.k 3) (chk (Nat.beq q2.sz (sz e)) (chk (decide (0 ≤ i) && decide (i < l.length)) (k (vE t (.rp (rowI e l i.toNat) 0)))))
    | .os s g => live S s g (match S.own s with
      | .arr _ e l => chk (Nat.beq q.k 3) (chk (Nat.beq q2.sz (sz e)) (chk (decide (0 ≤ i) && decide (i < l.length)) (k (vE t (.op s g (sz e) i.toNat 0)))))
      | _ => none)
    | .bx s g j => live S s g (chk (Nat.beq q.k 2) (finIx i (fun a => k (vE t (.bx s g (j + a * q2.sz)))) q.ln 0))
    | .rp l j => chk (Nat.beq q.k 2) (finIx i (fun a => k (vE t (.rp l (j + a * q2.sz)))) q.ln 0)
    | .op s g z n j => live S s g (chk (Nat.beq q.k 2) (finIx i (fun a => k (vE t (.op s g z n (j + a * q2.sz)))) q.ln 0))
    | _ => none)
  | _ => none
theorem opIa_ok (hX : At X Z nt) {ty : Nat} {x y : Operand} (ho : o.op = .indexAddr ty x y) (hd : o.dst = some t) (h : opIa Z S t ty k (S.ev Z nt x) (S.ev Z nt y) = some r) : ∃ e, k e = some r ∧ EfOk X Z nt o S e := by
  have mx : x ∈ o.op.operands.toList := by rw [ho]; simp [Op.operands]
  have my : y ∈ o.op.operands.toList := by rw [ho]; simp [Op.operands]
  have hl2 : lvl o = 2 := by simp [lvl, ho]
  have hl1 : lvl o ≠ 0 := by rw [hl2]; simp
  unfold opIa at h
  obtain ⟨q, hq, h9, h⟩ := rowOf_ok h
  obtain ⟨q2, hq2, h92, h⟩ := rowOf_ok h
  have hq' : nth X.Z.tab ty = some q := by rw [hX.Z]; exact hq
  have hq2' : nth X.Z.tab q.el = some q2 := by rw [hX.Z]; exact hq2
  split at h
  · rename_i i hy
    split at h
    · rename_i e l hx
      obtain ⟨h3, h⟩ := chk_some h
      obtain ⟨hz, h⟩ := chk_some h
      obtain ⟨hi, h⟩ := chk_some h
      simp only [Bool.and_eq_true, decide_eq_true_eq] at hi
      refine ⟨_, h, efq hd fun h T ha => ?_⟩
      have := q_ia ho (ha.ev mx hx) (ha.ev my hy) hi.1 (by simpa using hi.2) hq' h3 hq2' h92 (Nat.eq_of_beq_eq_true hz)
      simp only [I.toD, rowI, toDL_enc]
      exact this
    · rename_i s g hx
      replace h := live_ok h
      obtain ⟨rfl, h⟩ := h
      split at h
      · rename_i E e l hσ
        obtain ⟨h3, h⟩ := chk_some h
        obtain ⟨hz, h⟩ := chk_some h
        obtain ⟨hi, h⟩ := chk_some h
        simp only [Bool.and_eq_true, decide_eq_true_eq] at hi
        exact ⟨_, h, efq hd fun h T ha => q_iao ho (ha.ev mx hx) (ha.γ hl1 mx (pl_os hx)) ((ha.σ hl2 mx (pl_os hx)).trans (by rw [hσ]; rfl)) (ha.ev my hy) hi.1 (by simpa using hi.2) hq' h3 hq2' h92 (Nat.eq_of_beq_eq_true hz)⟩
      · cases h
    · rename_i s g j hx
      replace h := live_ok h
      obtain ⟨rfl, h⟩ := h
      obtain ⟨h2, h⟩ := chk_some h
      obtain ⟨a, rfl, ha, h⟩ := finIx_ok h
      exact ⟨_, h, efq hd fun h T hT => by
        have := q_iab ho (hT.ev mx hx) (hT.γ hl1 mx (pl_bx hx)) (hT.ev my hy) (by omega) hq' h2 (by omega) hq2' h92
        simpa [I.toD] using this⟩
    · rename_i l j hx
      obtain ⟨h2, h⟩ := chk_some h
      obtain ⟨a, rfl, ha, h⟩ := finIx_ok h
      exact ⟨_, h, efq hd fun h T hT => by
        have := q_iar ho (hT.ev mx hx) (hT.ev my hy) (by omega) hq' h2 (by omega) hq2' h92
        simpa [I.toD] using this⟩
    · rename_i s g z n j hx
      replace h := live_ok h
      obtain ⟨rfl, h⟩ := h
      obtain ⟨h2, h⟩ := chk_some h
      obtain ⟨a, rfl, ha, h⟩ := finIx_ok h
      exact ⟨_, h, efq hd fun h T hT => by
        have := q_iaop ho (hT.ev mx hx) (hT.γ hl1 mx (pl_op hx)) (hT.ev my hy) (by omega) hq' h2 (by omega) hq2' h92
        simpa [I.toD] using this⟩
    · cases h
  · cases h
theorem q_idxc {T : St} {ty : TypeId} {x y : Operand} {q q2 : TRow} {l : List D} {d : D} {a : Int} (ho : o.op = .index ty x y) (hx : T.ev X x = .agg l) (hy : T.ev X y = .int .i64 a) (h0 : 0 ≤ a)
    (hr : nth X.Z.tab ty = some q) (hk : Nat.beq q.k 2 = true) (h1 : a < q.ln) (hq : nth X.Z.tab q.el = some q2) (h9 : Nat.beq q2.k 9 = false) (hqk : (Nat.beq q2.k 1 || Nat.beq q2.k 2) = false) (hm : nth l (a.toNat * q2.sz) = some d) : QOp X o T d := fun κ sv ac w hs => by
  have hok := X.Z.tabOk _ _ hr (by intro e; rw [e] at hk; cases hk)
  have hokq := X.Z.tabOk _ _ hq (by intro e; rw [e] at h9; cases h9)
  have hyv := rep_int (hy ▸ hs.ev y)
  obtain ⟨vs, e1, hl⟩ := ev_agg hs hx
  obtain ⟨iq, dq, hiq, hdq, hsq, _⟩ := row_info hokq
  rw [nth_eq] at hm
  obtain ⟨v, hv, hrep⟩ := hl.get hm
  refine ⟨v, hrep, fun w' _ => ?_⟩
  have hagg : (isAgg q.el).run X.Z.P w' = .ok false w' := by rw [run_isAgg hdq, aggOf_k hokq, hqk]
  simp [execOp, ho, e1, hyv, Instr.index, asIntOf, run_underlying (array_row hok hk), h0, h1, run_size_row hokq, part, hagg, hv]
def byteAt (s : ByteArray) (i : Nat) (k : Int → Option R) : Option R := match s[i]? with
  | some b => k b.toNat
  | none => none
theorem byteAt_ok {s : ByteArray} {i : Nat} {k : Int → Option R} (h : byteAt s i k = some r) : ∃ b : UInt8, s[i]? = some b ∧ k b.toNat = some r := by
  unfold byteAt at h
  split at h
  · exact ⟨_, by assumption, h⟩
  · cases h
def opIx (Z : ISeat) (t ty : Nat) (k : Ef → Option R) (d y : I) : Option R := match d, y with
  | .agg l, .int .i64 i => rowOf Z ty fun q => rowOf Z q.el fun q2 => chk (Nat.beq q.k 2) (finIx i (fun a => ldC q2 t l (a * q2.sz) k) q.ln 0)
  | .str s, .int .i64 i => chk (Z.isS ty) (chk (decide (0 ≤ i)) (byteAt s i.toNat fun b => k (vE t (.int .u8 b))))
  | _, _ => none
theorem opIx_ok (hX : At X Z nt) {ty : Nat} {x y : Operand} (ho : o.op = .index ty x y) (hd : o.dst = some t) (h : opIx Z t ty k (S.ev Z nt x) (S.ev Z nt y) = some r) : ∃ e, k e = some r ∧ EfOk X Z nt o S e := by
  have mx : x ∈ o.op.operands.toList := by rw [ho]; simp [Op.operands]
  have my : y ∈ o.op.operands.toList := by rw [ho]; simp [Op.operands]
  unfold opIx at h
  split at h
  · rename_i l i hx hy
    obtain ⟨q, hq, h9, h⟩ := rowOf_ok h
    obtain ⟨q2, hq2, h92, h⟩ := rowOf_ok h
    have hq' : nth X.Z.tab ty = some q := by rw [hX.Z]; exact hq
    have hq2' : nth X.Z.tab q.el = some q2 := by rw [hX.Z]; exact hq2
    obtain ⟨h2, h⟩ := chk_some h
    obtain ⟨a, rfl, ha, h⟩ := finIx_ok h
    rcases ldC_ok h with ⟨hk, m, hm, h⟩ | ⟨hk, d, hm, h⟩
    · exact ⟨_, h, efq hd fun h T hT => q_idx ho (hT.ev mx hx) (hT.ev my hy) (by omega) hq' h2 (by omega) hq2' hk (by rw [drop_map]; simpa using take_map h hm)⟩
    · exact ⟨_, h, efq hd fun h T hT => q_idxc ho (hT.ev mx hx) (hT.ev my hy) (by omega) hq' h2 (by omega) hq2' h92 hk (by simpa using nth_map h hm)⟩
  · rename_i s i hx hy
    obtain ⟨h1, h⟩ := chk_some h
    obtain ⟨h2, h⟩ := chk_some h
    obtain ⟨b, hb, h⟩ := byteAt_ok h
    exact ⟨_, h, efq hd fun h T hT => q_idxS ho (hT.ev mx hx) (hT.ev my hy) (by rw [hX.Z]; exact Z.isS_ok _ h1) (of_decide_eq_true h2) hb⟩
  · cases h
def opNc (S : IS) (t : Nat) (k : Ef → Option R) : I → Option R
  | .bx s g j => live S s g (k (vE t (.bx s g j)))
  | .rp l j => k (vE t (.rp l j))
  | .op s g z i j => live S s g (k (vE t (.op s g z i j)))
  | _ => none
theorem opNc_ok {x : Operand} (ho : o.op = .nilCheck x) (hd : o.dst = some t) (h : opNc S t k (S.ev Z nt x) = some r) : ∃ e, k e = some r ∧ EfOk X Z nt o S e := by
  have mx : x ∈ o.op.operands.toList := by rw [ho]; simp [Op.operands]
  have hl1 : lvl o ≠ 0 := by simp [lvl, ho]
  unfold opNc at h
  split at h
  · rename_i s g j hx
    replace h := live_ok h
    obtain ⟨rfl, h⟩ := h
    exact ⟨_, h, efq hd fun h T ha => q_nck ho (ha.ev mx hx) (ha.γ hl1 mx (pl_bx hx))⟩
  · rename_i l j hx
    exact ⟨_, h, efq hd fun h T ha => q_nckr ho (ha.ev mx hx)⟩
  · rename_i s g z i j hx
    replace h := live_ok h
    obtain ⟨rfl, h⟩ := h
    exact ⟨_, h, efq hd fun h T ha => q_ncko ho (ha.ev mx hx) (ha.γ hl1 mx (pl_op hx))⟩
  · cases h
def opLen (Z : ISeat) (S : IS) (t : Nat) (ts : Array TypeId) (k : Ef → Option R) (d : I) : Option R := match ts[0]? with
  | some ty => bif Z.isS ty then (match d with | .str b => k (vE t (.int .i64 b.size)) | _ => none) else rowOf Z ty fun q => chk (Nat.beq q.k 3) (match d with
    | .sl _ l => k (vE t (.int .i64 l.length))
    | .nil => k (vE t (.int .i64 0))
    | .os s g => live S s g (match S.own s with
      | .arr _ _ l => k (vE t (.int .i64 l.length))
      | _ => none)
    | _ => none)
  | none => none
theorem opLen_ok (hX : At X Z nt) {x : Operand} {ts : Array TypeId} (ho : o.op = .call { callee := .builtin .len, args := #[x], argTypes := ts }) (hd : o.dst = some t) (h : opLen Z S t ts k (S.ev Z nt x) = some r) : ∃ e, k e = some r ∧ EfOk X Z nt o S e := by
  have mx : x ∈ o.op.operands.toList := by rw [ho]; simp [Op.operands, Call.operands]
  have hl2 : lvl o = 2 := by simp [lvl, ho]
  have hl1 : lvl o ≠ 0 := by rw [hl2]; simp
  unfold opLen at h
  split at h
  · rename_i ty hT
    cases hS : Z.isS ty with
    | true =>
      rw [hS] at h
      simp only [cond_true] at h
      split at h
      · rename_i b hx
        exact ⟨_, h, efq hd fun h T ha => q_lenS ho hT (ha.ev mx hx) (by rw [hX.Z]; exact Z.isS_ok _ hS)⟩
      · cases h
    | false =>
    rw [hS] at h
    simp only [cond_false] at h
    obtain ⟨q, hq, h9, h⟩ := rowOf_ok h
    obtain ⟨h3, h⟩ := chk_some h
    have hq' : nth X.Z.tab ty = some q := by rw [hX.Z]; exact hq
    split at h
    · rename_i e l hx
      exact ⟨_, h, efq hd fun h T ha => q_len ho hT (ha.ev mx hx) hq' h3⟩
    · rename_i hx
      exact ⟨_, h, efq hd fun h T ha => q_len0 ho hT (ha.ev mx hx) hq' h3⟩
    · rename_i s g hx
      replace h := live_ok h
      obtain ⟨rfl, h⟩ := h
      split at h
      · rename_i E e l hσ
        exact ⟨_, h, efq hd fun h T ha => q_leno ho hT (ha.ev mx hx) (ha.γ hl1 mx (pl_os hx)) ((ha.σ hl2 mx (pl_os hx)).trans (by rw [hσ]; rfl)) hq' h3⟩
      · cases h
    · cases h
  · cases h
def opMm (t : Nat) (mx : Bool) (k : Ef → Option R) : I → I → Option R
  | .int .i64 a, .int .i64 b => bif mx then k (vE t (.int .i64 (max a b))) else k (vE t (.int .i64 (min a b)))
  | _, _ => none
theorem opMin_ok {x y : Operand} {ts : Array TypeId} (ho : o.op = .call { callee := .builtin .min, args := #[x, y], argTypes := ts }) (hd : o.dst = some t) (h : opMm t false k (S.ev Z nt x) (S.ev Z nt y) = some r) : ∃ e, k e = some r ∧ EfOk X Z nt o S e := by
  have mx : x ∈ o.op.operands.toList := by rw [ho]; simp [Op.operands, Call.operands]
  have my : y ∈ o.op.operands.toList := by rw [ho]; simp [Op.operands, Call.operands]
  unfold opMm at h
  split at h
  · rename_i a b hx hy
    exact ⟨_, h, efq hd fun h T ha => q_min ho (ha.ev mx hx) (ha.ev my hy)⟩
  · cases h
theorem opMax_ok {x y : Operand} {ts : Array TypeId} (ho : o.op = .call { callee := .builtin .max, args := #[x, y], argTypes := ts }) (hd : o.dst = some t) (h : opMm t true k (S.ev Z nt x) (S.ev Z nt y) = some r) : ∃ e, k e = some r ∧ EfOk X Z nt o S e := by
  have mx : x ∈ o.op.operands.toList := by rw [ho]; simp [Op.operands, Call.operands]
  have my : y ∈ o.op.operands.toList := by rw [ho]; simp [Op.operands, Call.operands]
  unfold opMm at h
  split at h
  · rename_i a b hx hy
    exact ⟨_, h, efq hd fun h T ha => q_max ho (ha.ev mx hx) (ha.ev my hy)⟩
  · cases h
theorem evs_map {h : Nat → Nat} {T : St} (ha : Ag X Z nt S h T o) {l : List Operand} (hm : ∀ x ∈ l, x ∈ o.op.operands.toList) : l.map (T.ev X) = I.toDL h (l.map (S.ev Z nt)) := by
  rw [toDL_map, List.map_map]
  exact List.map_congr_left fun x hx => ha.ev (hm x hx) rfl
def opMf (Z : ISeat) (nt : Nat) (S : IS) (t : Nat) (fn : Fn) (first cap : Array Operand) (k : Ef → Option R) : Option R := match fn with
  | .func f => bif Nat.beq first.toList.length 0 then k (vE t (.fn f (cap.toList.map (S.ev Z nt)))) else chk (Nat.beq cap.toList.length 0) (k (vE t (.mf f (first.toList.map (S.ev Z nt)))))
  | _ => none
theorem arr_nil {α : Type} {a : Array α} (h : Nat.beq a.toList.length 0 = true) : a = #[] := by
  have := Nat.eq_of_beq_eq_true h
  apply Array.eq_empty_of_size_eq_zero; simpa using this
theorem opMf_ok {fn : Fn} {first cap : Array Operand} (ho : o.op = .makeFunc fn first cap) (hd : o.dst = some t) (h : opMf Z nt S t fn first cap k = some r) : ∃ e, k e = some r ∧ EfOk X Z nt o S e := by
  unfold opMf at h
  split at h
  · rename_i f
    cases hb : Nat.beq first.toList.length 0 with
    | true =>
      rw [hb] at h
      have e := arr_nil hb
      subst e
      refine ⟨_, h, efq hd fun h T ha => ?_⟩
      have := q_fn (X := X) (S := T) ho
      rw [evs_map ha (fun x hx => by rw [ho]; simpa [Op.operands] using hx)] at this
      exact this
    | false =>
      rw [hb] at h
      obtain ⟨hb, h⟩ := chk_some h
      have e := arr_nil hb
      subst e
      refine ⟨_, h, efq hd fun h T ha => ?_⟩
      have := q_mf (X := X) (S := T) ho
      rw [evs_map ha (fun x hx => by rw [ho]; simpa [Op.operands] using hx)] at this
      exact this
  · cases h
def boxE (S : IS) (s : Nat) (l : List I) : Ef := ⟨some s, .bx s (S.gen s + 1) 0, some (s, S.gen s + 1), some (s, .box l)⟩
theorem boxed_eff {h : Nat → Nat} {T : St} {s : Nat} {l : List I} (hγ : T.γ s = h s + S.gen s) : T.boxed s (I.toDL h l) = T.app (boxE S s l).wr ((boxE S s l).vl h) := by
  unfold St.boxed St.app boxE Ef.wr Ef.vl
  rw [hγ]; rfl
def opBx (S : IS) (t : Nat) (k : Ef → Option R) (d : I) : Option R := chk (allC d.cells) (k (boxE S t d.cells))
theorem opBx_ok {ty : Nat} {x : Operand} (ho : o.op = .box ty x) (hd : o.dst = some t) (h : opBx S t k (S.ev Z nt x) = some r) : ∃ e, k e = some r ∧ EfOk X Z nt o S e := by
  have mx : x ∈ o.op.operands.toList := by rw [ho]; simp [Op.operands]
  unfold opBx at h
  obtain ⟨hc, h⟩ := chk_some h
  refine ⟨_, h, fun h T ha hg => ?_⟩
  rw [← boxed_eff (hg _ rfl), ← cells_toD]
  exact opOk_n (n_box ho hd (ha.ev mx rfl) (by rw [cells_toD, allC_toDL]; exact hc))
def opAl (Z : ISeat) (S : IS) (t ty : Nat) (k : Ef → Option R) : Option R := rowOf Z ty fun q => k (boxE S t (q.zs.map zI))
theorem opAl_ok (hX : At X Z nt) {ty : Nat} (ho : o.op = .alloc ty) (hd : o.dst = some t) (h : opAl Z S t ty k = some r) : ∃ e, k e = some r ∧ EfOk X Z nt o S e := by
  unfold opAl at h
  obtain ⟨q, hq, h9, h⟩ := rowOf_ok h
  refine ⟨_, h, fun h T ha hg => ?_⟩
  rw [← boxed_eff (hg _ rfl), zI_toDL]
  exact opOk_n (n_alloc ho hd (by rw [hX.Z]; exact hq) h9)
theorem nilIL_rel (h : Nat → Nat) : ∀ {l m : List I}, NilIL l m → NilL (I.toDL h l) (I.toDL h m)
  | _, _, .nil => trivial
  | _, _, .cons (.same d) h2 => ⟨.inl rfl, nilIL_rel h h2⟩
  | _, _, .cons (.nil t) h2 => ⟨.inr ⟨rfl, sz t, fun i => encD t (([] : List (den t)).getD i (dflt t)), rfl⟩, nilIL_rel h h2⟩
def stE (s : Nat) (ow : IOwn) : Ef := ⟨none, .undef, none, some (s, ow)⟩
def opSt (Z : ISeat) (S : IS) (ty : Nat) (k : Ef → Option R) (p d : I) : Option R := rowOf Z ty fun q => chk (allC d.cells) (chk (Nat.beq d.cells.length q.sz) (match p with
  | .bx s g j => live S s g (match S.own s with
    | .box l => (match overP l j d.cells with | some l' => k (stE s (.box l')) | none => none)
    | _ => none)
  | .op s g z i j => live S s g (match S.own s with
    | .arr E e l => chk (Nat.beq z (sz e)) (chk (decide (i < l.length)) (match overP (rowI e l i) j d.cells with
      | some l' => (match decC e l' with | some x => k (stE s (.arr E e (l.set i x))) | none => k (stE s (.arrp E e l i l')))
      | none => none))
    | _ => none)
  | _ => none))
theorem opSt_ok (hX : At X Z nt) {ty : Nat} {x y : Operand} (ho : o.op = .store ty x y) (hd : o.dst = none) (h : opSt Z S ty k (S.ev Z nt x) (S.ev Z nt y) = some r) : ∃ e, k e = some r ∧ EfOk X Z nt o S e := by
  have mx : x ∈ o.op.operands.toList := by rw [ho]; simp [Op.operands]
  have my : y ∈ o.op.operands.toList := by rw [ho]; simp [Op.operands]
  have hl2 : lvl o = 2 := by simp [lvl, ho]
  have hl1 : lvl o ≠ 0 := by rw [hl2]; simp
  unfold opSt at h
  obtain ⟨q, hq, h9, h⟩ := rowOf_ok h
  obtain ⟨hc, h⟩ := chk_some h
  obtain ⟨hsz, h⟩ := chk_some h
  have hq' : nth X.Z.tab ty = some q := by rw [hX.Z]; exact hq
  have hsz := Nat.eq_of_beq_eq_true hsz
  have hc' : ∀ h : Nat → Nat, allCell ((S.ev Z nt y).toD h).cells = true := fun h => by rw [cells_toD, allC_toDL]; exact hc
  have hn' : ∀ h : Nat → Nat, ((S.ev Z nt y).toD h).cells.length = q.sz := fun h => by rw [cells_toD, toDL_len]; exact hsz
  split at h
  · rename_i s g j hx
    replace h := live_ok h
    obtain ⟨rfl, h⟩ := h
    split at h
    · rename_i l hσ
      split at h
      · rename_i l' hl
        refine ⟨_, h, fun h T ha hg => ?_⟩
        have := n_stb ho (ha.ev mx hx) (ha.γ hl1 mx (pl_bx hx)) ((ha.σ hl2 mx (pl_bx hx)).trans (by rw [hσ]; rfl)) (ha.ev my rfl) (hc' h) hq' h9 (hn' h) (by rw [cells_toD]; exact over_map h hl) hd
        exact opOk_n this
      · cases h
    · cases h
  · rename_i s g z i j hx
    replace h := live_ok h
    obtain ⟨rfl, h⟩ := h
    split at h
    · rename_i E e l hσ
      obtain ⟨hz0, h2⟩ := chk_some h
      obtain ⟨hi0, h3⟩ := chk_some h2
      clear h h2
      have hz := Nat.eq_of_beq_eq_true hz0
      clear hz0
      subst hz
      have hi := of_decide_eq_true hi0
      split at h3
      · rename_i l' hl
        split at h3
        · rename_i v hv
          refine ⟨_, h3, fun h T ha hg => ?_⟩
          have hσT : T.σ s = .arr E (sz e) l.length (fun i => encD e (l.getD i (dflt e))) := (ha.σ hl2 mx (pl_op hx)).trans (by rw [hσ]; rfl)
          have := n_sto ho (ha.ev mx hx) (ha.γ hl1 mx (pl_op hx)) hσT hi (ha.ev my rfl) (hc' h) hq' h9 (hn' h) (k := I.toDL h l') (by rw [cells_toD, ← toDL_enc h]; exact over_map h hl) hd
          refine OpOk.wk (opOk_n this) ?_
          have hw := wk_arrN (X := X) (S := ⟨T.ρ, T.γ, upd T.σ s (.arr E (sz e) l.length (updF (fun i => encD e (l.getD i (dflt e))) i (I.toDL h l')))⟩) s (E := E) (z := sz e) (n := l.length) (f := updF (fun i => encD e (l.getD i (dflt e))) i (I.toDL h l')) (fun i' => encD e ((l.set i v).getD i' (dflt e))) (upd_same _ _ _) (fun i' hi' => by
            by_cases e1 : i' = i
            · subst e1
              rw [updF_same, List.getD_eq_getElem?_getD, List.getElem?_set_self hi, ← toDL_enc h]
              exact nilIL_rel h (decC_ok e hv)
            · rw [updF_ne _ _ e1]
              rw [List.getD_eq_getElem?_getD, List.getD_eq_getElem?_getD, List.getElem?_set_ne (fun h => e1 h.symm)]
              exact nilL_refl _)
          have e2 : (⟨T.ρ, T.γ, upd (upd T.σ s (.arr E (sz e) l.length (updF (fun i => encD e (l.getD i (dflt e))) i (I.toDL h l')))) s (.arr E (sz e) l.length (fun i' => encD e ((l.set i v).getD i' (dflt e))))⟩ : St) = T.app (stE s (.arr E e (l.set i v))).wr ((stE s (.arr E e (l.set i v))).vl h) := by
            unfold St.app stE Ef.wr Ef.vl
            simp only [Option.map_some, Option.map_none, updO, IOwn.toOwn, List.length_set]
            congr 1
            funext j
            simp only [upd]
            cases Nat.beq j s <;> rfl
          rw [e2] at hw
          exact hw
        · refine ⟨_, h3, fun h T ha hg => ?_⟩
          have hσT : T.σ s = .arr E (sz e) l.length (fun i => encD e (l.getD i (dflt e))) := (ha.σ hl2 mx (pl_op hx)).trans (by rw [hσ]; rfl)
          have := n_sto ho (ha.ev mx hx) (ha.γ hl1 mx (pl_op hx)) hσT hi (ha.ev my rfl) (hc' h) hq' h9 (hn' h) (k := I.toDL h l') (by rw [cells_toD, ← toDL_enc h]; exact over_map h hl) hd
          exact opOk_n this
      · cases h3
    · cases h
  · cases h
end
end Go.Ab
