/- Walks by computing: what each function of the program that the laws reach gives for what it gets, as plain Lean, and that it is so; without a condition but those that stand in each theorem. -/
import Derived.Test.YtafnhieaeejlcaaDoorW1
import Derived.Test.YtafnhieaeejlcaaDoorW2
import Derived.Test.YtafnhieaeejlcaaDoorW3
import Derived.Test.YtafnhieaeejlcaaDoorW4
import Derived.Test.YtafnhieaeejlcaaDoorW5
import Derived.Test.YtafnhieaeejlcaaDoorW6
import Derived.Test.YtafnhieaeejlcaaDoorW7
set_option linter.all false
namespace Go.Ab
open Go Go.RowKit
set_option linter.all false
set_option maxHeartbeats 1000000
noncomputable section
section
variable {X : Ctx} {o : Oper} {T : St} {ty : TypeId} {q q2 : TRow}
theorem n_app0 {x y : Operand} {z m t : Nat} {E : TypeId} {f : Nat → List D} {ts : Array TypeId} (ho : o.op = .call { callee := .builtin .append, args := #[x, y], argTypes := ts }) (hts : ts = #[ty, ty]) (hd : o.dst = some t)
    (hx : T.ev X x = .nil) (hy : T.ev X y = .sl z m f)
    (hr : nth X.Z.tab ty = some q) (hk : Nat.beq q.k 3 = true) (hE : q.el = E) (hq : nth X.Z.tab E = some q2) (hq9 : Nat.beq q2.k 9 = false) (hz : q2.sz = z) (hzs : Nat.beq q2.zs.length z = true) (hz0 : Nat.beq z 0 = false)
    (hb : m * q2.bytes ≤ 140737488355328) (hm : m ≤ 140737488355328) :
    NOp X o T (T.owned t t (.arr E z m f)) := fun κ sv a w hs => by
  subst hts
  have hokr := X.Z.tabOk _ _ hr (by intro e; rw [e] at hk; cases hk)
  have hokq := X.Z.tabOk _ _ hq (by intro e; rw [e] at hq9; cases hq9)
  obtain ⟨iq, dq, hiq, hdq, hsq, hbq, ⟨zv, hzv, hzf⟩, _⟩ := row_info hokq
  have hu := slice_row hokr hk
  rw [hE] at hu
  have hown : ownsAt w (X.base t) E z (.slice none 0 0) 0 [] := ownsAt_nil _ _ _ _
  have hxe : a.eval x = .slice none 0 0 := by
    have hxv := hs.ev x
    rw [hx] at hxv
    generalize a.eval x = v at hxv
    cases hxv; rfl
  have hyv := hs.ev y
  rw [hy] at hyv
  have hzl : zv.cells.size = z := by have := zr_len hzf; have h2 := Nat.eq_of_beq_eq_true hzs; simp at this; omega
  have hz1 : 0 < z := by
    cases z with
    | zero => cases hz0
    | succ z => omega
  have hle : ∀ pv, Le κ κ T.γ (upd T.γ t (T.γ t + 1)) sv (upd sv t pv) := le_renew κ T.γ sv t
  rw [hd]
  have bl : ∀ {w' : World}, w.grownBy w' (Value.slice none 0 0).ownBlock → Below w.heap.size w w' := fun hgr => ⟨hgr.os, hgr.tape, hgr.output, hgr.size, fun k hk => hgr.block k hk (by simp [Value.ownBlock])⟩
  generalize hye : a.eval y = yv at hyv
  cases hyv with
  | sl0 =>
    have hrun := run_append_none (P := X.Z.P) (w := w) (X.base t) ty o.type E iq z hu hiq (.slice none 0 0) 0 [] hown
    refine ⟨.slice none 0 0, w, κ, _, .inl ?_, sim_owned hs t t (pv := .slice none 0 0) rfl (below_grown (Below.refl _ _) _) (fun b hb => by cases hb) ?_⟩
    · simp [execOp, ho, resolve, invoke, builtin, hxe, hye, hrun]
    · exact ⟨[], by rw [upd_same]; exact hown, fun i hi => by omega, fun i hi => by omega, fun i hi => by omega⟩
  | slE _ _ ad cap =>
    obtain ⟨v', w', hrun, hown', hgr, hwh⟩ := run_append_where (P := X.Z.P) (w := w) (X.base t) ty o.type E iq zv z q2.bytes hu hiq hzv (by rw [hsq, hz]) (by rw [hbq]) hzl hz1 (.slice none 0 0) 0 [] hown ad 0 cap [] (by simp)
      (fun j v hj => by simp at hj) (fun v hv => by simp at hv) (by unfold maxLen; omega) (by simp) (hs.wld.baseS _)
    refine ⟨v', w', κ, _, .inl ?_, sim_owned hs t t (pv := v') ?_ (below_grown (bl hgr) _) (fun b' hb' => ?_) ?_⟩
    · simp [execOp, ho, resolve, invoke, builtin, hxe, hye, hrun]
    · rcases hown'.2 with ⟨e, _⟩ | ⟨_, _, _, _, e, _⟩ <;> rw [e] <;> rfl
    · refine .inl ((hwh b' ?_).resolve_right (by simp [Value.ownBlock]))
      rcases hown'.2 with ⟨e, _⟩ | ⟨_, _, _, _, e, _⟩ <;> (rw [e] at hb' ⊢; exact hb')
    · refine ⟨_, by rw [upd_same]; exact hown', fun i hi => ?_, fun i hi => ?_, fun i hi => ?_⟩ <;> omega
  | sl _ _ _ b off cap u hmc hlz hac hul hκ =>
    have hulen : ∀ i, i < m → (u i).length = z := fun i hi => by rw [(hul i hi).length, hlz i hi]
    have hnl : (((List.range m).map u).flatten).length = m * z := by
      rw [flat_len _ (z := z) (fun c hc => by
        obtain ⟨k, hk, rfl⟩ := List.mem_map.1 hc
        exact hulen k (by simpa using hk))]
      simp
    have hcellat : ∀ j v, (((List.range m).map u).flatten)[j]? = some v → ∃ i k, i < m ∧ k < z ∧ j = i * z + k ∧ (u i)[k]? = some v := by
      intro j v hj
      have hjl := (List.getElem?_eq_some_iff.1 hj).1
      rw [hnl] at hjl
      have hk : j % z < z := Nat.mod_lt _ hz1
      have hi : j / z < m := (Nat.div_lt_iff_lt_mul hz1).2 hjl
      have e : j = j / z * z + j % z := by rw [Nat.mul_comm]; exact (Nat.div_add_mod j z).symm
      refine ⟨j / z, j % z, hi, hk, e, ?_⟩
      rw [e, flat_at _ (z := z) (fun c hc => by
        obtain ⟨k, hk, rfl⟩ := List.mem_map.1 hc
        exact hulen k (by simpa using hk)) _ _ hk] at hj
      simpa [hi] using hj
    obtain ⟨v', w', hrun, hown', hgr, hwh⟩ := run_append_where (P := X.Z.P) (w := w) (X.base t) ty o.type E iq zv z q2.bytes hu hiq hzv (by rw [hsq, hz]) (by rw [hbq]) hzl hz1 (.slice none 0 0) 0 [] hown ⟨b, off, none⟩ m cap (((List.range m).map u).flatten) hnl
      (fun j v hj => by
        obtain ⟨i, k, hi, hk, rfl, hv⟩ := hcellat j v hj
        rw [addr_add, ← Nat.add_assoc]
        exact hs.wld.imm _ _ _ (hκ i k v hi hv))
      (fun v hv => by
        obtain ⟨j, hj⟩ := List.getElem?_of_mem hv
        obtain ⟨i, k, hi, hk, rfl, hv⟩ := hcellat j v hj
        exact RepL.oneCells (hul i hi) (hac i hi) v (List.mem_of_getElem? hv))
      (by unfold maxLen; omega) (by rw [Nat.zero_add]; exact hb) (hs.wld.baseS _)
    simp only [Nat.zero_add, List.nil_append] at hown'
    refine ⟨v', w', κ, _, .inl ?_, sim_owned hs t t (pv := v') ?_ (below_grown (bl hgr) _) (fun b' hb' => ?_) ?_⟩
    · simp [execOp, ho, resolve, invoke, builtin, hxe, hye, hrun]
    · rcases hown'.2 with ⟨e, _⟩ | ⟨_, _, _, _, e, _⟩ <;> rw [e] <;> rfl
    · refine .inl ((hwh b' ?_).resolve_right (by simp [Value.ownBlock]))
      rcases hown'.2 with ⟨e, _⟩ | ⟨_, _, _, _, e, _⟩ <;> (rw [e] at hb' ⊢; exact hb')
    · refine ⟨_, by rw [upd_same]; exact hown', fun i hi => hlz i hi, fun i hi => hac i hi, fun i hi => ?_⟩
      rw [flat_chunk u m hulen i hi]
      exact (hul i hi).mono (hle _)
end
section
variable {R : Type} {X : Ctx} {Z : ISeat} {nt : Nat} {S : IS} {o : Oper} {r : R} {k : Ef → Option R} {t : Nat}
def opdEq : Operand → Operand → Bool
  | .tmp a, .tmp b => Nat.beq a b
  | .const (.int k m), .const (.int k' n) => decide (k = k') && decide (m = n)
  | _, _ => false
theorem opdEq_eq {x y : Operand} (h : opdEq x y = true) : x = y := by
  unfold opdEq at h
  split at h
  · rw [Nat.eq_of_beq_eq_true h]
  · simp only [Bool.and_eq_true, decide_eq_true_eq] at h
    rw [h.1, h.2]
  · cases h
def fitM (a : Int) (b : Nat) : Bool := decide (0 ≤ a) && decide (a * b ≤ 281474976710656) && decide (a ≤ 281474976710656)
def fitA (n b : Nat) : Bool := decide (n * b ≤ 140737488355328) && decide (n ≤ 140737488355328)
theorem wk_owned {T : St} {t s : Nat} {E z n : Nat} {f : Nat → List D} (f' : Nat → List D) (h : ∀ i, i < n → NilL (f i) (f' i)) : Wk X (T.owned t s (.arr E z n f)) (T.owned t s (.arr E z n f')) := by
  have := wk_arrN (X := X) (S := T.owned t s (.arr E z n f)) s (E := E) (z := z) (n := n) (f := f) f' (upd_same _ _ _) h
  have e : (⟨(T.owned t s (.arr E z n f)).ρ, (T.owned t s (.arr E z n f)).γ, upd (T.owned t s (.arr E z n f)).σ s (.arr E z n f')⟩ : St) = T.owned t s (.arr E z n f') := by
    unfold St.owned
    congr 1
    funext j
    simp only [upd]
    cases Nat.beq j s <;> rfl
  rwa [e] at this
def opMk (Z : ISeat) (S : IS) (t ty : Nat) (x y : Operand) (k : Ef → Option R) (d : I) : Option R := chk (opdEq x y) (match d with
  | .int .i64 a => rowOf Z ty fun q => rowOf Z q.el fun q2 => chk (Nat.beq q.k 3) (match Z.ty q.el with
    | some e => (match decC e (q2.zs.map zI) with
      | some v => chk (fitM a q2.bytes) (k (ownE S t t (.arr q.el e (List.replicate a.toNat v))))
      | none => none)
    | none => none)
  | _ => none)
theorem opMk_ok (hX : At X Z nt) {ty : Nat} {x y : Operand} (ho : o.op = .makeSlice ty x y) (hd : o.dst = some t) (h : opMk Z S t ty x y k (S.ev Z nt x) = some r) : ∃ e, k e = some r ∧ EfOk X Z nt o S e := by
  have mx : x ∈ o.op.operands.toList := by rw [ho]; simp [Op.operands]
  unfold opMk at h
  replace h := chk_some h
  obtain ⟨he, h⟩ := h
  have he := opdEq_eq he
  subst he
  split at h
  · rename_i a hx
    obtain ⟨q, hq, h9, h⟩ := rowOf_ok h
    obtain ⟨q2, hq2, h92, h⟩ := rowOf_ok h
    obtain ⟨h3, h⟩ := chk_some h
    split at h
    · rename_i e hty
      split at h
      · rename_i v hv
        obtain ⟨hf, h⟩ := chk_some h
        simp only [fitM, Bool.and_eq_true, decide_eq_true_eq] at hf
        obtain ⟨_, z1, z2⟩ := Z.ty_ok _ _ _ hty hq2
        refine ⟨_, h, fun h T ha hg => ?_⟩
        rw [← owned_app (hg _ rfl)]
        have := n_make ho hd (ha.ev mx hx) (ha.ev mx hx) hf.1.1 (by rw [hX.Z]; exact hq) h3 rfl (by rw [hX.Z]; exact hq2) h92 z1 (by rw [z2]; exact Nat.beq_refl _) hf.1.2 hf.2
        refine OpOk.wk (opOk_n this) ?_
        simp only [IOwn.toOwn, List.length_replicate]
        refine wk_owned _ fun i hi => ?_
        rw [List.getD_eq_getElem?_getD, List.getElem?_replicate, if_pos hi, ← zI_toDL h, ← toDL_enc h]
        exact nilIL_rel h (decC_ok e hv)
      · cases h
    · cases h
  · cases h
def decRs (e : T) : List (List I) → Option (List (den e))
  | [] => some []
  | c :: l => match decC e c with
    | some x => (match decRs e l with | some xs => some (x :: xs) | none => none)
    | none => none
theorem decRs_ok {e : T} : ∀ {cs : List (List I)} {xs : List (den e)}, decRs e cs = some xs → xs.length = cs.length ∧ ∀ (i : Nat) (x : den e), xs[i]? = some x → ∃ c, cs[i]? = some c ∧ NilIL c (encC e x)
  | [], xs, h => by simp [decRs] at h; subst h; exact ⟨rfl, fun i x h => by simp at h⟩
  | c :: l, xs, h => by
    unfold decRs at h
    split at h
    · rename_i x hx
      split at h
      · rename_i ys hy
        simp only [Option.some.injEq] at h
        subst h
        obtain ⟨h1, h2⟩ := decRs_ok hy
        refine ⟨by simp [h1], fun i y hi => ?_⟩
        cases i with
        | zero => simp at hi; subst hi; exact ⟨c, by simp, decC_ok e hx⟩
        | succ i => simpa using h2 i y (by simpa using hi)
      · cases h
    · cases h
def cellsI (Z : ISeat) (nt : Nat) (S : IS) : List Operand → List (List I)
  | [] => []
  | x :: l => (S.ev Z nt x).cells :: cellsI Z nt S l
def okCI (z : Nat) : List (List I) → Bool
  | [] => true
  | c :: l => Nat.beq c.length z && allC c && okCI z l
theorem cells_map {h : Nat → Nat} {T : St} (ha : Ag X Z nt S h T o) : ∀ {l : List Operand}, (∀ x ∈ l, x ∈ o.op.operands.toList) → evC X T l = (cellsI Z nt S l).map (I.toDL h)
  | [], _ => rfl
  | x :: l, hm => by
    have h1 := cells_map ha (l := l) fun p hp => hm p (List.mem_cons_of_mem _ hp)
    have h3 := ha.ev (hm x (List.mem_cons_self ..)) rfl
    simp only [evC, cellsI, List.map_cons, h1, h3, cells_toD]
theorem okC_map (h : Nat → Nat) (z : Nat) : ∀ l : List (List I), okC z (l.map (I.toDL h)) = okCI z l
  | [] => rfl
  | c :: l => by simp only [List.map_cons, okC, okCI, toDL_len, allC_toDL, okC_map h z l]
theorem nilL_len : ∀ {l l' : List D}, NilL l l' → l'.length = l.length
  | [], [], _ => rfl
  | _ :: l, _ :: l', h => by simp only [List.length_cons, nilL_len h.2]
theorem wk_slfN {X : Ctx} {S : St} (t : Nat) {z n : Nat} {f : Nat → List D} (f' : Nat → List D) (h : S.ρ t = .sl z n f) (hf : ∀ i, i < n → NilL (f i) (f' i)) : Wk X S (S.set t (.sl z n f')) := fun κ sv a w hs => by
  refine ⟨κ, sv, ⟨hs.size, hs.defers, fun i hi => ?_, hs.wld.slots rfl rfl⟩⟩
  by_cases e : i = t
  · subst e
    simp only [St.set, upd_same]
    have h1 := hs.slot i hi
    rw [h] at h1
    generalize a.tmps.getD i Go.undef = v at h1
    cases h1 with
    | sl _ _ _ b off cap u h1 h2 h5 h3 h4 => exact .sl z n f' b off cap u h1 (fun i hi => by rw [nilL_len (hf i hi)]; exact h2 i hi) (fun i hi => nilL_cell (hf i hi) (h5 i hi)) (fun i hi => nilL_rep (hf i hi) (h3 i hi)) h4
    | sl0 => exact .sl0 _ _
    | slE => exact .slE _ _ _ _
  · simp only [St.set, upd_ne _ _ _ _ e]; exact hs.slot i hi
def opBs (Z : ISeat) (nt : Nat) (S : IS) (fz : List Nat) (t ty n : Nat) (ps : Array (Nat × Operand)) (k : Ef → Option R) : Option R := rowOf Z ty fun q => rowOf Z q.el fun q2 => chk (Nat.beq q.k 3) (match Z.ty q.el with
  | some e => bif Nat.beq n 0 then chk (Nat.beq ps.toList.length 0) (bif memN t fz then k (ownE S t t (.arr q.el e [])) else k (ownE S t t (.arr q.el e []))) else (match seqP 0 ps.toList with
    | some xs => chk (Nat.beq xs.length n && !(Nat.beq (sz e) 0) && Nat.ble (n * sz e) 16777216 && okCI (sz e) (cellsI Z nt S xs)) (match decRs e (cellsI Z nt S xs) with
      | some l => bif memN t fz then k (vE t (.sl e l)) else k (ownE S t t (.arr q.el e l))
      | none => none)
    | none => none)
  | none => none)
theorem opBs_ok (hX : At X Z nt) {fz : List Nat} {ty n : Nat} {ps : Array (Nat × Operand)} (ho : o.op = .buildSlice ty n ps) (hd : o.dst = some t) (h : opBs Z nt S fz t ty n ps k = some r) : ∃ e, k e = some r ∧ EfOk X Z nt o S e := by
  unfold opBs at h
  obtain ⟨q, hq, h9, h⟩ := rowOf_ok h
  obtain ⟨q2, hq2, h92, h⟩ := rowOf_ok h
  obtain ⟨h3, h⟩ := chk_some h
  have hq' : nth X.Z.tab ty = some q := by rw [hX.Z]; exact hq
  have hq2' : nth X.Z.tab q.el = some q2 := by rw [hX.Z]; exact hq2
  split at h
  · rename_i e hty
    obtain ⟨_, z1, z2⟩ := Z.ty_ok _ _ _ hty hq2
    cases hn : Nat.beq n 0 with
    | true =>
      rw [hn] at h
      have hn0 := Nat.eq_of_beq_eq_true hn
      subst hn0
      simp only [cond_true] at h
      obtain ⟨hp, h⟩ := chk_some h
      have hp := arr_nil hp
      have h : k (ownE S t t (.arr q.el e [])) = some r := by
        cases hm : memN t fz <;> (rw [hm] at h; exact h)
      refine ⟨_, h, fun h T ha hg => ?_⟩
      rw [← owned_app (hg _ rfl)]
      exact opOk_n (n_bsl0 _ ho hd hp hq' h3 rfl hq2' h92 z1)
    | false =>
      rw [hn] at h
      simp only [cond_false] at h
      split at h
      · rename_i xs hxs
        obtain ⟨hc, h⟩ := chk_some h
        simp only [Bool.and_eq_true, Bool.not_eq_true'] at hc
        obtain ⟨⟨⟨c1, c2⟩, c3⟩, c4⟩ := hc
        have hmem : ∀ x ∈ xs, x ∈ o.op.operands.toList := by
          intro x hx
          rw [ho]
          have h1 := seqP_eq hxs
          simp only [Op.operands]
          rw [h1]
          simp only [List.map_map, List.mem_map, Function.comp_apply]
          obtain ⟨i, hi, rfl⟩ := List.getElem_of_mem hx
          exact ⟨(xs[i], i), by rw [List.mk_mem_zipIdx_iff_getElem?]; simp [hi], rfl⟩
        have hlen : n = xs.length := (Nat.eq_of_beq_eq_true c1).symm
        have hcl : (cellsI Z nt S xs).length = xs.length := by
          generalize xs = l
          induction l with
          | nil => rfl
          | cons x l ih => simp [cellsI, ih]
        split at h
        · rename_i l hl
          obtain ⟨e1, e2⟩ := decRs_ok hl
          have hat : ∀ (h : Nat → Nat) i, i < n → ∃ c, nthD ((cellsI Z nt S xs).map (I.toDL h)) i = I.toDL h c ∧ (cellsI Z nt S xs)[i]? = some c ∧ NilIL c (encC e (l.getD i (dflt e))) := fun h i hi => by
            have hil : i < l.length := by omega
            obtain ⟨c, hc1, hc2⟩ := e2 i l[i] (List.getElem?_eq_getElem hil)
            refine ⟨c, ?_, hc1, ?_⟩
            · simp [nthD, nth_eq, hc1]
            · rw [List.getD_eq_getElem?_getD, List.getElem?_eq_getElem hil]; exact hc2
          cases hm : memN t fz with
          | false =>
            rw [hm] at h
            refine ⟨_, h, fun h T ha hg => ?_⟩
            rw [← owned_app (hg _ rfl)]
            have hev := cells_map ha hmem
            have := n_bslo ho hd hxs c1 hq' h3 rfl hq2' h92 z1 c2 hn c3 hev (by rw [okC_map]; exact c4)
            refine OpOk.wk (opOk_n this) ?_
            have hll : n = l.length := by omega
            simp only [IOwn.toOwn]
            rw [← hll]
            refine wk_owned _ fun i hi => ?_
            obtain ⟨c, h1, _, h2⟩ := hat h i hi
            rw [h1, ← toDL_enc h]
            exact nilIL_rel h h2
          | true =>
            rw [hm] at h
            refine ⟨_, h, fun h T ha hg => ?_⟩
            have hev := cells_map ha hmem
            have := n_bsl ho hd hxs c1 hq' h3 rfl hq2' h92 z1 c2 hn c3 hev (by rw [okC_map]; exact c4)
            refine OpOk.wk (opOk_n this) ?_
            have hll : n = l.length := by omega
            have hw := wk_slfN (X := X) (S := T.set t (.sl (sz e) n (nthD ((cellsI Z nt S xs).map (I.toDL h))))) t (fun i => encD e (l.getD i (dflt e))) (upd_same _ _ _) (fun i hi => by
              obtain ⟨c, h1, h4, h2⟩ := hat h i hi
              rw [h1, ← toDL_enc h]; exact nilIL_rel h h2)
            have e3 : (T.set t (.sl (sz e) n (nthD ((cellsI Z nt S xs).map (I.toDL h))))).set t (.sl (sz e) n (fun i => encD e (l.getD i (dflt e)))) = T.app (vE t (.sl e l)).wr ((vE t (.sl e l)).vl h) := by
              unfold St.set St.app vE Ef.wr Ef.vl
              simp only [Option.map_none, updO, I.toD, slD, hll]
              congr 1
              funext j
              simp only [upd]
              cases Nat.beq j t <;> rfl
            rw [e3] at hw
            exact hw
        · cases h
      · cases h
  · cases h
def bytesI (b : ByteArray) : List Int := b.data.toList.map fun x => (x.toNat : Int)
def isU8 : List Zr → Bool
  | [.i .u8] => true
  | _ => false
def opApS (Z : ISeat) (S : IS) (t : Nat) (ts : Array TypeId) (k : Ef → Option R) (d : I) (b : ByteArray) : Option R := match ts.toList with
  | [ty, ty'] => chk (Z.isS ty') (rowOf Z ty fun q => rowOf Z q.el fun q2 => chk (Nat.beq q.k 3 && Nat.beq q2.sz 1 && Nat.beq q2.bytes 1 && isU8 q2.zs) (match d with
    | .os s g => live S s g (match S.own s with
      | .arr E (.int .u8) l => chk (Nat.beq q.el E && decide (l.length + b.size ≤ 140737488355328)) (k (ownE S t s (.arr E (.int .u8) (l ++ bytesI b))))
      | _ => none)
    | _ => none))
  | _ => none
theorem opApS_ok (hX : At X Z nt) {x y : Operand} {b : ByteArray} {ts : Array TypeId} (ho : o.op = .call { callee := .builtin .append, args := #[x, y], argTypes := ts }) (hd : o.dst = some t) (hy : S.ev Z nt y = .str b) (h : opApS Z S t ts k (S.ev Z nt x) b = some r) : ∃ e, k e = some r ∧ EfOk X Z nt o S e := by
  have mx : x ∈ o.op.operands.toList := by rw [ho]; simp [Op.operands, Call.operands]
  have my : y ∈ o.op.operands.toList := by rw [ho]; simp [Op.operands, Call.operands]
  have hl2 : lvl o = 2 := by simp [lvl, ho]
  have hl1 : lvl o ≠ 0 := by rw [hl2]; simp
  unfold opApS at h
  split at h
  · rename_i ty ty' hts
    obtain ⟨hS, h⟩ := chk_some h
    have hts : ts = #[ty, ty'] := by
      have : ts = ts.toList.toArray := by simp
      rw [this, hts]
    obtain ⟨q, hq, h9, h⟩ := rowOf_ok h
    obtain ⟨q2, hq2, h92, h⟩ := rowOf_ok h
    obtain ⟨h3, h⟩ := chk_some h
    simp only [Bool.and_eq_true] at h3
    obtain ⟨⟨⟨h3, hz⟩, hb1⟩, hu8⟩ := h3
    have hq' : nth X.Z.tab ty = some q := by rw [hX.Z]; exact hq
    have hq2' : nth X.Z.tab q.el = some q2 := by rw [hX.Z]; exact hq2
    have hzs : q2.zs = [.i .u8] := by
      unfold isU8 at hu8
      split at hu8
      · assumption
      · cases hu8
    split at h
    · rename_i s g hx
      replace h := live_ok h
      obtain ⟨rfl, h⟩ := h
      split at h
      · rename_i E l hσ
        obtain ⟨hc, h⟩ := chk_some h
        simp only [Bool.and_eq_true, decide_eq_true_eq] at hc
        have hE := Nat.eq_of_beq_eq_true hc.1
        refine ⟨_, h, fun h T ha hg => ?_⟩
        rw [← owned_app (hg _ rfl)]
        have hq3 : nth X.Z.tab E = some q2 := by rw [← hE]; exact hq2'
        have hbl : (bytesI b).length = b.size := by unfold bytesI; rw [List.length_map, Array.length_toList]; rfl
        have := n_appS (S := T) ho hts hd (ha.ev mx hx) (ha.γ hl1 mx (pl_os hx)) ((ha.σ hl2 mx (pl_os hx)).trans (by rw [hσ]; rfl)) (ha.ev my hy) hq' h3 hE (by rw [hX.Z]; exact Z.isS_ok _ hS) hq3 h92 (Nat.eq_of_beq_eq_true hz) hzs (Nat.eq_of_beq_eq_true hb1) hc.2
          (f' := fun i => encD (.int .u8) ((l ++ bytesI b).getD i 0)) (n' := (l ++ bytesI b).length) (by rw [List.length_append, hbl]) (fun i hi => by
            simp only [List.getD_eq_getElem?_getD]; rw [List.getElem?_append_left hi]; rfl) (fun i hi => by
            simp only [List.getD_eq_getElem?_getD]
            rw [List.getElem?_append_right (by omega), Nat.add_sub_cancel_left]
            have hi2 : i < b.data.toList.length := by rw [Array.length_toList]; exact hi
            simp only [bytesI, List.getElem?_map, List.getElem?_eq_getElem hi2, Option.map_some, Option.getD_some]
            rfl)
        exact opOk_n this
      · cases h
    · cases h
  · cases h
def opAp (Z : ISeat) (S : IS) (t : Nat) (ts : Array TypeId) (k : Ef → Option R) (d y : I) : Option R := match ts.toList with
  | [ty, ty'] => chk (Nat.beq ty ty') (rowOf Z ty fun q => rowOf Z q.el fun q2 => chk (Nat.beq q.k 3) (match y with
    | .sl e' m => (match d with
      | .os s g => live S s g (match S.own s with
        | .arr E e l => chk (Nat.beq q.el E && Nat.beq q2.sz (sz e) && Nat.beq q2.zs.length (sz e) && !(Nat.beq (sz e) 0)) (match asL e e' m with
          | some m => chk (fitA (l.length + m.length) q2.bytes) (k (ownE S t s (.arr E e (l ++ m))))
          | none => none)
        | _ => none)
      | .nil => chk (Nat.beq q2.sz (sz e') && Nat.beq q2.zs.length (sz e') && !(Nat.beq (sz e') 0)) (chk (fitA m.length q2.bytes) (k (ownE S t t (.arr q.el e' m))))
      | _ => none)
    | .ow s2 g2 z2 c m => (match d with
      | .ow s g z c0 kk => live S s g (match S.own s with
        | .arr E e l => chk (Nat.beq s2 s && Nat.beq g2 (S.gen s) && Nat.beq z2 z && Nat.beq z (sz e) && Nat.beq c0 0 && Nat.beq q.el E && Nat.beq q2.sz (sz e) && Nat.beq q2.zs.length (sz e) && !(Nat.beq (sz e) 0)) (chk (decide (kk ≤ l.length) && decide (c + m ≤ l.length) && decide (kk + m ≤ l.length)) (chk (fitA (kk + m) q2.bytes) (k (ownE S t s (.arr E e (l.take kk ++ (l.drop c).take m))))))
        | _ => none)
      | _ => none)
    | .os s2 g2 => live S s2 g2 (match S.own s2 with
      | .arr E2 e' m => (match d with
        | .os s g => live S s g (match S.own s with
          | .arr E e l => chk (Nat.beq q.el E && Nat.beq q2.sz (sz e) && Nat.beq q2.zs.length (sz e) && !(Nat.beq (sz e) 0)) (match asL e e' m with
            | some m => chk (fitA (l.length + m.length) q2.bytes) (k (ownE S t s (.arr E e (l ++ m))))
            | none => none)
          | _ => none)
        | .nil => chk (Nat.beq q2.sz (sz e') && Nat.beq q2.zs.length (sz e') && !(Nat.beq (sz e') 0)) (chk (fitA m.length q2.bytes) (k (ownE S t t (.arr q.el e' m))))
        | _ => none)
      | _ => none)
    | _ => none))
  | _ => none
theorem opAp_ok (hX : At X Z nt) {x y : Operand} {ts : Array TypeId} (ho : o.op = .call { callee := .builtin .append, args := #[x, y], argTypes := ts }) (hd : o.dst = some t) (h : opAp Z S t ts k (S.ev Z nt x) (S.ev Z nt y) = some r) : ∃ e, k e = some r ∧ EfOk X Z nt o S e := by
  have mx : x ∈ o.op.operands.toList := by rw [ho]; simp [Op.operands, Call.operands]
  have my : y ∈ o.op.operands.toList := by rw [ho]; simp [Op.operands, Call.operands]
  have hl2 : lvl o = 2 := by simp [lvl, ho]
  have hl1 : lvl o ≠ 0 := by rw [hl2]; simp
  unfold opAp at h
  split at h
  · rename_i ty ty' hts
    replace h := chk_some h
    obtain ⟨he, h⟩ := h
    have he := Nat.eq_of_beq_eq_true he
    subst he
    have hts : ts = #[ty, ty] := by
      have : ts = ts.toList.toArray := by simp
      rw [this, hts]
    obtain ⟨q, hq, h9, h⟩ := rowOf_ok h
    obtain ⟨q2, hq2, h92, h⟩ := rowOf_ok h
    obtain ⟨h3, h⟩ := chk_some h
    have hq' : nth X.Z.tab ty = some q := by rw [hX.Z]; exact hq
    have hq2' : nth X.Z.tab q.el = some q2 := by rw [hX.Z]; exact hq2
    split at h
    · rename_i e' m hy
      split at h
      · rename_i s g hx
        replace h := live_ok h
        obtain ⟨rfl, h⟩ := h
        split at h
        · rename_i E e l hσ
          obtain ⟨hc, h⟩ := chk_some h
          simp only [Bool.and_eq_true, Bool.not_eq_true'] at hc
          obtain ⟨⟨⟨c1, c2⟩, c3⟩, c4⟩ := hc
          have hE := Nat.eq_of_beq_eq_true c1
          split at h
          · rename_i m' hm
            obtain ⟨hf, h⟩ := chk_some h
            simp only [fitA, Bool.and_eq_true, decide_eq_true_eq] at hf
            have hy' : S.ev Z nt y = .sl e m' := by rw [hy]; exact asL_eq hm
            refine ⟨_, h, fun h T ha hg => ?_⟩
            rw [← owned_app (hg _ rfl)]
            have := n_app (S := T) ho hts hd (ha.ev mx hx) (ha.γ hl1 mx (pl_os hx)) ((ha.σ hl2 mx (pl_os hx)).trans (by rw [hσ]; rfl)) (ha.ev my hy') hq' h3 hE (by rw [← hE]; exact hq2') h92 (Nat.eq_of_beq_eq_true c2) c3 c4 hf.1 hf.2
              (f' := fun i => encD e ((l ++ m').getD i (dflt e))) (n' := (l ++ m').length) (by simp) (fun i hi => by
                simp only [List.getD_eq_getElem?_getD]; rw [List.getElem?_append_left hi]) (fun i hi => by
                simp only [List.getD_eq_getElem?_getD]; rw [List.getElem?_append_right (by omega), Nat.add_sub_cancel_left])
            exact opOk_n this
          · cases h
        · cases h
      · rename_i hx
        obtain ⟨hc, h⟩ := chk_some h
        simp only [Bool.and_eq_true, Bool.not_eq_true'] at hc
        obtain ⟨⟨c2, c3⟩, c4⟩ := hc
        obtain ⟨hf, h⟩ := chk_some h
        simp only [fitA, Bool.and_eq_true, decide_eq_true_eq] at hf
        refine ⟨_, h, fun h T ha hg => ?_⟩
        rw [← owned_app (hg _ rfl)]
        exact opOk_n (n_app0 ho hts hd (ha.ev mx hx) (ha.ev my hy) hq' h3 rfl hq2' h92 (Nat.eq_of_beq_eq_true c2) c3 c4 hf.1 hf.2)
      · cases h
    · rename_i s2 g2 z2 c m hy
      split at h
      · rename_i s g z c0 kk hx
        replace h := live_ok h
        obtain ⟨rfl, h⟩ := h
        split at h
        · rename_i E e l hσ
          obtain ⟨hc, h7⟩ := chk_some h
          clear h
          simp only [Bool.and_eq_true, Bool.not_eq_true'] at hc
          obtain ⟨⟨⟨⟨⟨⟨⟨⟨b1, b2⟩, b3⟩, b4⟩, b5⟩, c1⟩, c2⟩, c3⟩, c4⟩ := hc
          have b1 := Nat.eq_of_beq_eq_true b1
          have b2 := Nat.eq_of_beq_eq_true b2
          have b3 := Nat.eq_of_beq_eq_true b3
          have b4 := Nat.eq_of_beq_eq_true b4
          have b5 := Nat.eq_of_beq_eq_true b5
          subst b1 b2 b3 b4 b5
          have hE := Nat.eq_of_beq_eq_true c1
          obtain ⟨hl, h8⟩ := chk_some h7
          simp only [Bool.and_eq_true, decide_eq_true_eq] at hl
          obtain ⟨⟨l1, l2⟩, l3⟩ := hl
          obtain ⟨hf, h5⟩ := chk_some h8
          simp only [fitA, Bool.and_eq_true, decide_eq_true_eq] at hf
          refine ⟨_, h5, fun h T ha hg => ?_⟩
          rw [← owned_app (hg _ rfl)]
          have pm : ∀ {s g z c m : Nat} {x : Operand}, S.ev Z nt x = .ow s g z c m → s ∈ plI (S.ev Z nt x) := fun hx => by rw [hx]; simp [plI]
          have := n_appV (S := T) ho hts hd (ha.ev mx hx) (ha.ev my hy) (ha.γ hl1 mx (pm hx)) ((ha.σ hl2 mx (pm hx)).trans (by rw [hσ]; rfl)) l1 l2 l3 hq' h3 hE (by rw [← hE]; exact hq2') h92 (Nat.eq_of_beq_eq_true c2) c3 c4 hf.1 hf.2
            (f' := fun i => encD e ((l.take kk ++ (l.drop c).take m).getD i (dflt e))) (n' := (l.take kk ++ (l.drop c).take m).length) (by simp; omega) (fun i hi => by
              simp only [List.getD_eq_getElem?_getD]; rw [List.getElem?_append_left (by simp; omega), List.getElem?_take, if_pos hi]) (fun i hi => by
              simp only [List.getD_eq_getElem?_getD]; rw [List.getElem?_append_right (by simp; omega), List.length_take, Nat.min_eq_left l1, Nat.add_sub_cancel_left, List.getElem?_take, if_pos hi, List.getElem?_drop])
          exact opOk_n this
        · cases h
      · cases h
    · rename_i s2 g2 hy
      replace h := live_ok h
      obtain ⟨rfl, h⟩ := h
      split at h
      · rename_i E2 e' m hσ2
        split at h
        · rename_i s g hx
          replace h := live_ok h
          obtain ⟨rfl, h⟩ := h
          split at h
          · rename_i E e l hσ
            obtain ⟨hc, h⟩ := chk_some h
            simp only [Bool.and_eq_true, Bool.not_eq_true'] at hc
            obtain ⟨⟨⟨c1, c2⟩, c3⟩, c4⟩ := hc
            have hE := Nat.eq_of_beq_eq_true c1
            split at h
            · rename_i m' hm
              have e2 := asL_eq hm
              simp only [I.sl.injEq] at e2
              obtain ⟨rfl, e2⟩ := e2
              have e2 := eq_of_heq e2
              subst e2
              obtain ⟨hf, h⟩ := chk_some h
              simp only [fitA, Bool.and_eq_true, decide_eq_true_eq] at hf
              refine ⟨_, h, fun h T ha hg => ?_⟩
              rw [← owned_app (hg _ rfl)]
              have := n_appOO (S := T) ho hts hd (.inl ⟨ha.ev mx hx, ha.γ hl1 mx (pl_os hx), (ha.σ hl2 mx (pl_os hx)).trans (by rw [hσ]; rfl)⟩) (ha.ev my hy) (ha.γ hl1 my (pl_os hy)) ((ha.σ hl2 my (pl_os hy)).trans (by rw [hσ2]; rfl)) hq' h3 hE (by rw [← hE]; exact hq2') h92 (Nat.eq_of_beq_eq_true c2) c3 c4 hf.1 hf.2
                (f' := fun i => encD e' ((l ++ m).getD i (dflt e'))) (n' := (l ++ m).length) (by simp) (fun i hi => by
                  simp only [List.getD_eq_getElem?_getD]; rw [List.getElem?_append_left hi]) (fun i hi => by
                  simp only [List.getD_eq_getElem?_getD]; rw [List.getElem?_append_right (by omega), Nat.add_sub_cancel_left])
              exact opOk_n this
            · cases h
          · cases h
        · rename_i hx
          obtain ⟨hc, h⟩ := chk_some h
          simp only [Bool.and_eq_true, Bool.not_eq_true'] at hc
          obtain ⟨⟨c2, c3⟩, c4⟩ := hc
          obtain ⟨hf, h⟩ := chk_some h
          simp only [fitA, Bool.and_eq_true, decide_eq_true_eq] at hf
          refine ⟨_, h, fun h T ha hg => ?_⟩
          rw [← owned_app (hg _ rfl)]
          have := n_appOO (S := T) (n := 0) (f := fun _ => []) (g := 0) ho hts hd (.inr ⟨ha.ev mx hx, rfl, rfl⟩) (ha.ev my hy) (ha.γ hl1 my (pl_os hy)) ((ha.σ hl2 my (pl_os hy)).trans (by rw [hσ2]; rfl)) hq' h3 rfl hq2' h92 (Nat.eq_of_beq_eq_true c2) c3 c4 (by simpa using hf.1) (by simpa using hf.2)
            (f' := fun i => encD e' (m.getD i (dflt e'))) (n' := m.length) (by simp) (fun i hi => by omega) (fun i hi => by rw [Nat.zero_add])
          exact opOk_n this
        · cases h
      · cases h
    · cases h
  · cases h
def subL {α : Type} (l : List α) (i j : Int) : List α := (l.take j.toNat).drop i.toNat
theorem subL_len {α : Type} {l : List α} {i j : Int} (h0 : 0 ≤ i) (h1 : i ≤ j) (h2 : j ≤ l.length) : (subL l i j).length = j.toNat - i.toNat := by
  simp only [subL, List.length_drop, List.length_take]; omega
theorem subL_get {α : Type} {l : List α} {i j : Int} {d : α} {k : Nat} (hk : k < j.toNat - i.toNat) : (subL l i j).getD k d = l.getD (i.toNat + k) d := by
  simp only [subL, List.getD_eq_getElem?_getD, List.getElem?_drop, List.getElem?_take]
  rw [if_pos (by omega)]
def bndI (Z : ISeat) (nt : Nat) (S : IS) (v : Option Operand) (d : Int) (k : Int → Option R) : Option R := match v with
  | none => k d
  | some y => (match S.ev Z nt y with | .int .i64 i => k i | _ => none)
theorem bndI_ok {v : Option Operand} {d : Nat} {k : Int → Option R} (h : bndI Z nt S v d k = some r) : ∃ i : Int, k i = some r ∧ ((v = none ∧ i = d) ∨ ∃ y, v = some y ∧ S.ev Z nt y = .int .i64 i) := by
  unfold bndI at h
  split at h
  · exact ⟨_, h, .inl ⟨rfl, rfl⟩⟩
  · rename_i y
    split at h
    · rename_i i hy; exact ⟨i, h, .inr ⟨y, rfl, hy⟩⟩
    · cases h
def opSl (Z : ISeat) (nt : Nat) (S : IS) (fz : List Nat) (t ty : Nat) (lo hi : Option Operand) (k : Ef → Option R) (d : I) : Option R := rowOf Z ty fun q => rowOf Z q.el fun q2 => chk (Nat.beq q.k 3) (match d with
  | .sl e l => chk (Nat.beq q2.sz (sz e)) (bndI Z nt S lo (0 : Nat) fun i => bndI Z nt S hi l.length fun j => chk (decide (0 ≤ i) && decide (i ≤ j) && decide (j ≤ l.length)) (k (vE t (.sl e (subL l i j)))))
  | .os s g => live S s g (match S.own s with
    | .arr E e l => chk (Nat.beq q.el E && Nat.beq q2.sz (sz e)) (bndI Z nt S lo (0 : Nat) fun i => bndI Z nt S hi l.length fun j => chk (decide (0 ≤ i) && decide (i ≤ j) && decide (j ≤ l.length)) (bif memN t fz then k (vE t (.ow s g (sz e) i.toNat (j.toNat - i.toNat))) else k (ownE S t s (.arr E e (subL l i j)))))
    | _ => none)
  | _ => none)
theorem bndd_of {h : Nat → Nat} {T : St} (ha : Ag X Z nt S h T o) {v : Option Operand} {i : Int} {d : Nat} (h0 : 0 ≤ i) (hm : ∀ y, v = some y → y ∈ o.op.operands.toList) (hv : (v = none ∧ i = d) ∨ ∃ y, v = some y ∧ S.ev Z nt y = .int .i64 i) : bndd X T v i.toNat d := by
  rcases hv with ⟨rfl, rfl⟩ | ⟨y, rfl, hy⟩
  · exact .inl ⟨rfl, by simp⟩
  · exact .inr ⟨y, rfl, by rw [ha.ev (hm y rfl) hy, Int.toNat_of_nonneg h0]; rfl⟩
def subS (s : ByteArray) (i j : Int) : ByteArray := subB s i.toNat j.toNat
def opSlS (Z : ISeat) (nt : Nat) (S : IS) (t ty : Nat) (lo hi : Option Operand) (k : Ef → Option R) (s : ByteArray) : Option R := chk (Z.isS ty) (bndI Z nt S lo (0 : Nat) fun i => bndI Z nt S hi s.size fun j => chk (decide (0 ≤ i) && decide (i ≤ j) && decide (j ≤ s.size)) (k (vE t (.str (subS s i j)))))
theorem opSlS_ok (hX : At X Z nt) {ty : Nat} {x : Operand} {lo hi : Option Operand} {s : ByteArray} (ho : o.op = .slice ty x lo hi none) (hd : o.dst = some t) (hx : S.ev Z nt x = .str s) (h : opSlS Z nt S t ty lo hi k s = some r) : ∃ e, k e = some r ∧ EfOk X Z nt o S e := by
  have mx : x ∈ o.op.operands.toList := by rw [ho]; cases lo <;> cases hi <;> simp [Op.operands]
  have ml : ∀ y, lo = some y → y ∈ o.op.operands.toList := fun y e => by rw [ho, e]; cases hi <;> simp [Op.operands]
  have mh : ∀ y, hi = some y → y ∈ o.op.operands.toList := fun y e => by rw [ho, e]; cases lo <;> simp [Op.operands]
  unfold opSlS at h
  obtain ⟨hS, h⟩ := chk_some h
  obtain ⟨i, h, hi1⟩ := bndI_ok h
  obtain ⟨j, h, hj1⟩ := bndI_ok h
  obtain ⟨hc, h⟩ := chk_some h
  simp only [Bool.and_eq_true, decide_eq_true_eq] at hc
  obtain ⟨⟨h0, h1⟩, h2⟩ := hc
  refine ⟨_, h, efq hd fun h T ha => ?_⟩
  exact q_slS (S := T) (i := i.toNat) (j := j.toNat) ho (ha.ev mx hx) (bndd_of ha h0 ml hi1) (bndd_of ha (by omega) mh hj1) (by omega) (by omega) (by rw [hX.Z]; exact Z.isS_ok _ hS)
theorem opSl_ok (hX : At X Z nt) {fz : List Nat} {ty : Nat} {x : Operand} {lo hi : Option Operand} (ho : o.op = .slice ty x lo hi none) (hd : o.dst = some t) (h : opSl Z nt S fz t ty lo hi k (S.ev Z nt x) = some r) : ∃ e, k e = some r ∧ EfOk X Z nt o S e := by
  have mx : x ∈ o.op.operands.toList := by rw [ho]; cases lo <;> cases hi <;> simp [Op.operands]
  have ml : ∀ y, lo = some y → y ∈ o.op.operands.toList := fun y e => by rw [ho, e]; cases hi <;> simp [Op.operands]
  have mh : ∀ y, hi = some y → y ∈ o.op.operands.toList := fun y e => by rw [ho, e]; cases lo <;> simp [Op.operands]
  have hl2 : lvl o = 2 := by simp [lvl, ho]
  have hl1 : lvl o ≠ 0 := by rw [hl2]; simp
  unfold opSl at h
  obtain ⟨q, hq, h9, h⟩ := rowOf_ok h
  obtain ⟨q2, hq2, h92, h⟩ := rowOf_ok h
  obtain ⟨h3, h⟩ := chk_some h
  have hq' : nth X.Z.tab ty = some q := by rw [hX.Z]; exact hq
  have hq2' : nth X.Z.tab q.el = some q2 := by rw [hX.Z]; exact hq2
  split at h
  · rename_i e l hx
    obtain ⟨c2, h⟩ := chk_some h
    obtain ⟨i, h, hi1⟩ := bndI_ok h
    obtain ⟨j, h, hj1⟩ := bndI_ok h
    obtain ⟨hc, h⟩ := chk_some h
    simp only [Bool.and_eq_true, decide_eq_true_eq] at hc
    obtain ⟨⟨h0, h1⟩, h2⟩ := hc
    refine ⟨_, h, efq hd fun h T ha => ?_⟩
    have := q_slF (S := T) (i := i.toNat) (j := j.toNat) ho (ha.ev mx hx) (bndd_of ha h0 ml hi1) (bndd_of ha (by omega) mh hj1) (by omega) (by omega) hq' h3 hq2' h92 (Nat.eq_of_beq_eq_true c2) (f' := fun k => encD e ((subL l i j).getD k (dflt e))) (fun k hk => by rw [subL_get hk])
    rw [← subL_len h0 h1 h2] at this
    exact this
  · rename_i s g hx
    replace h := live_ok h
    obtain ⟨rfl, h⟩ := h
    split at h
    · rename_i E e l hσ
      obtain ⟨hc, h⟩ := chk_some h
      simp only [Bool.and_eq_true] at hc
      obtain ⟨i, h, hi1⟩ := bndI_ok h
      obtain ⟨j, h, hj1⟩ := bndI_ok h
      obtain ⟨hc2, h⟩ := chk_some h
      simp only [Bool.and_eq_true, decide_eq_true_eq] at hc2
      obtain ⟨⟨h0, h1⟩, h2⟩ := hc2
      have hE := Nat.eq_of_beq_eq_true hc.1
      cases hmf : memN t fz with
      | true =>
        rw [hmf] at h
        simp only [cond_true] at h
        exact ⟨_, h, efq hd fun h T ha => q_slV (S := T) (i := i.toNat) (j := j.toNat) ho (ha.ev mx hx) (ha.γ hl1 mx (pl_os hx)) ((ha.σ hl2 mx (pl_os hx)).trans (by rw [hσ]; rfl)) (bndd_of ha h0 ml hi1) (bndd_of ha (by omega) mh hj1) (by omega) (by omega) hq' h3 hq2' h92 (Nat.eq_of_beq_eq_true hc.2)⟩
      | false =>
      rw [hmf] at h
      simp only [cond_false] at h
      refine ⟨_, h, fun h T ha hg => ?_⟩
      rw [← owned_app (hg _ rfl)]
      exact opOk_n (n_slO (S := T) (i := i.toNat) (j := j.toNat) ho hd (ha.ev mx hx) (ha.γ hl1 mx (pl_os hx)) ((ha.σ hl2 mx (pl_os hx)).trans (by rw [hσ]; rfl)) (bndd_of ha h0 ml hi1) (bndd_of ha (by omega) mh hj1) (by omega) (by omega) hq' h3 hE (by rw [← hE]; exact hq2') h92 (Nat.eq_of_beq_eq_true hc.2) (subL_len h0 h1 h2) (f' := fun k => encD e ((subL l i j).getD k (dflt e))) (fun k hk => by rw [subL_get hk]))
    · cases h
  · cases h
def opSlM (Z : ISeat) (nt : Nat) (S : IS) (t ty : Nat) (lo hi : Option Operand) (mx : Operand) (k : Ef → Option R) (d : I) : Option R := rowOf Z ty fun q => rowOf Z q.el fun q2 => chk (Nat.beq q.k 3) (match d with
  | .sl e l => (match hi with | none => none | some hj => chk (Nat.beq q2.sz (sz e)) (bndI Z nt S lo (0 : Nat) fun i => match S.ev Z nt hj, S.ev Z nt mx with
    | .int .i64 j, .int .i64 m => chk (decide (0 ≤ i) && decide (i ≤ j) && decide (j ≤ m) && decide (m ≤ l.length)) (k (vE t (.sl e (subL l i j))))
    | _, _ => none))
  | _ => none)
theorem opSlM_ok (hX : At X Z nt) {ty : Nat} {x mx : Operand} {lo hi : Option Operand} (ho : o.op = .slice ty x lo hi (some mx)) (hd : o.dst = some t) (h : opSlM Z nt S t ty lo hi mx k (S.ev Z nt x) = some r) : ∃ e, k e = some r ∧ EfOk X Z nt o S e := by
  unfold opSlM at h
  obtain ⟨q, hq, h9, h⟩ := rowOf_ok h
  obtain ⟨q2, hq2, h92, h⟩ := rowOf_ok h
  obtain ⟨h3, h⟩ := chk_some h
  have hq' : nth X.Z.tab ty = some q := by rw [hX.Z]; exact hq
  have hq2' : nth X.Z.tab q.el = some q2 := by rw [hX.Z]; exact hq2
  cases hi with
  | none => split at h <;> cases h
  | some hj =>
  split at h
  · rename_i e l hx
    have mx0 : x ∈ o.op.operands.toList := by rw [ho]; cases lo <;> simp [Op.operands]
    have ml : ∀ y, lo = some y → y ∈ o.op.operands.toList := fun y e => by rw [ho, e]; simp [Op.operands]
    have mh : hj ∈ o.op.operands.toList := by rw [ho]; cases lo <;> simp [Op.operands]
    have mm : mx ∈ o.op.operands.toList := by rw [ho]; cases lo <;> simp [Op.operands]
    obtain ⟨c2, h⟩ := chk_some h
    obtain ⟨i, h, hi1⟩ := bndI_ok h
    split at h
    · rename_i j m hje hme
      obtain ⟨hc, h⟩ := chk_some h
      simp only [Bool.and_eq_true, decide_eq_true_eq] at hc
      obtain ⟨⟨⟨h0, h1⟩, h2⟩, h4⟩ := hc
      refine ⟨_, h, efq hd fun h T ha => ?_⟩
      have e1 : T.ev X hj = .int .i64 (j.toNat : Int) := by rw [ha.ev mh hje, Int.toNat_of_nonneg (by omega)]; rfl
      have e2 : T.ev X mx = .int .i64 (m.toNat : Int) := by rw [ha.ev mm hme, Int.toNat_of_nonneg (by omega)]; rfl
      have := q_slFM (S := T) (i := i.toNat) (j := j.toNat) (m := m.toNat) ho (ha.ev mx0 hx) (bndd_of ha h0 ml hi1) e1 e2 (by omega) (by omega) (by omega) hq' h3 hq2' h92 (Nat.eq_of_beq_eq_true c2) (f' := fun k => encD e ((subL l i j).getD k (dflt e))) (fun k hk => by rw [subL_get hk])
      rw [← subL_len h0 h1 (show j ≤ (l.length : Int) by omega)] at this
      exact this
    · cases h
  · cases h
def clrL (l : List Int) (a m : Nat) : List Int := l.take a ++ List.replicate m 0 ++ l.drop (a + m)
theorem clrL_len {l : List Int} {a m : Nat} (h : a + m ≤ l.length) : (clrL l a m).length = l.length := by simp only [clrL, List.length_append, List.length_take, List.length_replicate, List.length_drop]; omega
theorem clrL_in {l : List Int} {a m i : Nat} (h : a + m ≤ l.length) (hi : a ≤ i ∧ i < a + m) (d : Int) : (clrL l a m).getD i d = 0 := by
  simp only [clrL, List.getD_eq_getElem?_getD]
  rw [List.getElem?_append_left (by simp; omega), List.getElem?_append_right (by simp; omega), List.getElem?_replicate, if_pos (by simp; omega)]; rfl
theorem clrL_out {l : List Int} {a m i : Nat} (h : a + m ≤ l.length) (hi : ¬(a ≤ i ∧ i < a + m)) (d : Int) : (clrL l a m).getD i d = l.getD i d := by
  simp only [clrL, List.getD_eq_getElem?_getD]
  by_cases h1 : i < a
  · rw [List.getElem?_append_left (by simp; omega), List.getElem?_append_left (by simp; omega), List.getElem?_take, if_pos h1]
  · rw [List.getElem?_append_right (by simp; omega), List.getElem?_drop]
    simp only [List.length_append, List.length_take, List.length_replicate]
    congr 2; omega
def isZi (kz : IntKind) : List Zr → Bool
  | [.i k] => decide (k = kz)
  | _ => false
theorem isZi_eq {kz : IntKind} {zs : List Zr} (h : isZi kz zs = true) : zs = [.i kz] := by
  unfold isZi at h
  split at h
  · rw [of_decide_eq_true h]
  · cases h
def opClr (Z : ISeat) (S : IS) (ts : Array TypeId) (k : Ef → Option R) (d : I) : Option R := match ts.toList with
  | [ty] => rowOf Z ty fun q => rowOf Z q.el fun q2 => chk (Nat.beq q.k 3) (match d with
    | .ow s g z a m => live S s g (match S.own s with
      | .arr E (.int kz) l => chk (Nat.beq q.el E && Nat.beq z 1 && isZi kz q2.zs) (chk (decide (a + m ≤ l.length)) (k (stE s (.arr E (.int kz) (clrL l a m)))))
      | _ => none)
    | _ => none)
  | _ => none
theorem opClr_ok (hX : At X Z nt) {x : Operand} {ts : Array TypeId} (ho : o.op = .call { callee := .builtin .clear, args := #[x], argTypes := ts }) (hd : o.dst = none) (h : opClr Z S ts k (S.ev Z nt x) = some r) : ∃ e, k e = some r ∧ EfOk X Z nt o S e := by
  have mx : x ∈ o.op.operands.toList := by rw [ho]; simp [Op.operands, Call.operands]
  have hl2 : lvl o = 2 := by simp [lvl, ho]
  have hl1 : lvl o ≠ 0 := by rw [hl2]; simp
  unfold opClr at h
  split at h
  · rename_i ty hts
    have hts : ts = #[ty] := by
      have : ts = ts.toList.toArray := by simp
      rw [this, hts]
    obtain ⟨q, hq, h9, h⟩ := rowOf_ok h
    obtain ⟨q2, hq2, h92, h⟩ := rowOf_ok h
    obtain ⟨h3, h⟩ := chk_some h
    have hq' : nth X.Z.tab ty = some q := by rw [hX.Z]; exact hq
    have hq2' : nth X.Z.tab q.el = some q2 := by rw [hX.Z]; exact hq2
    split at h
    · rename_i s g z a m hx
      replace h := live_ok h
      obtain ⟨rfl, h⟩ := h
      split at h
      · rename_i E kz l hσ
        have hq3 := chk_some h
        clear h
        obtain ⟨hc, h⟩ := hq3
        simp only [Bool.and_eq_true] at hc
        obtain ⟨⟨c1, c2⟩, c3⟩ := hc
        have hE := Nat.eq_of_beq_eq_true c1
        have c2 := Nat.eq_of_beq_eq_true c2
        subst c2
        have hq4 := chk_some h
        clear h
        obtain ⟨ham, h⟩ := hq4
        have ham := of_decide_eq_true ham
        refine ⟨_, h, fun h T ha hg => ?_⟩
        have pm : s ∈ plI (S.ev Z nt x) := by rw [hx]; simp [plI]
        have := n_clear (S := T) ho hts hd (ha.ev mx hx) (ha.γ hl1 mx pm) ((ha.σ hl2 mx pm).trans (by rw [hσ]; rfl)) ham hq' h3 hE (by rw [← hE]; exact hq2') h92 (isZi_eq c3)
          (f' := fun i => encD (.int kz) ((clrL l a m).getD i (dflt (.int kz)))) (fun i _ hi => by rw [clrL_in ham hi]; rfl) (fun i _ hi => by rw [clrL_out ham hi])
        have h0 := opOk_n this
        have e0 : (⟨T.ρ, T.γ, upd T.σ s (.arr E 1 l.length (fun i => encD (.int kz) ((clrL l a m).getD i (dflt (.int kz)))))⟩ : St) = T.app (Ef.wr (stE s (.arr E (.int kz) (clrL l a m)))) (Ef.vl h (stE s (.arr E (.int kz) (clrL l a m)))) := by
          show _ = (⟨T.ρ, T.γ, upd T.σ s (.arr E 1 (clrL l a m).length _)⟩ : St)
          rw [clrL_len ham]
        rw [← e0]
        exact h0
      · cases h
    · cases h
  · cases h
def cpL {α : Type} (l m : List α) : List α := m.take l.length ++ l.drop m.length
theorem cpL_len {α : Type} (l m : List α) : (cpL l m).length = l.length := by simp only [cpL, List.length_append, List.length_take, List.length_drop]; omega
theorem cpL_lo {α : Type} {l m : List α} {d : α} {i : Nat} (h : i < Nat.min m.length l.length) : (cpL l m).getD i d = m.getD i d := by
  have h1 : i < m.length := Nat.lt_of_lt_of_le h (Nat.min_le_left _ _)
  have h2 : i < l.length := Nat.lt_of_lt_of_le h (Nat.min_le_right _ _)
  simp only [cpL, List.getD_eq_getElem?_getD]
  rw [List.getElem?_append_left (by rw [List.length_take]; omega), List.getElem?_take, if_pos h2]
theorem cpL_hi {α : Type} {l m : List α} {d : α} {i : Nat} (h : Nat.min m.length l.length ≤ i) (hi : i < l.length) : (cpL l m).getD i d = l.getD i d := by
  have h0 : Nat.min m.length l.length = min m.length l.length := rfl
  have h1 : m.length ≤ i := by omega
  simp only [cpL, List.getD_eq_getElem?_getD]
  rw [List.getElem?_append_right (by rw [List.length_take]; omega), List.getElem?_drop, List.length_take]
  congr 2; omega
def opCp (Z : ISeat) (S : IS) (t : Nat) (ts : Array TypeId) (k : Ef → Option R) (d y : I) : Option R := match ts.toList with
  | [ty, _] => rowOf Z ty fun q => rowOf Z q.el fun q2 => chk (Nat.beq q.k 3) (match y with
    | .sl e' m => (match d with
      | .os s g => live S s g (match S.own s with
        | .arr E e l => chk (Nat.beq q.el E && Nat.beq q2.sz (sz e) && !(Nat.beq (sz e) 0)) (match asL e e' m with
          | some m => k ⟨some t, .int .i64 (Nat.min m.length l.length : Nat), none, some (s, .arr E e (cpL l m))⟩
          | none => none)
        | _ => none)
      | _ => none)
    | _ => none)
  | _ => none
theorem opCp_ok (hX : At X Z nt) {x y : Operand} {ts : Array TypeId} (ho : o.op = .call { callee := .builtin .copy, args := #[x, y], argTypes := ts }) (hd : o.dst = some t) (h : opCp Z S t ts k (S.ev Z nt x) (S.ev Z nt y) = some r) : ∃ e, k e = some r ∧ EfOk X Z nt o S e := by
  have mx : x ∈ o.op.operands.toList := by rw [ho]; simp [Op.operands, Call.operands]
  have my : y ∈ o.op.operands.toList := by rw [ho]; simp [Op.operands, Call.operands]
  have hl2 : lvl o = 2 := by simp [lvl, ho]
  have hl1 : lvl o ≠ 0 := by rw [hl2]; simp
  unfold opCp at h
  split at h
  · rename_i ty ty' hts
    have hts : ts = #[ty, ty'] := by
      have : ts = ts.toList.toArray := by simp
      rw [this, hts]
    obtain ⟨q, hq, h9, h⟩ := rowOf_ok h
    obtain ⟨q2, hq2, h92, h⟩ := rowOf_ok h
    obtain ⟨h3, h⟩ := chk_some h
    have hq' : nth X.Z.tab ty = some q := by rw [hX.Z]; exact hq
    have hq2' : nth X.Z.tab q.el = some q2 := by rw [hX.Z]; exact hq2
    split at h
    · rename_i e' m hy
      split at h
      · rename_i s g hx
        replace h := live_ok h
        obtain ⟨rfl, h⟩ := h
        split at h
        · rename_i E e l hσ
          obtain ⟨hc, h⟩ := chk_some h
          simp only [Bool.and_eq_true, Bool.not_eq_true'] at hc
          obtain ⟨⟨c1, c2⟩, c4⟩ := hc
          have hE := Nat.eq_of_beq_eq_true c1
          split at h
          · rename_i m' hm
            have hy' : S.ev Z nt y = .sl e m' := by rw [hy]; exact asL_eq hm
            refine ⟨_, h, fun h T ha hg => ?_⟩
            have := n_copy (S := T) ho hts hd (ha.ev mx hx) (ha.γ hl1 mx (pl_os hx)) ((ha.σ hl2 mx (pl_os hx)).trans (by rw [hσ]; rfl)) (ha.ev my hy') hq' h3 hE (by rw [← hE]; exact hq2') h92 (Nat.eq_of_beq_eq_true c2) c4 rfl
              (f' := fun i => encD e ((cpL l m').getD i (dflt e))) (fun i hi => by rw [cpL_lo hi]) (fun i h1 h2 => by rw [cpL_hi h1 h2])
            have h0 := opOk_n this
            have e0 : (⟨upd T.ρ t (.int .i64 (Nat.min m'.length l.length : Nat)), T.γ, upd T.σ s (.arr E (sz e) l.length (fun i => encD e ((cpL l m').getD i (dflt e))))⟩ : St) = T.app (Ef.wr ⟨some t, .int .i64 (Nat.min m'.length l.length : Nat), none, some (s, .arr E e (cpL l m'))⟩) (Ef.vl h ⟨some t, .int .i64 (Nat.min m'.length l.length : Nat), none, some (s, .arr E e (cpL l m'))⟩) := by
              show _ = (⟨upd T.ρ t _, T.γ, upd T.σ s (.arr E (sz e) (cpL l m').length _)⟩ : St)
              rw [cpL_len]; rfl
            rw [← e0]
            exact h0
          · cases h
        · cases h
      · cases h
    · cases h
  · cases h
end
end
end Go.Ab
namespace Go.Ab
open Go Go.RowKit
set_option linter.all false
structure ContractROM (Z : Seat) (f : FuncId) (l l' A : List D) (R : D) (k : Nat) (os : Nat → OwA) : Prop where
  pureA : PureL A
  purel : PureL l
  purel' : PureL l'
  cell' : allCell l' = true
  poR : POk k R
  pureE : ∀ j, j < k → ∀ i, i < (os j).n → PureL ((os j).el i)
  body : HasBody Z.P f
  calls : ∀ (w : World) (κ : Nat → Nat → Option Value) (args : List Value) (b : Nat) (T : TypeId) (cs : List Value), Fits κ w → (∀ o, κ b o = none) → w.heap[b]? = some (.cells (List.toArray cs) T (0, 0)) → RepL κ γ0 sv0 l cs → GlobOk Z κ w → RepL κ γ0 sv0 A args →
    Calls Z.P f (Value.pointer (some ⟨b, 0, none⟩) :: args).toArray w fun e w' => ∃ v sl κ' cs' T', e = .returned v ∧ w'.heap[b]? = some (.cells (List.toArray cs') T' (0, 0)) ∧ RepL κ' γ0 sv0 l' cs' ∧
      Rep κ' (fun _ => 1) sl (renM (fun i => (i, 1)) R) v ∧ (∀ b o u, κ b o = some u → κ' b o = some u) ∧ (∀ b o u, b < w.heap.size → κ' b o = some u → κ b o = some u) ∧
      (∀ b o u, κ' b o = some u → w'.cell? ⟨b, o, none⟩ = some u) ∧ OwnsM w.heap.size κ' sl w' k os ∧ Frame (some b) w w'
section
variable {X : Ctx} {Q : Exit → St → Prop} {S : St} {ops : Array Oper} {o : Oper} {rest : List Oper}
theorem WL_callROM (ps : List Nat) (hps : difP ps = true) {f : FuncId} {x0 : Operand} {xs : List Operand} {ts : Array TypeId} {l l' A : List D} {R : D} {os : Nat → OwA} {s g : Nat} (hns : inP ps s = false) (hg : o.guard = none) (ho : o.op = .call { callee := .value (.func f), args := (x0 :: xs).toArray, argTypes := ts }) (hx : S.ev X x0 = .bx s g 0) (hγ : S.γ s = g) (hσ : S.σ s = .box l)
    (hc : ContractROM X.Z f l l' A R ps.length os) (hA : xs.map (S.ev X) = A) {t : Nat} (hd : o.dst = some t) {R' : D} (hR : renM (fun i => (atP ps i, S.γ (atP ps i) + 1)) R = R')
    (hk : WL X ops rest Q ⟨upd S.ρ t R', mrg (inP ps) (fun s => S.γ s + 1) S.γ, mrg (inP ps) (fun s => (os (idxP ps s)).own) (upd S.σ s (.box l'))⟩) : WL X ops (o :: rest) Q S := fun κ sv a w hs => by
  subst hR
  obtain ⟨b, T, cs, he, hsv, hh, hrep, hac⟩ := box_cells hs hx hγ hσ
  have hblk : blk (S.σ s) (sv s) = some b := by rw [hσ, hsv]; rfl
  have hr := evs_rep hs xs
  rw [hA] at hr
  have hrun := run_call (P := X.Z.P) (a := a) (w := w) hc.body ho
  simp only [List.map_cons, he] at hrun
  have hcall := hc.calls w κ (xs.map a.eval) b T cs (Sim.fits hs.wld) (fun o => hs.wld.sep s b o hblk) hh (hrep.pure (fun _ _ _ h => h) hc.purel) (Sim.globOk hs.wld) (hr.pure (fun _ _ _ h => h) hc.pureA)
  refine wpListIn_plain hg fun K hK => op_call hrun hcall ?_
  rintro e w' ⟨v, sl, κ', cs', T', rfl, hh', hl', hv, k1, k2, k3, hown, hfr⟩
  have hgr : w.grownBy w' (some b) := ⟨hfr.os, hfr.tape, hfr.output, hfr.size, fun k hk hne => hfr.block k hk hne⟩
  have hle : Le κ κ' S.γ (mrg (inP ps) (fun s => S.γ s + 1) S.γ) sv (mrg (inP ps) (fun s => sl (idxP ps s)) sv) := le_mrg k1 _ _
  have hbt : ∀ t, t ≠ s → ∀ b', blk (S.σ t) (sv t) = some b' → w'.heap[b']? = w.heap[b']? := fun t ht b' hb' =>
    hgr.block b' (owns_lt (hs.wld.own t) hb') (fun e => ht (hs.wld.inj t s b' hb' (by rw [hblk]; exact e.symm)))
  have hW := hs.wld.adoptM hgr (fun b' e => ⟨s, by rw [hblk]; exact e⟩) k1 k2 k3 (inP ps) (upd S.σ s (.box l')) (fun s => (os (idxP ps s)).own) (fun s => sl (idxP ps s)) (fun s hp b hbk => by
    obtain ⟨i1, i2⟩ := idx_in hp
    obtain ⟨xs, e1, _⟩ := hown.own _ i1
    rcases e1.2 with ⟨hv, _⟩ | ⟨b', off, cap, cur, hv, hbase, hh, _⟩
    · rw [hv] at hbk; cases hbk
    · have hsep := hown.sep _ i1 b hbk
      rw [hv] at hbk; simp only [OwA.own, blk, Option.some.injEq] at hbk; subst hbk
      exact ⟨hbase, (Array.getElem?_eq_some_iff.1 hh).1, hsep⟩) (fun s t b hp hq h1 h2 => by
    obtain ⟨i1, i2⟩ := idx_in hp
    obtain ⟨j1, j2⟩ := idx_in hq
    have := hown.inj _ _ b i1 j1 h1 h2
    rw [← i2, ← j2, this]) (fun s hp => by
    obtain ⟨i1, i2⟩ := idx_in hp
    obtain ⟨xs, e1, e2, e3, e4⟩ := hown.own _ i1
    exact ⟨xs, by rw [mrg_t (f := fun s => sl (idxP ps s)) hp]; exact owns_base e1 (hs.wld.baseS _), e2, e3, fun i hi => (e4 i hi).pure (fun _ _ _ h => h) (hc.pureE _ i1 i hi)⟩) (fun t hp => by
    by_cases e : t = s
    · subst e
      rw [upd_same]
      exact ⟨by rw [hblk, hsv]; rfl, b, T', cs', by rw [mrg_f hp]; exact hsv, hh', hl'.pure (fun _ _ _ h => h) hc.purel', .pure hc.cell' hc.purel'⟩
    · rw [upd_ne _ _ _ _ e]
      exact ⟨rfl, owns_mono hle (by rw [mrg_f hp]) (hbt t e) (hs.wld.own t)⟩) S.ρ
  have hs' : Sim X κ' (mrg (inP ps) (fun s => sl (idxP ps s)) sv) ⟨S.ρ, mrg (inP ps) (fun s => S.γ s + 1) S.γ, mrg (inP ps) (fun s => (os (idxP ps s)).own) (upd S.σ s (.box l'))⟩ a w' := ⟨hs.size, dfr_own hs s (by rw [hblk]; exact hgr), fun i hi => (hs.slot i hi).mono hle, hW⟩
  refine ⟨v, rfl, ?_⟩
  rw [hd]
  exact hK _ _ (hk κ' _ _ w' (hs'.put (some t) (rep_renM (k := ps.length) (f := fun i => (i, 1)) (f' := fun i => (atP ps i, S.γ (atP ps i) + 1)) (fun _ _ _ h => h) (fun _ _ => rfl) (fun i hi => mrg_t (f := fun s => S.γ s + 1) (g := S.γ) (at_in hi)) (fun i hi => (mrg_t (f := fun s => sl (idxP ps s)) (g := sv) (at_in hi)).trans (by rw [idx_at hps hi])) hc.poR hv)))
end
end Go.Ab
namespace Go.Ab
open Go Go.RowKit
set_option linter.all false
set_option maxHeartbeats 1000000
structure PostN (n : Nat) (q : Nat → Nat) (os os' : Nat → Own) (mv : Nat → Bool) (R : D) (κ κ2 : Nat → Nat → Option Value) (sv sv2 : Nat → Value) (w w' : World) (v : Value) : Prop where
  cells : ∀ b o u, κ b o = some u → κ2 b o = some u
  fits : Fits κ2 w'
  old : ∀ b o u, b < w.heap.size → κ2 b o = some u → κ b o = some u
  same : ∀ i, i < n → mv i = false → sv2 (q i) = sv (q i)
  res : Rep κ2 (gM q n) sv2 R v
  own : ∀ i, i < n → Owns 0 κ2 (gM q n) sv2 w' (q i) (os' i)
  inj : ∀ i j b, i < n → j < n → blk (os' i) (sv2 (q i)) = some b → blk (os' j) (sv2 (q j)) = some b → i = j
  sep : ∀ i b o, i < n → blk (os' i) (sv2 (q i)) = some b → κ2 b o = none
  frsh : ∀ i b, i < n → blk (os' i) (sv2 (q i)) = some b → w.heap.size ≤ b ∨ blk (os i) (sv (q i)) = some b
  frame : FrameM n (fun i => blk (os i) (sv (q i))) w w'
structure ContractN (Z : Seat) (f : FuncId) (n : Nat) (q : Nat → Nat) (os os' : Nat → Own) (mv : Nat → Bool) (A : List D) (R : D) : Prop where
  refR : Rn n q one q one R R
  kind : ∀ i, i < n → OwK (os i) (os' i)
  body : HasBody Z.P f
  calls : ∀ (w : World) (κ : Nat → Nat → Option Value) (sv : Nat → Value) (args : List Value), (∀ i j b, i < n → j < n → blk (os i) (sv (q i)) = some b → blk (os j) (sv (q j)) = some b → i = j) → Fits κ w → (∀ i b, i < n → blk (os i) (sv (q i)) = some b → ∀ o, κ b o = none) → GlobOk Z κ w →
    (∀ i, i < n → Owns 0 κ (gM q n) sv w (q i) (os i)) → RepL κ (gM q n) sv A args →
    Calls Z.P f args.toArray w fun e w' => ∃ v κ2 sv2, e = .returned v ∧ PostN n q os os' mv R κ κ2 sv sv2 w w' v
section
variable {X : Ctx} {Q : Exit → St → Prop} {S : St} {ops : Array Oper} {o : Oper} {rest : List Oper}
theorem WL_callN {f : FuncId} {x : Operand} {xs : Array Operand} {ts : Array TypeId} {n : Nat} {q ps : Nat → Nat} {os os' : Nat → Own} {mv : Nat → Bool} {c A : List D} {R R' : D} (hinj : ∀ i j, i < n → j < n → ps i = ps j → i = j) (hq : ∀ i j, i < n → j < n → q i = q j → i = j) (hg : o.guard = none) (ho : o.op = .call { callee := .value x, args := xs, argTypes := ts })
    (hx : S.ev X x = .fn f c) (hbox : ∀ i, i < n → OwRn n ps (fun j => S.γ (ps j)) q one (S.σ (ps i)) (os i)) (hA : RnL n ps (fun j => S.γ (ps j)) q one (xs.toList.map (S.ev X) ++ c) A)
    (hc : ContractN X.Z f n q os os' mv A R) {γ' : Nat → Nat} (hγ1 : ∀ s, (∀ i, i < n → ps i ≠ s) → γ' s = S.γ s) (hγ2 : ∀ i, i < n → γ' (ps i) = bif mv i then S.γ (ps i) + 1 else S.γ (ps i))
    (hRR : Rn n q one ps (fun j => γ' (ps j)) R R') {t : Nat} (hd : o.dst = some t) {σ' : Nat → Own} (hσ1 : ∀ s, (∀ i, i < n → ps i ≠ s) → σ' s = S.σ s) (hσ2 : ∀ i, i < n → OwRn n q one ps (fun j => γ' (ps j)) (os' i) (σ' (ps i)))
    (hk : WL X ops rest Q ⟨upd S.ρ t R', γ', σ'⟩) : WL X ops (o :: rest) Q S := fun κ sv a w hs => by
  obtain ⟨lb, hl1, hl2⟩ := ev_fn hs hx
  have hrun := run_callv (w := w) hc.body ho hl1
  have hr := (evs_rep hs xs.toList).append hl2
  let svq : Nat → Value := fun s => if h : ∃ i, i < n ∧ q i = s then sv (ps h.choose) else Go.undef
  have hsvq : ∀ i, i < n → svq (q i) = sv (ps i) := fun i hi => by
    have h : ∃ j, j < n ∧ q j = q i := ⟨i, hi, rfl⟩
    show (if h : ∃ j, j < n ∧ q j = q i then sv (ps h.choose) else Go.undef) = _
    rw [dif_pos h, hq _ _ h.choose_spec.1 hi h.choose_spec.2]
  have hbl : ∀ i, i < n → ∀ v, blk (os i) v = blk (S.σ (ps i)) v := fun i hi v => (hbox i hi).blk v
  have hcall := hc.calls w κ svq _ (fun i j b hi hj h1 h2 => by
      rw [hsvq i hi, hbl i hi] at h1
      rw [hsvq j hj, hbl j hj] at h2
      exact hinj i j hi hj (hs.wld.inj _ _ b h1 h2)) (Sim.fits hs.wld) (fun i b hi h1 o => by
      rw [hsvq i hi, hbl i hi] at h1
      exact hs.wld.sep _ _ o h1) (Sim.globOk hs.wld) (fun i hi => (hbox i hi).owns (fun _ _ _ h => h) (fun _ _ => rfl) (fun j hj => gM_lt hj) (fun j hj => (hsvq j hj).symm) (hsvq i hi).symm (fun _ _ _ _ _ _ _ => Nat.zero_le _) (hs.wld.own (ps i)))
    (hA.rep (fun _ _ _ h => h) (fun _ _ => rfl) (fun j hj => gM_lt hj) (fun j hj => (hsvq j hj).symm) hr)
  refine wpListIn_plain hg fun K hK => op_call hrun hcall ?_
  rintro e w' ⟨v, κ2, sv2, rfl, hp⟩
  have hne0 : ∀ i, i < n → ∀ b, blk (os i) (svq (q i)) = some b → blk (S.σ (ps i)) (sv (ps i)) = some b := fun i hi b h => by
    rw [hsvq i hi, hbl i hi] at h; exact h
  let sv' : Nat → Value := fun s => if h : ∃ i, i < n ∧ ps i = s then sv2 (q h.choose) else sv s
  have hsv1 : ∀ i, i < n → sv' (ps i) = sv2 (q i) := fun i hi => by
    have h : ∃ j, j < n ∧ ps j = ps i := ⟨i, hi, rfl⟩
    show (if h : ∃ j, j < n ∧ ps j = ps i then sv2 (q h.choose) else sv (ps i)) = _
    rw [dif_pos h, hinj _ _ h.choose_spec.1 hi h.choose_spec.2]
  have hsv2 : ∀ s, (∀ i, i < n → ps i ≠ s) → sv' s = sv s := fun s h => by
    show (if h : ∃ j, j < n ∧ ps j = s then sv2 (q h.choose) else sv s) = _
    rw [dif_neg (fun ⟨i, hi, e⟩ => h i hi e)]
  have hle : Le κ κ2 S.γ γ' sv sv' := ⟨hp.cells, fun s => by
      by_cases e : ∃ i, i < n ∧ ps i = s
      · obtain ⟨i, hi, rfl⟩ := e
        rw [hγ2 i hi]
        cases mv i
        · exact Nat.le_refl _
        · exact Nat.le_succ _
      · rw [hγ1 s (fun i hi e2 => e ⟨i, hi, e2⟩)]; exact Nat.le_refl _, fun s hgs => by
      by_cases e : ∃ i, i < n ∧ ps i = s
      · obtain ⟨i, hi, rfl⟩ := e
        rw [hγ2 i hi] at hgs
        cases hm : mv i with
        | true => rw [hm] at hgs; simp only [cond_true] at hgs; omega
        | false => rw [hsv1 i hi, hp.same i hi hm, hsvq i hi]
      · exact hsv2 s (fun i hi e2 => e ⟨i, hi, e2⟩)⟩
  have hno : ∀ s, (∀ i, i < n → ps i ≠ s) → ∀ b', blk (S.σ s) (sv s) = some b' → w'.heap[b']? = w.heap[b']? := fun s hns b' hb' =>
    hp.frame.block b' (owns_lt (hs.wld.own s) hb') (fun i hi e => hns i hi (hs.wld.inj _ _ b' (hne0 i hi b' e) hb'))
  -- a place's block, behind the call
  have hbk : ∀ s b', blk (σ' s) (sv' s) = some b' → (∃ i, i < n ∧ ps i = s ∧ blk (os' i) (sv2 (q i)) = some b' ∧ (w.heap.size ≤ b' ∨ blk (S.σ s) (sv s) = some b')) ∨ ((∀ i, i < n → ps i ≠ s) ∧ blk (S.σ s) (sv s) = some b') := fun s b' hb' => by
    by_cases e : ∃ i, i < n ∧ ps i = s
    · obtain ⟨i, hi, rfl⟩ := e
      rw [(hσ2 i hi).blk, hsv1 i hi] at hb'
      refine .inl ⟨i, hi, rfl, hb', ?_⟩
      rcases hp.frsh i b' hi hb' with h | h
      · exact .inl h
      · exact .inr (hne0 i hi b' h)
    · have hns : ∀ i, i < n → ps i ≠ s := fun i hi e2 => e ⟨i, hi, e2⟩
      rw [hσ1 s hns, hsv2 s hns] at hb'
      exact .inr ⟨hns, hb'⟩
  have hlt : ∀ s b', blk (S.σ s) (sv s) = some b' → b' < w.heap.size := fun s b' hb' => owns_lt (hs.wld.own s) hb'
  have hW : SimW X κ2 sv' ⟨S.ρ, γ', σ'⟩ w' := by
    obtain ⟨h1, h2, h3, h4, h5, ⟨M, h6, h6'⟩, h7, h8, h9, h10, h11, h12, h13, h14, h15⟩ := hs.wld
    refine ⟨hp.fits, fun s => ?_, fun s u b' ht hu => ?_, fun s b' o ht => ?_, fun s b' ht => ?_, ⟨_, X.cl M w w' h6 ⟨hp.frame.os, hp.frame.tape, hp.frame.output, hp.frame.size, fun k hk hm => hp.frame.block k hk (fun i hi e => hm (h6' _ _ (hne0 i hi k e)))⟩, fun s b' ht => ?_⟩, fun g l hgl => ?_, fun b' o v hlt' hk' => ?_, fun b' hb' => ?_, Nat.le_trans h10 hp.frame.size, ⟨fun b o u hu => hp.cells _ _ _ (h11.cells b o u hu), fun s => Nat.le_trans (h11.gens s) (hle.gens s), fun s e => ?_⟩, fun b' o v hk' => ?_, fun s b' ht => ?_, fun b' hT => Nat.lt_of_lt_of_le (h14 b' hT) hp.frame.size, h15⟩
    · by_cases e : ∃ i, i < n ∧ ps i = s
      · obtain ⟨i, hi, rfl⟩ := e
        refine (hσ2 i hi).owns (fun _ _ _ h => h) (fun j hj => gM_lt hj) (fun _ _ => rfl) (fun j hj => (hsv1 j hj).symm) (hsv1 i hi).symm (fun E z m f b he hb => ?_) (hp.own i hi)
        rcases hp.frsh i b hi hb with hn | hn
        · exact Nat.le_trans (X.base_le _) (Nat.le_trans h10 hn)
        · have hb0 := hne0 i hi b hn
          have ho := h2 (ps i)
          have hk1 := hc.kind i hi
          have hbx := hbox i hi
          rw [he] at hk1
          generalize os i = o2 at hk1 hbx
          generalize hk2 : S.σ (ps i) = o1 at hbx
          rw [hk2] at ho hb0
          cases hk1
          cases hbx
          exact owns_ge ho b hb0
      · have hns : ∀ i, i < n → ps i ≠ s := fun i hi e2 => e ⟨i, hi, e2⟩
        show Owns _ _ _ _ _ _ (σ' s)
        rw [hσ1 s hns]
        exact owns_mono hle (hsv2 s hns) (hno s hns) (h2 s)
    · rcases hbk s b' ht with ⟨i, hi, rfl, e1, e2⟩ | ⟨n1, e1⟩
      · rcases hbk u b' hu with ⟨j, hj, rfl, f1, f2⟩ | ⟨n2, f1⟩
        · rw [hp.inj i j b' hi hj e1 f1]
        · rcases e2 with e2 | e2
          · exact absurd (hlt u b' f1) (by omega)
          · exact h3 _ _ b' e2 f1
      · rcases hbk u b' hu with ⟨j, hj, rfl, f1, f2⟩ | ⟨n2, f1⟩
        · rcases f2 with f2 | f2
          · exact absurd (hlt s b' e1) (by omega)
          · exact h3 _ _ b' e1 f2
        · exact h3 s u b' e1 f1
    · rcases hbk s b' ht with ⟨i, hi, rfl, e1, e2⟩ | ⟨n1, e1⟩
      · exact hp.sep i b' o hi e1
      · cases hk' : κ2 b' o with
        | none => rfl
        | some u =>
          have := hp.old b' o u (hlt s b' e1) hk'
          rw [h4 s b' o e1] at this; cases this
    · rcases hbk s b' ht with ⟨i, hi, rfl, e1, e2⟩ | ⟨n1, e1⟩
      · rcases e2 with e2 | e2
        · exact .inl (Nat.le_trans h10 e2)
        · exact h5 _ b' e2
      · exact h5 s b' e1
    · rcases hbk s b' ht with ⟨i, hi, rfl, e1, e2⟩ | ⟨n1, e1⟩
      · rcases e2 with e2 | e2
        · exact .inr e2
        · exact .inl (h6' _ b' e2)
      · exact .inl (h6' s b' e1)
    · obtain ⟨hc2, u, hu, hk'⟩ := h7 g l hgl
      exact ⟨hc2, u, hu.mono hle, fun j v hj => hle.cells _ _ _ (hk' j v hj)⟩
    · exact h8 b' o v hlt' (hp.old b' o v (Nat.lt_of_lt_of_le hlt' h10) hk')
    · obtain ⟨g1, g2⟩ := h9 b' hb'
      refine ⟨Nat.le_trans g1 (hle.gens 0), fun e => ?_⟩
      have e0 : S.γ 0 = γ' 0 := Nat.le_antisymm (hle.gens 0) (by show γ' 0 ≤ S.γ 0; have : γ' 0 = 1 := e; omega)
      rw [hle.vals 0 e0]
      exact g2 (e0.trans e)
    · have e1 : X.γp s = S.γ s := Nat.le_antisymm (h11.gens s) (by have := hle.gens s; show S.γ s ≤ X.γp s; have : X.γp s = γ' s := e; omega)
      have e2 : S.γ s = γ' s := e1.symm.trans e
      rw [hle.vals s e2, h11.vals s e1]
    · by_cases hb : b' < w.heap.size
      · exact h12 b' o v (hp.old b' o v hb hk')
      · intro hT; have := h14 b' hT; omega
    · rcases hbk s b' ht with ⟨i, hi, rfl, e1, e2⟩ | ⟨n1, e1⟩
      · rcases e2 with e2 | e2
        · intro hT; have := h14 b' hT; omega
        · exact h13 _ b' e2
      · exact h13 s b' e1
  have hdf : Dfr X.nd X.w0.heap.size a w' := hs.defers.step fun k o hk ho => by
    rw [hp.frame.block k (Array.getElem?_eq_some_iff.1 hk).1 (fun i hi e => by
      obtain ⟨o', q1, q2⟩ := owns_cells (hs.wld.own (ps i)) (hne0 i hi k e)
      rw [hk] at q1; cases q1; rw [ho] at q2; cases q2)]
    exact hk
  have hs' : Sim X κ2 sv' ⟨S.ρ, γ', σ'⟩ a w' := ⟨hs.size, hdf, fun i hi => (hs.slot i hi).mono hle, hW⟩
  refine ⟨v, rfl, ?_⟩
  rw [hd]
  exact hK _ _ (hk _ sv' _ w' (hs'.put (some t) (hRR.rep (fun _ _ _ h => h) (fun j hj => gM_lt hj) (fun _ _ => rfl) (fun j hj => (hsv1 j hj).symm) hp.res)))
end
end Go.Ab
namespace Go.Ab
open Go Go.RowKit
set_option linter.all false
set_option maxHeartbeats 1000000
noncomputable section
structure FnSpec (Z : Seat) where
  f : FuncId
  sc : Bool
  app : {R : Type} → List I → (I → Option R) → Option R
  ok : ∀ {R : Type} (A : List I) (k : I → Option R) (r : R), app A k = some r → ∃ d, k d = some r ∧ ∀ h, Contract Z f (I.toDL h A) (d.toD h) ∧ (sc = true → ∃ v, scal (d.toD h) = some v)
structure FnSpecR (Z : Seat) where
  f : FuncId
  app : {R : Type} → List I → List I → (List I → I → Option R) → Option R
  ok : ∀ {R : Type} (l A : List I) (k : List I → I → Option R) (r : R), app l A k = some r → ∃ l' d, k l' d = some r ∧ ∀ h, ContractR Z f (I.toDL h l) (I.toDL h l') (I.toDL h A) (d.toD h)
def encV (t : T) (x : den t) : I := bif isSt t then .agg (encC t x) else (match encC t x with | [d] => d | _ => .undef)
def decV (t : T) (d : I) : Option (den t) := bif isSt t then (match d with | .agg l => decC t l | _ => none) else decC t [d]
@[reducible] def argD : List T → Type
  | [] => Unit
  | t :: ts => den t × argD ts
def encA : (ts : List T) → argD ts → List I
  | [], _ => []
  | t :: ts, x => encV t x.1 :: encA ts x.2
def itD (its : List T) (items : List (argD its)) (i : Nat) : List D := match items[i]? with | some a => I.toDL zh (encA its a) | none => []
structure ItSpec (Z : Seat) where
  f : FuncId
  its : List T
  app : {R : Type} → List I → (List (argD its) → Option R) → Option R
  ok : ∀ {R : Type} (cap : List I) (k : List (argD its) → Option R) (r : R), app cap k = some r → ∃ items, k items = some r ∧ ∀ h, ItC Z f (I.toDL h cap) items.length (itD its items)
def findI {Z : Seat} : List (ItSpec Z) → Nat → Option (ItSpec Z)
  | [], _ => none
  | s :: l, f => bif Nat.beq s.f f then some s else findI l f
theorem findI_eq {Z : Seat} : ∀ {l : List (ItSpec Z)} {f : Nat} {s : ItSpec Z}, findI l f = some s → s.f = f
  | s :: l, f, s', h => by
    unfold findI at h
    cases hb : Nat.beq s.f f with
    | true => rw [hb] at h; simp at h; subst h; exact Nat.eq_of_beq_eq_true hb
    | false => rw [hb] at h; exact findI_eq h
structure ContractB (Z : Seat) (f : FuncId) (A l : List D) : Prop where
  pureA : PureL A
  purel : PureL l
  body : HasBody Z.P f
  calls : ∀ (w : World) (κ : Nat → Nat → Option Value) (args : List Value), Fits κ w → GlobOk Z κ w → RepL κ γ0 sv0 A args →
    Calls Z.P f args.toArray w fun e w' => ∃ b T cs κ', e = .returned (.pointer (some ⟨b, 0, none⟩)) ∧ w.heap.size ≤ b ∧ w'.heap[b]? = some (.cells (List.toArray cs) T (0, 0)) ∧ RepL κ' γ0 sv0 l cs ∧ allCell l = true ∧
      (∀ b o u, κ b o = some u → κ' b o = some u) ∧ (∀ b o u, b < w.heap.size → κ' b o = some u → κ b o = some u) ∧ (∀ b o u, κ' b o = some u → w'.cell? ⟨b, o, none⟩ = some u) ∧ (∀ o, κ' b o = none) ∧ Below w.heap.size w w'
structure FnSpecB (Z : Seat) where
  f : FuncId
  app : {R : Type} → List I → (List I → Option R) → Option R
  ok : ∀ {R : Type} (A : List I) (k : List I → Option R) (r : R), app A k = some r → ∃ l, k l = some r ∧ ∀ h, ContractB Z f (I.toDL h A) (I.toDL h l)
structure FnSpecO (Z : Seat) where
  f : FuncId
  app : {R : Type} → List I → (TypeId → (t : T) → List (den t) → I → Option R) → Option R
  ok : ∀ {R : Type} (A : List I) (k : TypeId → (t : T) → List (den t) → I → Option R) (r : R), app A k = some r → ∃ E t l d, k E t l d = some r ∧ ∀ h, ContractO Z f (I.toDL h A) (d.toD h) E (sz t) l.length (fun i => encD t (l.getD i (dflt t)))
structure FnSpecRO (Z : Seat) where
  f : FuncId
  app : {R : Type} → List I → List I → (List I → TypeId → (t : T) → List (den t) → I → Option R) → Option R
  ok : ∀ {R : Type} (l A : List I) (k : List I → TypeId → (t : T) → List (den t) → I → Option R) (r : R), app l A k = some r → ∃ l' E t m d, k l' E t m d = some r ∧ ∀ h, ContractRO Z f (I.toDL h l) (I.toDL h l') (I.toDL h A) (d.toD h) E (sz t) m.length (fun i => encD t (m.getD i (dflt t)))
structure OwT where
  E : TypeId
  t : T
  l : List (den t)
def OwT.owA (q : OwT) : OwA := ⟨q.E, sz q.t, q.l.length, fun i => encD q.t (q.l.getD i (dflt q.t))⟩
def nthO : List OwT → Nat → OwT
  | [], _ => ⟨0, .bool, []⟩
  | q :: _, 0 => q
  | _ :: l, n + 1 => nthO l n
def osF (os : List OwT) : Nat → OwA := fun i => (nthO os i).owA
structure FnSpecOM (Z : Seat) where
  f : FuncId
  app : {R : Type} → List I → (List OwT → I → Option R) → Option R
  ok : ∀ {R : Type} (A : List I) (k : List OwT → I → Option R) (r : R), app A k = some r → ∃ os d, k os d = some r ∧ ∀ h, ContractOM Z f (I.toDL h A) (d.toD h) os.length (osF os)
def findQ {Z : Seat} : List (FnSpecOM Z) → Nat → Option (FnSpecOM Z)
  | [], _ => none
  | s :: l, f => bif Nat.beq s.f f then some s else findQ l f
theorem findQ_eq {Z : Seat} : ∀ {l : List (FnSpecOM Z)} {f : Nat} {s : FnSpecOM Z}, findQ l f = some s → s.f = f
  | s :: l, f, s', h => by
    unfold findQ at h
    cases hb : Nat.beq s.f f with
    | true => rw [hb] at h; simp at h; subst h; exact Nat.eq_of_beq_eq_true hb
    | false => rw [hb] at h; exact findQ_eq h
structure FnSpecROM (Z : Seat) where
  f : FuncId
  app : {R : Type} → List I → List I → (List I → List OwT → I → Option R) → Option R
  ok : ∀ {R : Type} (l A : List I) (k : List I → List OwT → I → Option R) (r : R), app l A k = some r → ∃ l' os d, k l' os d = some r ∧ ∀ h, ContractROM Z f (I.toDL h l) (I.toDL h l') (I.toDL h A) (d.toD h) os.length (osF os)
def findW {Z : Seat} : List (FnSpecROM Z) → Nat → Option (FnSpecROM Z)
  | [], _ => none
  | s :: l, f => bif Nat.beq s.f f then some s else findW l f
theorem findW_eq {Z : Seat} : ∀ {l : List (FnSpecROM Z)} {f : Nat} {s : FnSpecROM Z}, findW l f = some s → s.f = f
  | s :: l, f, s', h => by
    unfold findW at h
    cases hb : Nat.beq s.f f with
    | true => rw [hb] at h; simp at h; subst h; exact Nat.eq_of_beq_eq_true hb
    | false => rw [hb] at h; exact findW_eq h
mutual
def renIM (f : Nat → Nat × Nat) : I → I
  | .os s _ => .os (f s).1 (f s).2
  | .agg l => .agg (renILM f l)
  | d => d
def renILM (f : Nat → Nat × Nat) : List I → List I
  | [] => []
  | d :: l => renIM f d :: renILM f l
end
mutual
theorem renIM_toD (h : Nat → Nat) (f : Nat → Nat × Nat) : ∀ d : I, (renIM f d).toD h = renM (fun i => ((f i).1, h (f i).1 + (f i).2)) (d.toD h)
  | .os _ _ => rfl
  | .agg l => by simp only [renIM, I.toD, renM, renILM_toD h f l]
  | .int _ _ => rfl | .bool _ => rfl | .str _ => rfl | .tup _ => rfl | .sl _ _ => rfl | .nsl _ l => (by cases l <;> rfl) | .nil => rfl | .rp _ _ => rfl | .bx _ _ _ => rfl | .mb _ _ _ => rfl | .op _ _ _ _ _ => rfl | .ow _ _ _ _ _ => rfl | .fn _ _ => rfl | .yl _ => rfl | .mf _ _ => rfl | .one => rfl | .lk _ => rfl | .er _ => rfl | .undef => rfl
theorem renILM_toD (h : Nat → Nat) (f : Nat → Nat × Nat) : ∀ l : List I, I.toDL h (renILM f l) = renLM (fun i => ((f i).1, h (f i).1 + (f i).2)) (I.toDL h l)
  | [] => rfl
  | d :: l => by simp only [renILM, I.toDL, renLM, renIM_toD h f d, renILM_toD h f l]
end
def nthW : List IOwn → Nat → IOwn
  | [], _ => .none
  | o :: _, 0 => o
  | _ :: l, n + 1 => nthW l n
def owF (os : List IOwn) : Nat → Own := fun i => (nthW os i).toOwn zh
def upO : List Nat → List IOwn → (Nat → Own) → Nat → Own
  | i :: wr, l :: ls, F => upO wr ls (fun j => bif Nat.beq j i then l.toOwn zh else F j)
  | _, _, F => F
def isArr : IOwn → Bool
  | .arr _ _ _ => true
  | _ => false
def nmO (os : List IOwn) : Nat → Nat := fun i => bif isArr (nthW os i) then XB + i else i
structure FnSpecM (Z : Seat) where
  f : FuncId
  ka : List Nat
  kb : List Nat
  wr : List Nat
  mv : List Nat
  app : {R : Type} → List IOwn → List I → (List IOwn → I → Option R) → Option R
  ok : ∀ {R : Type} (os : List IOwn) (A : List I) (k : List IOwn → I → Option R) (r : R), app os A k = some r → ∃ os' d, k os' d = some r ∧ ContractN Z f os.length (nmO os) (owF os) (upO wr os' (owF os)) (fun i => memN i mv) (I.toDL zh A) (d.toD zh)
def findM {Z : Seat} : List (FnSpecM Z) → Nat → Option (FnSpecM Z)
  | [], _ => none
  | s :: l, f => bif Nat.beq s.f f then some s else findM l f
def findX {Z : Seat} : List (FnSpecRO Z) → Nat → Option (FnSpecRO Z)
  | [], _ => none
  | s :: l, f => bif Nat.beq s.f f then some s else findX l f
theorem findX_eq {Z : Seat} : ∀ {l : List (FnSpecRO Z)} {f : Nat} {s : FnSpecRO Z}, findX l f = some s → s.f = f
  | s :: l, f, s', h => by
    unfold findX at h
    cases hb : Nat.beq s.f f with
    | true => rw [hb] at h; simp at h; subst h; exact Nat.eq_of_beq_eq_true hb
    | false => rw [hb] at h; exact findX_eq h
mutual
def renI (p g : Nat) : I → I
  | .os _ _ => .os p g
  | .agg l => .agg (renIL p g l)
  | d => d
def renIL (p g : Nat) : List I → List I
  | [] => []
  | d :: l => renI p g d :: renIL p g l
end
mutual
theorem renI_toD (h : Nat → Nat) (p g : Nat) : ∀ d : I, (renI p g d).toD h = renO p (h p + g) (d.toD h)
  | .os _ _ => rfl
  | .agg l => by simp only [renI, I.toD, renO, renIL_toD h p g l]
  | .int _ _ => rfl | .bool _ => rfl | .str _ => rfl | .tup _ => rfl | .sl _ _ => rfl | .nsl _ l => (by cases l <;> rfl) | .nil => rfl | .rp _ _ => rfl | .bx _ _ _ => rfl | .mb _ _ _ => rfl | .op _ _ _ _ _ => rfl | .ow _ _ _ _ _ => rfl | .fn _ _ => rfl | .yl _ => rfl | .mf _ _ => rfl | .one => rfl | .lk _ => rfl | .er _ => rfl | .undef => rfl
theorem renIL_toD (h : Nat → Nat) (p g : Nat) : ∀ l : List I, I.toDL h (renIL p g l) = renL p (h p + g) (I.toDL h l)
  | [] => rfl
  | d :: l => by simp only [renIL, I.toDL, renL, renI_toD h p g d, renIL_toD h p g l]
end
section
variable {Z : Seat}
def findO : List (FnSpecO Z) → Nat → Option (FnSpecO Z)
  | [], _ => none
  | s :: l, f => bif Nat.beq s.f f then some s else findO l f
theorem findO_eq : ∀ {l : List (FnSpecO Z)} {f : Nat} {s : FnSpecO Z}, findO l f = some s → s.f = f
  | s :: l, f, s', h => by
    unfold findO at h
    cases hb : Nat.beq s.f f with
    | true => rw [hb] at h; simp at h; subst h; exact Nat.eq_of_beq_eq_true hb
    | false => rw [hb] at h; exact findO_eq h
def findB : List (FnSpecB Z) → Nat → Option (FnSpecB Z)
  | [], _ => none
  | s :: l, f => bif Nat.beq s.f f then some s else findB l f
theorem findB_eq : ∀ {l : List (FnSpecB Z)} {f : Nat} {s : FnSpecB Z}, findB l f = some s → s.f = f
  | s :: l, f, s', h => by
    unfold findB at h
    cases hb : Nat.beq s.f f with
    | true => rw [hb] at h; simp at h; subst h; exact Nat.eq_of_beq_eq_true hb
    | false => rw [hb] at h; exact findB_eq h
def findF : List (FnSpec Z) → Nat → Option (FnSpec Z)
  | [], _ => none
  | s :: l, f => bif Nat.beq s.f f then some s else findF l f
def findR : List (FnSpecR Z) → Nat → Option (FnSpecR Z)
  | [], _ => none
  | s :: l, f => bif Nat.beq s.f f then some s else findR l f
theorem findF_eq : ∀ {l : List (FnSpec Z)} {f : Nat} {s : FnSpec Z}, findF l f = some s → s.f = f
  | s :: l, f, s', h => by
    unfold findF at h
    cases hb : Nat.beq s.f f with
    | true => rw [hb] at h; simp at h; subst h; exact Nat.eq_of_beq_eq_true hb
    | false => rw [hb] at h; exact findF_eq h
theorem findR_eq : ∀ {l : List (FnSpecR Z)} {f : Nat} {s : FnSpecR Z}, findR l f = some s → s.f = f
  | s :: l, f, s', h => by
    unfold findR at h
    cases hb : Nat.beq s.f f with
    | true => rw [hb] at h; simp at h; subst h; exact Nat.eq_of_beq_eq_true hb
    | false => rw [hb] at h; exact findR_eq h
end
def lendO (S : IS) (s g : Nat) : I := match S.own s with
  | .arr _ e l => bif Nat.beq g (S.gen s) then .sl e l else .os s g
  | _ => .os s g
def lendB (S : IS) (s g o : Nat) : I := match S.own s with
  | .box l => bif Nat.beq g (S.gen s) then .rp l o else .bx s g o
  | _ => .bx s g o
mutual
def lendI (S : IS) : I → I
  | .os s g => lendO S s g
  | .bx s g o => lendB S s g o
  | .agg l => .agg (lendIL S l)
  | .fn f c => .fn f (lendIL S c)
  | .int k n => .int k n
  | .bool b => .bool b
  | .str b => .str b
  | .tup l => .tup l
  | .sl t l => .sl t l
  | .nsl t l => .nsl t l
  | .nil => .nil
  | .rp l o => .rp l o
  | .mb s g T => .mb s g T
  | .op s g z i o => .op s g z i o
  | .ow s g z a m => .ow s g z a m
  | .yl l => .yl l
  | .mf f c => .mf f c
  | .one => .one
  | .lk c => .lk c
  | .er b => .er b
  | .undef => .undef
def lendIL (S : IS) : List I → List I
  | [] => []
  | d :: l => lendI S d :: lendIL S l
end
section
variable {S : IS} {h : Nat → Nat} {T : St}
theorem lendO_ok {s g : Nat} (hγ : T.γ s = h s + S.gen s) (hσ : T.σ s = (S.own s).toOwn h) : Fz T (I.toD h (.os s g)) ((lendO S s g).toD h) := by
  unfold lendO
  cases hw : S.own s with
  | none => exact .same _
  | box l => exact .same _
  | arrp => exact .same _
  | mp => exact .same _
  | arr E e l =>
    simp only
    cases hg : Nat.beq g (S.gen s) with
    | false => exact .same _
    | true =>
      have := Nat.eq_of_beq_eq_true hg
      subst this
      exact .os _ _ E _ _ _ hγ (by rw [hσ, hw]; rfl)
theorem lendB_ok {s g o : Nat} (hγ : T.γ s = h s + S.gen s) (hσ : T.σ s = (S.own s).toOwn h) : Fz T (I.toD h (.bx s g o)) ((lendB S s g o).toD h) := by
  unfold lendB
  cases hw : S.own s with
  | none => exact .same _
  | arr E e l => exact .same _
  | arrp => exact .same _
  | mp => exact .same _
  | box l =>
    simp only
    cases hg : Nat.beq g (S.gen s) with
    | false => exact .same _
    | true =>
      have := Nat.eq_of_beq_eq_true hg
      subst this
      exact .bx _ _ _ _ hγ (by rw [hσ, hw]; rfl)
mutual
theorem lendI_ok : ∀ (d : I), (∀ s ∈ plI d, T.γ s = h s + S.gen s) → (∀ s ∈ plI d, T.σ s = (S.own s).toOwn h) → Fz T (d.toD h) ((lendI S d).toD h)
  | .os s g, a, b => lendO_ok (a s (by simp [plI])) (b s (by simp [plI]))
  | .bx s g o, a, b => lendB_ok (a s (by simp [plI])) (b s (by simp [plI]))
  | .agg l, a, b => .agg _ _ (lendIL_ok l (fun s hs => a s (by simpa [plI] using hs)) (fun s hs => b s (by simpa [plI] using hs)))
  | .fn f c, a, b => .fn f _ _ (lendIL_ok c (fun s hs => a s (by simpa [plI] using hs)) (fun s hs => b s (by simpa [plI] using hs)))
  | .int _ _, _, _ => .same _ | .bool _, _, _ => .same _ | .str _, _, _ => .same _ | .tup _, _, _ => .same _ | .sl _ _, _, _ => .same _ | .nsl _ _, _, _ => .same _ | .nil, _, _ => .same _
  | .mb _ _ _, _, _ => .same _ | .rp _ _, _, _ => .same _ | .op _ _ _ _ _, _, _ => .same _ | .ow _ _ _ _ _, _, _ => .same _ | .yl _, _, _ => .same _ | .mf _ _, _, _ => .same _ | .one, _, _ => .same _ | .lk _, _, _ => .same _ | .er _, _, _ => .same _ | .undef, _, _ => .same _
theorem lendIL_ok : ∀ (l : List I), (∀ s ∈ plIL l, T.γ s = h s + S.gen s) → (∀ s ∈ plIL l, T.σ s = (S.own s).toOwn h) → FzL T (I.toDL h l) (I.toDL h (lendIL S l))
  | [], _, _ => .nil
  | d :: l, a, b => .cons _ _ _ _ (lendI_ok d (fun s hs => a s (by simp [plIL, hs])) (fun s hs => b s (by simp [plIL, hs]))) (lendIL_ok l (fun s hs => a s (by simp [plIL, hs])) (fun s hs => b s (by simp [plIL, hs])))
end
end
section
variable {R : Type} {X : Ctx} {Z : ISeat} {nt : Nat} {S : IS} {o : Oper} {r : R} {k : Ef → Option R} {t : Nat}
def dataE : Ef → Ef
  | ⟨some t, .os s g, some (s1, g1), some (s2, .arr E u l)⟩ => bif Nat.beq s1 s && Nat.beq s2 s && Nat.beq g1 g && Nat.blt s XB then ⟨some t, .sl u l, some (s, g), some (s, .none)⟩ else ⟨some t, .os s g, some (s1, g1), some (s2, .arr E u l)⟩
  | e => e
theorem dataE_ok (hX : At X Z nt) {e : Ef} (he : EfOk X Z nt o S e) : EfOk X Z nt o S (dataE e) := by
  unfold dataE
  split
  · rename_i t s g s1 g1 s2 E u l
    cases hb : Nat.beq s1 s && Nat.beq s2 s && Nat.beq g1 g && Nat.blt s XB with
    | false => exact he
    | true =>
      simp only [Bool.and_eq_true] at hb
      obtain ⟨⟨⟨h1, h2⟩, h3⟩, h4⟩ := hb
      replace h1 := Nat.eq_of_beq_eq_true h1
      replace h2 := Nat.eq_of_beq_eq_true h2
      replace h3 := Nat.eq_of_beq_eq_true h3
      subst h1 h2 h3
      have hxa : X.xa s2 = false := by
        cases hh : X.xa s2 with
        | false => rfl
        | true => exact absurd (hX.xa _ hh) (by have := Nat.blt_eq.mp h4; omega)
      simp only [cond_true]
      intro h T ha hg κ sv a w hs K Qw hK
      refine he h T ha hg κ sv a w hs K Qw fun κ' sv' a' w' hs' => ?_
      obtain ⟨κ2, sv2, h2⟩ := wk_freeze (X := X) (S := T.app (Ef.wr ⟨some t, .os s2 g1, some (s2, g1), some (s2, .arr E u l)⟩) (Ef.vl h ⟨some t, .os s2 g1, some (s2, g1), some (s2, .arr E u l)⟩)) t (s := s2) (g := h s2 + g1) (E := E) (z := sz u) (n := l.length) (f := fun i => encD u (l.getD i (dflt u))) (upd_same _ _ _) (upd_same _ _ _) (upd_same _ _ _) hxa κ' sv' a' w' hs'
      refine hK κ2 sv2 a' w' ?_
      have e : (⟨upd (T.app (Ef.wr ⟨some t, .os s2 g1, some (s2, g1), some (s2, .arr E u l)⟩) (Ef.vl h ⟨some t, .os s2 g1, some (s2, g1), some (s2, .arr E u l)⟩)).ρ t (.sl (sz u) l.length fun i => encD u (l.getD i (dflt u))), (T.app (Ef.wr ⟨some t, .os s2 g1, some (s2, g1), some (s2, .arr E u l)⟩) (Ef.vl h ⟨some t, .os s2 g1, some (s2, g1), some (s2, .arr E u l)⟩)).γ, upd (T.app (Ef.wr ⟨some t, .os s2 g1, some (s2, g1), some (s2, .arr E u l)⟩) (Ef.vl h ⟨some t, .os s2 g1, some (s2, g1), some (s2, .arr E u l)⟩)).σ s2 .none⟩ : St) = T.app (Ef.wr ⟨some t, .sl u l, some (s2, g1), some (s2, .none)⟩) (Ef.vl h ⟨some t, .sl u l, some (s2, g1), some (s2, .none)⟩) := by
        show (⟨upd (upd T.ρ t _) t _, upd T.γ s2 _, upd (upd T.σ s2 _) s2 _⟩ : St) = ⟨upd T.ρ t _, upd T.γ s2 _, upd T.σ s2 _⟩
        congr 1
        · funext j; simp only [upd]; cases Nat.beq j t <;> rfl
        · funext j; simp only [upd]; cases Nat.beq j s2 <;> rfl
      rw [← e]
      exact h2
  · exact he
theorem toDL_append (h : Nat → Nat) (l m : List I) : I.toDL h (l ++ m) = I.toDL h l ++ I.toDL h m := by simp [toDL_map]
structure Enters (X : Ctx) (o : Oper) (f : FuncId) (a : Act) (w : World) (vs : List Value) : Prop where
  run : (execOp a.eval o).run X.Z.P w = .ok (.enter f vs.toArray) w
def opCs (sp : FnSpec Z.toSeat) (S : IS) (t : Nat) (A : List I) (k : Ef → Option R) : Option R :=
  bif sp.sc then sp.app (lendIL S A) (fun d => k (vE t d)) else sp.app A (fun d => k (vE t d))
theorem call_ok (hX : At X Z nt) {sp : FnSpec Z.toSeat} {A : List I} (hd : o.dst = some t) (h : opCs sp S t A k = some r)
    (hrun : HasBody X.Z.P sp.f → ∀ h T, Ag X Z nt S h T o → ∀ κ sv a w, Sim X κ sv T a w → ∃ vs, (execOp a.eval o).run X.Z.P w = .ok (.enter sp.f vs.toArray) w ∧ RepL κ T.γ sv (I.toDL h A) vs)
    (hpl : ∀ h T, Ag X Z nt S h T o → FzL T (I.toDL h A) (I.toDL h (lendIL S A))) : ∃ e, k e = some r ∧ EfOk X Z nt o S e := by
  unfold opCs at h
  cases hsc : sp.sc with
  | true =>
    rw [hsc] at h
    obtain ⟨d, h1, h2⟩ := sp.ok _ _ _ h
    refine ⟨_, h1, fun h T ha _ => fun κ sv a w hs K Qw hK => ?_⟩
    obtain ⟨hc, hv⟩ := h2 h
    obtain ⟨v0, hv⟩ := hv hsc
    replace hc : Contract X.Z sp.f (I.toDL h (lendIL S A)) (d.toD h) := by rw [hX.Z]; exact hc
    obtain ⟨vs, e1, e2⟩ := hrun hc.body h T ha κ sv a w hs
    refine op_call e1 (call_scalL hs hc e2 (hpl h T ha) hv) ?_
    rintro e w' ⟨rfl, hb⟩
    refine ⟨v0, rfl, ?_⟩
    rw [hd]
    exact hK κ sv _ w' ((hs.later hb).put (some t) (scal_rep hv))
  | false =>
    rw [hsc] at h
    obtain ⟨d, h1, h2⟩ := sp.ok _ _ _ h
    refine ⟨_, h1, fun h T ha _ => fun κ sv a w hs K Qw hK => ?_⟩
    obtain ⟨hc, _⟩ := h2 h
    replace hc : Contract X.Z sp.f (I.toDL h A) (d.toD h) := by rw [hX.Z]; exact hc
    obtain ⟨vs, e1, e2⟩ := hrun hc.body h T ha κ sv a w hs
    refine op_call e1 (hc.calls w κ _ (Sim.fits hs.wld) (Sim.globOk hs.wld) (e2.pure (fun _ _ _ h => h) hc.pureA)) ?_
    rintro e w' ⟨v, rfl, hv, hb⟩
    refine ⟨v, rfl, ?_⟩
    have hs' : Sim X (growK κ w w') sv T a w' := ⟨hs.size, hs.defers.later hb, fun i hi => (hs.slot i hi).mono (le_growK hs.wld.imm w'), hs.wld.grow hb⟩
    rw [hd]
    exact hK _ sv _ w' (hs'.put (some t) (hv.pure (fun _ _ _ h => h) hc.pureR))
theorem callR_ok (hX : At X Z nt) {sp : FnSpecR Z.toSeat} {x0 : Operand} {xs : List Operand} {ts : Array TypeId} {s : Nat} {l : List I} (ho : o.op = .call { callee := .value (.func sp.f), args := (x0 :: xs).toArray, argTypes := ts }) (hd : o.dst = some t)
    (hx : S.ev Z nt x0 = .bx s (S.gen s) 0) (hσ : S.own s = .box l) (h : sp.app l (xs.map (S.ev Z nt)) (fun l' d => k ⟨some t, d, none, some (s, .box l')⟩) = some r) : ∃ e, k e = some r ∧ EfOk X Z nt o S e := by
  obtain ⟨l', d, h1, h2⟩ := sp.ok _ _ _ _ h
  have hl2 : lvl o = 2 := by simp [lvl, ho]
  have hl1 : lvl o ≠ 0 := by rw [hl2]; simp
  have m0 : x0 ∈ o.op.operands.toList := by rw [ho]; simp [Op.operands, Call.operands]
  have ms : ∀ x ∈ xs, x ∈ o.op.operands.toList := fun x hx => by rw [ho]; simp [Op.operands, Call.operands, hx]
  refine ⟨_, h1, fun h T ha _ => fun κ sv a w hs K Qw hK => ?_⟩
  have hc : ContractR X.Z sp.f (I.toDL h l) (I.toDL h l') (I.toDL h (xs.map (S.ev Z nt))) (d.toD h) := by rw [hX.Z]; exact h2 h
  have hxT := ha.ev m0 hx
  have hγT := ha.γ hl1 m0 (pl_bx hx)
  have hσT : T.σ s = .box (I.toDL h l) := (ha.σ hl2 m0 (pl_bx hx)).trans (by rw [hσ]; rfl)
  obtain ⟨b, Tb, cs, he, hsv, hh, hrep, hac⟩ := box_cells hs hxT hγT hσT
  have hblk : blk (T.σ s) (sv s) = some b := by rw [hσT, hsv]; rfl
  have hr := evs_rep hs xs
  rw [evs_map ha ms] at hr
  have hrun := run_call (P := X.Z.P) (a := a) (w := w) hc.body ho
  simp only [List.map_cons, he] at hrun
  have hcall := hc.calls w κ (xs.map a.eval) b Tb cs (Sim.fits hs.wld) (fun o => hs.wld.sep s b o hblk) hh (hrep.pure (fun _ _ _ h => h) hc.purel) (Sim.globOk hs.wld) (hr.pure (fun _ _ _ h => h) hc.pureA)
  refine op_call hrun hcall ?_
  rintro e w' ⟨v, cs', T', rfl, hh', hl', hv, hfr⟩
  have hgr : w.grownBy w' (some b) := ⟨hfr.os, hfr.tape, hfr.output, hfr.size, fun k hk hne => hfr.block k hk hne⟩
  have hle : Le κ (growK κ w w') T.γ T.γ sv sv := le_growK hs.wld.imm w'
  have hbt : ∀ t, t ≠ s → ∀ b', blk (T.σ t) (sv t) = some b' → w'.heap[b']? = w.heap[b']? := fun t ht b' hb' =>
    hgr.block b' (owns_lt (hs.wld.own t) hb') (fun e => ht (hs.wld.inj t s b' hb' (by rw [hblk]; exact e.symm)))
  have hbk : ∀ t b', blk (upd T.σ s (.box (I.toDL h l')) t) (sv t) = some b' → blk (T.σ t) (sv t) = some b' := by
    intro t b' hb'
    by_cases e : t = s
    · subst e; rw [upd_same, hsv] at hb'; rw [hblk]; exact hb'
    · rw [upd_ne _ _ _ _ e] at hb'; exact hb'
  have hW : SimW X (growK κ w w') sv ⟨T.ρ, T.γ, upd T.σ s (.box (I.toDL h l'))⟩ w' := by
    have h0 := hs.wld
    obtain ⟨h1, h2, h3, h4, h5, _, h7, h8, h9, h10, h11, h12, h13, h14, h15⟩ := hs.wld
    refine ⟨fun b' o v hk => ?_, fun t => ?_, fun t u b' ht hu => h3 t u b' (hbk t b' ht) (hbk u b' hu), fun t b' o ht => ?_, fun t b' ht => h5 t b' (hbk t b' ht), frame_step h0 hgr (fun b' e => ⟨s, by rw [hblk]; exact e⟩) (fun t b' ht => .inr ⟨t, hbk t b' ht⟩), fun g l hgl => ?_, fun b' o v hlt hk => ?_, h9, Nat.le_trans h10 hgr.size, h11.trans hle, fun b' o v hk => ?_, fun t b' ht => h13 t b' (hbk t b' ht), fun b h => Nat.lt_of_lt_of_le (h14 b h) hgr.size, h15⟩
    · simp only [growK] at hk
      split at hk
      · refine hgr.cell (h1 b' o v hk) (fun e => ?_)
        simp only [Option.some.injEq] at e
        rw [e, h4 s b o hblk] at hk; cases hk
      · exact hk
    · by_cases e : t = s
      · subst e; simp only [upd_same]
        exact ⟨b, T', cs', hsv, hh', hl'.pure (fun _ _ _ h => h) hc.purel', .pure hc.cell' hc.purel'⟩
      · simp only [upd_ne _ _ _ _ e]
        exact owns_mono hle rfl (hbt t e) (h2 t)
    · have hb' := hbk t b' ht
      have := owns_lt (h2 t) hb'
      simp only [growK]; rw [if_pos this]; exact h4 t b' o hb'
    · obtain ⟨hc2, u, hu, hk⟩ := h7 g l hgl
      exact ⟨hc2, u, hu.mono hle, fun j v hj => hle.cells _ _ _ (hk j v hj)⟩
    · have := h10
      simp only [growK] at hk
      rw [if_pos (by omega)] at hk
      exact h8 b' o v hlt hk
    · simp only [growK] at hk
      split at hk
      · exact h12 b' o v hk
      · intro hT; have := h14 b' hT; omega
  have hs' : Sim X (growK κ w w') sv ⟨T.ρ, T.γ, upd T.σ s (.box (I.toDL h l'))⟩ a w' := ⟨hs.size, dfr_own hs s (by rw [hblk]; exact hgr), fun i hi => (hs.slot i hi).mono hle, hW⟩
  refine ⟨v, rfl, ?_⟩
  rw [hd]
  exact hK _ sv _ w' (hs'.put (some t) (hv.pure (fun _ _ _ h => h) hc.pureR))
structure ContractP (Z : Seat) (f : FuncId) (A : List D) (l : List (Int × Int)) : Prop where
  pureA : PureL A
  body : HasBody Z.P f
  calls : ∀ (w : World) (κ : Nat → Nat → Option Value) (args : List Value), Fits κ w → GlobOk Z κ w → RepL κ γ0 sv0 A args →
    Calls Z.P f args.toArray w fun e w' => ∃ b es c, e = .returned (.map (some b)) ∧ w.heap.size ≤ b ∧ w'.heap[b]? = some (.map es c) ∧ mapIs es l ∧ Below w.heap.size w w'
structure FnSpecP (Z : Seat) where
  f : FuncId
  app : {R : Type} → List I → (List (Int × Int) → Option R) → Option R
  ok : ∀ {R : Type} (A : List I) (k : List (Int × Int) → Option R) (r : R), app A k = some r → ∃ l, k l = some r ∧ ∀ h, ContractP Z f (I.toDL h A) l
def findP {Z : Seat} : List (FnSpecP Z) → Nat → Option (FnSpecP Z)
  | [], _ => none
  | s :: l, f => bif Nat.beq s.f f then some s else findP l f
theorem findP_eq {Z : Seat} : ∀ {l : List (FnSpecP Z)} {f : Nat} {s : FnSpecP Z}, findP l f = some s → s.f = f
  | s :: l, f, s', h => by
    unfold findP at h
    cases hb : Nat.beq s.f f with
    | true => rw [hb] at h; simp at h; subst h; exact Nat.eq_of_beq_eq_true hb
    | false => rw [hb] at h; exact findP_eq h
structure CEnv (Z : ISeat) where
  nt : Nat
  FT : List (FnSpec Z.toSeat)
  FR : List (FnSpecR Z.toSeat)
  FB : List (FnSpecB Z.toSeat)
  FO : List (FnSpecO Z.toSeat)
  FI : List (ItSpec Z.toSeat)
  FX : List (FnSpecRO Z.toSeat)
  FM : List (FnSpecM Z.toSeat)
  FP : List (FnSpecP Z.toSeat)
  FQ : List (FnSpecOM Z.toSeat)
  FW : List (FnSpecROM Z.toSeat)
  fz : List Nat
  pin : List Nat
  rf : Bool
def opCr (sp : FnSpecR Z.toSeat) (nt : Nat) (S : IS) (t : Nat) (args : List Operand) (k : Ef → Option R) : Option R := match args with
  | x0 :: xs => (match S.ev Z nt x0 with
    | .bx s g 0 => live S s g (match S.own s with
      | .box l => sp.app l (xs.map (S.ev Z nt)) (fun l' d => k ⟨some t, d, none, some (s, .box l')⟩)
      | _ => none)
    | _ => none)
  | [] => none
def scN : T → Bool
  | .int _ => true
  | .bool => true
  | .str => true
  | _ => false
theorem scN_ok {t : T} (h : scN t = true) (x : den t) : ∀ d ∈ encD t x, ∃ v0, scal1 d = some v0 := by
  cases t <;> simp only [scN] at h <;> try (cases h; done)
  all_goals
    intro d hd
    rcases List.mem_cons.1 hd with rfl | hd
    · exact ⟨_, rfl⟩
    · cases hd
def isO1 : I → Bool
  | .os 0 1 => true
  | _ => false
theorem isO1_eq {d : I} (h : isO1 d = true) : d = .os 0 1 := by
  unfold isO1 at h
  split at h
  · rfl
  · cases h
def opCl (E : CEnv Z) (S : IS) (t : Nat) (callee : Operand) (args : List Operand) (k : Ef → Option R) : Option R := match callee with
  | .func f => (match findR E.FR f with
    | some sp => opCr sp E.nt S t args k
    | none => (match findF E.FT f with
      | some sp => opCs sp S t (args.map (S.ev Z E.nt)) k
      | none => (match findB E.FB f with
        | some sp => sp.app (args.map (S.ev Z E.nt)) (fun l => k ⟨some t, .bx t (S.gen t + 1) 0, some (t, S.gen t + 1), some (t, .box l)⟩)
        | none => (match findO E.FO f with
          | some sp => bif memN t E.fz then sp.app (lendIL S (args.map (S.ev Z E.nt))) (fun e tt l d => chk (scN tt && isO1 d) (k ⟨some t, renI t (S.gen t + 1) d, some (t, S.gen t + 1), some (t, .arr e tt l)⟩)) else sp.app (args.map (S.ev Z E.nt)) (fun e tt l d => k ⟨some t, renI t (S.gen t + 1) d, some (t, S.gen t + 1), some (t, .arr e tt l)⟩)
          | none => (match findP E.FP f with
            | some sp => sp.app (args.map (S.ev Z E.nt)) (fun l => k ⟨some t, .os t (S.gen t + 1), some (t, S.gen t + 1), some (t, .mp l)⟩)
            | none => none)))))
  | x => (match S.ev Z E.nt x with
    | .fn f c => (match findF E.FT f with
      | some sp => opCs sp S t (args.map (S.ev Z E.nt) ++ c) k
      | none => none)
    | .mf f c => (match findF E.FT f with
      | some sp => opCs sp S t (c ++ args.map (S.ev Z E.nt)) k
      | none => none)
    | _ => none)
theorem plIL_map {S : IS} {s : Nat} : ∀ {l : List Operand}, s ∈ plIL (l.map (S.ev Z nt)) → ∃ x ∈ l, s ∈ plI (S.ev Z nt x)
  | [], h => by cases h
  | y :: l, h => by
    simp only [List.map_cons, plIL, List.mem_append] at h
    rcases h with h | h
    · exact ⟨y, List.mem_cons_self .., h⟩
    · obtain ⟨x, h1, h2⟩ := plIL_map h
      exact ⟨x, List.mem_cons_of_mem _ h1, h2⟩
theorem plIL_append {l m : List I} {s : Nat} : s ∈ plIL (l ++ m) → s ∈ plIL l ∨ s ∈ plIL m := by
  induction l with
  | nil => exact fun h => .inr h
  | cons d l ih =>
    intro h
    simp only [List.cons_append, plIL, List.mem_append] at h ⊢
    rcases h with h | h
    · exact .inl (.inl h)
    · rcases ih h with h | h
      · exact .inl (.inr h)
      · exact .inr h
theorem opCl_ok {E : CEnv Z} (hX : At X Z E.nt) {x : Operand} {xs : Array Operand} {ts : Array TypeId} (ho : o.op = .call { callee := .value x, args := xs, argTypes := ts }) (hd : o.dst = some t) (h : opCl E S t x xs.toList k = some r) : ∃ e, k e = some r ∧ EfOk X Z E.nt o S e := by
  have hl2 : lvl o = 2 := by simp [lvl, ho]
  have hl1 : lvl o ≠ 0 := by rw [hl2]; simp
  have mx : x ∈ o.op.operands.toList := by rw [ho]; simp [Op.operands, Call.operands]
  have ms : ∀ y ∈ xs.toList, y ∈ o.op.operands.toList := fun y hy => by rw [ho]; simp [Op.operands, Call.operands]; exact .inr (by simpa using hy)
  have fza : ∀ h T, Ag X Z E.nt S h T o → ∀ A : List I, (∀ s ∈ plIL A, ∃ y, y ∈ o.op.operands.toList ∧ s ∈ plI (S.ev Z E.nt y)) → FzL T (I.toDL h A) (I.toDL h (lendIL S A)) := fun h T ha A hA =>
    lendIL_ok A (fun s hs => let ⟨y, h1, h2⟩ := hA s hs; ha.γ hl1 h1 h2) (fun s hs => let ⟨y, h1, h2⟩ := hA s hs; ha.σ hl2 h1 h2)
  have plm : ∀ s ∈ plIL (xs.toList.map (S.ev Z E.nt)), ∃ y, y ∈ o.op.operands.toList ∧ s ∈ plI (S.ev Z E.nt y) := fun s hs => let ⟨y, h1, h2⟩ := plIL_map hs; ⟨y, ms y h1, h2⟩
  have dyn : (match S.ev Z E.nt x with
    | .fn f c => (match findF E.FT f with
      | some sp => opCs sp S t (xs.toList.map (S.ev Z E.nt) ++ c) k
      | none => none)
    | .mf f c => (match findF E.FT f with
      | some sp => opCs sp S t (c ++ xs.toList.map (S.ev Z E.nt)) k
      | none => none)
    | _ => none) = some r → ∃ e, k e = some r ∧ EfOk X Z E.nt o S e := fun h => by
    split at h
    · rename_i f c hx
      have plc : ∀ s ∈ plIL c, ∃ y, y ∈ o.op.operands.toList ∧ s ∈ plI (S.ev Z E.nt y) := fun s hs => ⟨x, mx, by rw [hx]; exact hs⟩
      split at h
      · rename_i sp hf
        have hf := findF_eq hf
        refine call_ok hX hd h (fun hb h T ha κ sv a w hs => ?_) (fun h T ha => fza h T ha _ fun s hs => (plIL_append hs).elim (plm s) (plc s))
        obtain ⟨lb, h1, h2⟩ := ev_fn hs (ha.ev mx hx)
        refine ⟨_, run_callv hb ho (by rw [hf]; exact h1), ?_⟩
        rw [toDL_append, ← evs_map ha ms]
        exact (evs_rep hs _).append h2
      · cases h
    · rename_i f c hx
      have plc : ∀ s ∈ plIL c, ∃ y, y ∈ o.op.operands.toList ∧ s ∈ plI (S.ev Z E.nt y) := fun s hs => ⟨x, mx, by rw [hx]; exact hs⟩
      split at h
      · rename_i sp hf
        have hf := findF_eq hf
        refine call_ok hX hd h (fun hb h T ha κ sv a w hs => ?_) (fun h T ha => fza h T ha _ fun s hs => (plIL_append hs).elim (plc s) (plm s))
        obtain ⟨lb, h1, h2⟩ := ev_mf hs (ha.ev mx hx)
        refine ⟨_, run_callm hb ho (by rw [hf]; exact h1), ?_⟩
        rw [toDL_append, ← evs_map ha ms]
        exact h2.append (evs_rep hs _)
      · cases h
    · cases h
  unfold opCl at h
  split at h
  · rename_i f
    split at h
    · rename_i sp hf
      have hf := findR_eq hf
      subst hf
      unfold opCr at h
      split at h
      · rename_i x0 ys hxs
        split at h
        · rename_i s g hx
          replace h := live_ok h
          obtain ⟨rfl, h⟩ := h
          split at h
          · rename_i l hσ
            refine callR_ok hX (xs := ys) (ts := ts) ?_ hd hx hσ h
            rw [ho, ← hxs]
          · cases h
        · cases h
      · cases h
    · split at h
      · rename_i sp hf
        have hf := findF_eq hf
        subst hf
        refine call_ok hX hd h (fun hb h T ha κ sv a w hs => ⟨_, run_call hb ho, ?_⟩) (fun h T ha => fza h T ha _ plm)
        rw [← evs_map ha ms]
        exact evs_rep hs _
      · split at h
        · rename_i sp hf
          have hf := findB_eq hf
          subst hf
          obtain ⟨l, h1, h2⟩ := sp.ok _ _ _ h
          refine ⟨_, h1, fun h T ha hg => fun κ sv a w hs K Qw hK => ?_⟩
          have hc : ContractB X.Z sp.f (I.toDL h (xs.toList.map (S.ev Z E.nt))) (I.toDL h l) := by rw [hX.Z]; exact h2 h
          have hr := evs_rep hs xs.toList
          rw [evs_map ha ms] at hr
          refine op_call (run_call hc.body ho) (hc.calls w κ _ (Sim.fits hs.wld) (Sim.globOk hs.wld) (hr.pure (fun _ _ _ h => h) hc.pureA)) ?_
          rintro e w' ⟨b, Tb, cs, κ', rfl, hnew, hh, hcs, hcl, k1, k2, k3, k4, hb⟩
          refine ⟨_, rfl, ?_⟩
          rw [hd]
          have hle : Le κ κ' T.γ (upd T.γ t (T.γ t + 1)) sv (upd sv t (.pointer (some ⟨b, 0, none⟩))) := by
            obtain ⟨c1, c2, c3⟩ := le_renew κ T.γ sv t (.pointer (some ⟨b, 0, none⟩))
            exact ⟨k1, c2, c3⟩
          have hW := hs.wld.adopt hb k1 k2 k3 t (.box (I.toDL h l)) (.pointer (some ⟨b, 0, none⟩)) (fun b' hb' => by
            simp only [blk, Option.some.injEq] at hb'
            subst hb'
            exact ⟨hnew, (Array.getElem?_eq_some_iff.1 hh).1, k4⟩) ⟨b, Tb, cs, upd_same _ _ _, hh, hcs.pure (fun _ _ _ h => h) hc.purel, .pure hcl hc.purel⟩ T.ρ
          have hs' : Sim X κ' (upd sv t (.pointer (some ⟨b, 0, none⟩))) ⟨T.ρ, upd T.γ t (T.γ t + 1), upd T.σ t (.box (I.toDL h l))⟩ a w' := ⟨hs.size, hs.defers.later hb, fun i hi => (hs.slot i hi).mono hle, hW⟩
          have hγ := hg (t, S.gen t + 1) rfl
          simp only at hγ
          refine hK κ' (upd sv t (.pointer (some ⟨b, 0, none⟩))) _ w' ?_
          have e1 : T.app (Ef.wr ⟨some t, .bx t (S.gen t + 1) 0, some (t, S.gen t + 1), some (t, .box l)⟩) (Ef.vl h ⟨some t, .bx t (S.gen t + 1) 0, some (t, S.gen t + 1), some (t, .box l)⟩) = St.put ⟨T.ρ, upd T.γ t (T.γ t + 1), upd T.σ t (.box (I.toDL h l))⟩ (some t) (.bx t (h t + (S.gen t + 1)) 0) := by
            unfold St.app Ef.wr Ef.vl
            rw [hγ]; rfl
          rw [e1]
          exact hs'.put (some t) (.bx _ _ _ _ (by simp only [upd_same]; omega) (fun _ => ⟨b, upd_same _ _ _, rfl⟩) rfl)
        · split at h
          · rename_i sp hf
            have hf := findO_eq hf
            subst hf
            have fin : ∀ (A : List I) (Et : TypeId) (tt : T) (l : List (den tt)) (d : I), k ⟨some t, renI t (S.gen t + 1) d, some (t, S.gen t + 1), some (t, .arr Et tt l)⟩ = some r → (∀ h, ContractO Z.toSeat sp.f (I.toDL h A) (d.toD h) Et (sz tt) l.length (fun i => encD tt (l.getD i (dflt tt)))) →
                (∀ h T, Ag X Z E.nt S h T o → ∀ κ sv a w, Sim X κ sv T a w → ContractO X.Z sp.f (I.toDL h A) (d.toD h) Et (sz tt) l.length (fun i => encD tt (l.getD i (dflt tt))) → Calls X.Z.P sp.f (xs.toList.map a.eval).toArray w (PostO κ w (d.toD h) Et (sz tt) l.length (fun i => encD tt (l.getD i (dflt tt))))) → ∃ e, k e = some r ∧ EfOk X Z E.nt o S e := fun A Et tt l d h1 h2 hcalls => by
              refine ⟨_, h1, fun h T ha hg => fun κ sv a w hs K Qw hK => ?_⟩
              have hc : ContractO X.Z sp.f (I.toDL h A) (d.toD h) Et (sz tt) l.length (fun i => encD tt (l.getD i (dflt tt))) := by rw [hX.Z]; exact h2 h
              refine op_call (run_call hc.body ho) (hcalls h T ha κ sv a w hs hc) ?_
              rintro e w' ⟨v, sl, κ', rfl, hv, k1, k2, k3, hsl, hown, hsep, hb⟩
              refine ⟨v, rfl, ?_⟩
              rw [hd]
              have hle : Le κ κ' T.γ (upd T.γ t (T.γ t + 1)) sv (upd sv t sl) := by
                obtain ⟨a, b, c⟩ := le_renew κ T.γ sv t sl
                exact ⟨k1, b, c⟩
              have hW := hs.wld.adopt hb k1 k2 k3 t (.arr Et (sz tt) l.length (fun i => encD tt (l.getD i (dflt tt)))) sl (fun b hbk => by
                obtain ⟨xs, e1, _⟩ := hown
                rcases e1.2 with ⟨hv, _⟩ | ⟨b', off, cap, cur, hv, hbase, hh, _⟩
                · simp only at hv; rw [hv] at hbk; cases hbk
                · simp only at hv
                  rw [hv] at hbk; simp only [blk, Option.some.injEq] at hbk; subst hbk
                  exact ⟨hbase, (Array.getElem?_eq_some_iff.1 hh).1, hsep b' (by rw [hv]; rfl)⟩) (by
                obtain ⟨xs, e1, e2, e3, e4⟩ := hown
                exact ⟨xs, by rw [upd_same]; exact owns_base e1 (hs.wld.baseS _), e2, e3, fun i hi => (e4 i hi).pure (fun _ _ _ h => h) (hc.pureE i hi)⟩) T.ρ
              have hs' : Sim X κ' (upd sv t sl) ⟨T.ρ, upd T.γ t (T.γ t + 1), upd T.σ t (.arr Et (sz tt) l.length (fun i => encD tt (l.getD i (dflt tt))))⟩ a w' := ⟨hs.size, hs.defers.later hb, fun i hi => (hs.slot i hi).mono hle, hW⟩
              have hγ := hg (t, S.gen t + 1) rfl
              simp only at hγ
              refine hK κ' (upd sv t sl) _ w' ?_
              have e1 : T.app (Ef.wr ⟨some t, renI t (S.gen t + 1) d, some (t, S.gen t + 1), some (t, .arr Et tt l)⟩) (Ef.vl h ⟨some t, renI t (S.gen t + 1) d, some (t, S.gen t + 1), some (t, .arr Et tt l)⟩) = St.put ⟨T.ρ, upd T.γ t (T.γ t + 1), upd T.σ t (.arr Et (sz tt) l.length (fun i => encD tt (l.getD i (dflt tt))))⟩ (some t) (renO t (T.γ t + 1) (d.toD h)) := by
                unfold St.app Ef.wr Ef.vl
                have hx : h t + (S.gen t + 1) = T.γ t + 1 := by omega
                simp only [renI_toD, hx]; rfl
              rw [e1]
              exact hs'.put (some t) (rep_ren (p := 0) (g := 1) (fun _ _ _ h => h) rfl (upd_same _ _ _) (upd_same _ _ _) hc.poR hv)
            cases hfz : memN t E.fz with
            | true =>
              rw [hfz] at h
              simp only [cond_true] at h
              obtain ⟨Et, tt, l, d, h1, h2⟩ := sp.ok _ _ _ h
              obtain ⟨hsc, h1⟩ := chk_some h1
              simp only [Bool.and_eq_true] at hsc
              have hd1 := isO1_eq hsc.2
              subst hd1
              refine fin _ Et tt l _ h1 h2 fun h T ha κ sv a w hs hc => ?_
              have hr := evs_rep hs xs.toList
              rw [evs_map ha ms] at hr
              exact callO_lend hs hc hr (fza h T ha _ fun s hs => plm s hs) (fun i _ => scN_ok hsc.1 _)
            | false =>
              rw [hfz] at h
              simp only [cond_false] at h
              obtain ⟨Et, tt, l, d, h1, h2⟩ := sp.ok _ _ _ h
              refine fin _ Et tt l d h1 h2 fun h T ha κ sv a w hs hc => ?_
              have hr := evs_rep hs xs.toList
              rw [evs_map ha ms] at hr
              exact hc.calls w κ _ (Sim.fits hs.wld) (Sim.globOk hs.wld) (hr.pure (fun _ _ _ h => h) hc.pureA)
          · split at h
            · rename_i sp hf
              have hf := findP_eq hf
              subst hf
              obtain ⟨l, h1, h2⟩ := sp.ok _ _ _ h
              refine ⟨_, h1, fun h T ha hg => fun κ sv a w hs K Qw hK => ?_⟩
              have hc : ContractP X.Z sp.f (I.toDL h (xs.toList.map (S.ev Z E.nt))) l := by rw [hX.Z]; exact h2 h
              have hr := evs_rep hs xs.toList
              rw [evs_map ha ms] at hr
              refine op_call (run_call hc.body ho) (hc.calls w κ _ (Sim.fits hs.wld) (Sim.globOk hs.wld) (hr.pure (fun _ _ _ h => h) hc.pureA)) ?_
              rintro e w' ⟨b, es, c, rfl, hnew, hh, hm, hb⟩
              refine ⟨_, rfl, ?_⟩
              rw [hd]
              have hle : Le κ κ T.γ (upd T.γ t (T.γ t + 1)) sv (upd sv t (.map (some b))) := le_renew κ T.γ sv t (.map (some b))
              have hκb : ∀ o, κ b o = none := fun o => by
                cases hk : κ b o with
                | none => rfl
                | some v => have := World.block_lt_of_cell? w _ (hs.wld.imm b o v hk); simp at this; omega
              have hW := hs.wld.adopt (κ' := κ) hb (fun _ _ _ h => h) (fun _ _ _ _ h => h) (fun b o u hk => (hb.cell (World.block_lt_of_cell? w _ (hs.wld.imm b o u hk))).trans (hs.wld.imm b o u hk)) t (.mp l) (.map (some b)) (fun b' hb' => by
                simp only [blk, Option.some.injEq] at hb'
                subst hb'
                exact ⟨hnew, (Array.getElem?_eq_some_iff.1 hh).1, hκb⟩) ⟨b, es, c, upd_same _ _ _, hh, hm⟩ T.ρ
              have hs' : Sim X κ (upd sv t (.map (some b))) ⟨T.ρ, upd T.γ t (T.γ t + 1), upd T.σ t (.mp l)⟩ a w' := ⟨hs.size, hs.defers.later hb, fun i hi => (hs.slot i hi).mono hle, hW⟩
              have hγ := hg (t, S.gen t + 1) rfl
              simp only at hγ
              refine hK κ (upd sv t (.map (some b))) _ w' ?_
              have e1 : T.app (Ef.wr ⟨some t, .os t (S.gen t + 1), some (t, S.gen t + 1), some (t, .mp l)⟩) (Ef.vl h ⟨some t, .os t (S.gen t + 1), some (t, S.gen t + 1), some (t, .mp l)⟩) = St.put ⟨T.ρ, upd T.γ t (T.γ t + 1), upd T.σ t (.mp l)⟩ (some t) (.os t (T.γ t + 1)) := by
                unfold St.app Ef.wr Ef.vl
                have hx : h t + (S.gen t + 1) = T.γ t + 1 := by omega
                simp only [I.toD, hx]; rfl
              rw [e1]
              exact hs'.put (some t) (.os _ _ _ (by simp only [upd_same]; omega) (fun _ => (upd_same _ _ _).symm) rfl)
            · cases h
  · exact dyn h
def opLk (Z : ISeat) (S : IS) (t ty : Nat) (k : Ef → Option R) : I → I → Option R
  | .os s g, .int .i64 n => chk (Z.isM ty) (live S s g (match S.own s with | .mp l => k (vE t (.tup [.int .i64 (mGet l n), .bool (mHas l n)])) | _ => none))
  | _, _ => none
def opMu (Z : ISeat) (S : IS) (ty : Nat) (k : Ef → Option R) : I → I → I → Option R
  | .os s g, .int .i64 n, .int .i64 v => chk (Z.isM ty) (live S s g (match S.own s with | .mp l => k (stE s (.mp (mSet l n v))) | _ => none))
  | _, _, _ => none
def opKm (S : IS) (t : Nat) (k : Ef → Option R) : Option R := k ⟨some t, .os t (S.gen t + 1), some (t, S.gen t + 1), some (t, .mp [])⟩
theorem opLk_ok (hX : At X Z nt) {ty : Nat} {x y : Operand} (ho : o.op = .lookup ty x y true) (hd : o.dst = some t) (h : opLk Z S t ty k (S.ev Z nt x) (S.ev Z nt y) = some r) : ∃ e, k e = some r ∧ EfOk X Z nt o S e := by
  have mx : x ∈ o.op.operands.toList := by rw [ho]; simp [Op.operands]
  have my : y ∈ o.op.operands.toList := by rw [ho]; simp [Op.operands]
  have hl2 : lvl o = 2 := by simp [lvl, ho]
  have hl1 : lvl o ≠ 0 := by rw [hl2]; simp
  unfold opLk at h
  split at h
  · rename_i s g n hx hy
    obtain ⟨hm, hq⟩ := chk_some h
    obtain ⟨rfl, hq2⟩ := live_ok hq
    split at hq2
    · rename_i l hσ
      exact ⟨_, hq2, efq hd fun h T ha => q_lookup (by rw [hX.Z]; exact Z.isM_ok _ hm) ho (ha.ev mx hx) (ha.γ hl1 mx (pl_os hx)) ((ha.σ hl2 mx (pl_os hx)).trans (by rw [hσ]; rfl)) (ha.ev my hy)⟩
    · cases hq2
  · cases h
theorem opMu_ok (hX : At X Z nt) {ty : Nat} {x y z : Operand} (ho : o.op = .mapUpdate ty x y z ∨ o.op = .insert ty x y z) (hd : o.dst = none) (h : opMu Z S ty k (S.ev Z nt x) (S.ev Z nt y) (S.ev Z nt z) = some r) : ∃ e, k e = some r ∧ EfOk X Z nt o S e := by
  have mx : x ∈ o.op.operands.toList := by rcases ho with ho | ho <;> (rw [ho]; simp [Op.operands])
  have my : y ∈ o.op.operands.toList := by rcases ho with ho | ho <;> (rw [ho]; simp [Op.operands])
  have mz : z ∈ o.op.operands.toList := by rcases ho with ho | ho <;> (rw [ho]; simp [Op.operands])
  have hl2 : lvl o = 2 := by rcases ho with ho | ho <;> simp [lvl, ho]
  have hl1 : lvl o ≠ 0 := by rw [hl2]; simp
  unfold opMu at h
  split at h
  · rename_i s g n v hx hy hz
    obtain ⟨hm, hq⟩ := chk_some h
    obtain ⟨rfl, hq2⟩ := live_ok hq
    split at hq2
    · rename_i l hσ
      refine ⟨_, hq2, fun h T ha hg => opOk_n (n_mapUpdate (s := s) (g := h s + S.gen s) (l := l) (n := n) (v := v) (by rw [hX.Z]; exact Z.isM_ok _ hm) ho hd (ha.ev mx hx) (ha.γ hl1 mx (pl_os hx)) ((ha.σ hl2 mx (pl_os hx)).trans (by rw [hσ]; rfl)) (ha.ev my hy) (ha.ev mz hz))⟩
    · cases hq2
  · cases h
theorem opKm_ok {ty : Nat} (ho : o.op = .makeMap ty none) (hd : o.dst = some t) (h : opKm S t k = some r) : ∃ e, k e = some r ∧ EfOk X Z nt o S e := by
  refine ⟨_, h, fun h T ha hg => ?_⟩
  have hγ := hg (t, S.gen t + 1) rfl
  simp only at hγ
  have := opOk_n (n_makeMap (X := X) (S := T) ho hd)
  have e1 : T.app (Ef.wr ⟨some t, .os t (S.gen t + 1), some (t, S.gen t + 1), some (t, .mp [])⟩) (Ef.vl h ⟨some t, .os t (S.gen t + 1), some (t, S.gen t + 1), some (t, .mp [])⟩) = ⟨upd T.ρ t (.os t (T.γ t + 1)), upd T.γ t (T.γ t + 1), upd T.σ t (.mp [])⟩ := by
    unfold St.app Ef.wr Ef.vl
    have hx : h t + (S.gen t + 1) = T.γ t + 1 := by omega
    simp only [I.toD, hx]; rfl
  rw [e1]; exact this
def opN (o : Op) : (Z : ISeat) → (R : Type) → CEnv Z → IS → (Ef → Option R) → Option R := @Op.rec (fun _ => (Z : ISeat) → (R : Type) → CEnv Z → IS → (Ef → Option R) → Option R)
    (fun _ _ _ _ _ _ => none)
    (fun _ _ _ _ _ _ => none)
    (fun _ _ _ _ _ _ _ _ => none)
    (fun _ _ _ _ _ _ => none)
    (fun _ _ _ _ _ _ _ => none)
    (fun _ _ _ _ _ _ _ => none)
    (fun _ _ _ _ _ _ _ _ => none)
    (fun ty x y z Z R E S k => opMu Z S ty k (S.ev Z E.nt x) (S.ev Z E.nt y) (S.ev Z E.nt z))
    (fun _ _ _ _ _ _ _ => none)
    (fun ty x y Z R E S k => opSt Z S ty k (S.ev Z E.nt x) (S.ev Z E.nt y))
    (fun _ _ _ _ _ _ => none)
    (fun _ _ _ _ _ _ => none)
    (fun _ _ _ _ _ _ => none)
    (fun _ _ _ _ _ _ _ _ _ _ => none)
    (fun _ _ _ _ _ _ _ _ => none)
    (fun _ _ _ _ _ _ _ _ => none)
    (fun _ _ _ _ _ _ _ => none)
    (fun _ _ _ _ _ _ _ => none)
    (fun _ _ _ _ _ _ _ _ => none)
    (fun _ _ _ _ _ _ _ => none)
    (fun _ _ _ _ _ _ _ => none)
    (fun _ _ _ _ _ _ _ _ => none)
    (fun _ _ _ _ _ _ _ _ _ _ => none)
    (fun _ _ _ _ _ _ _ _ => none)
    (fun _ _ _ _ _ _ _ _ => none)
    (fun _ _ _ _ _ _ _ _ => none)
    (fun _ _ _ _ _ _ _ _ => none)
    (fun _ _ _ _ _ _ _ _ _ => none)
    (fun ty x y z Z R E S k => opMu Z S ty k (S.ev Z E.nt x) (S.ev Z E.nt y) (S.ev Z E.nt z))
    (fun _ _ _ _ _ _ _ _ => none)
    (fun _ _ _ _ _ _ _ _ _ => none)
    (fun _ _ _ _ _ _ _ => none)
    (fun _ _ _ _ _ _ _ => none)
    (fun _ _ _ _ _ _ => none)
    (fun _ _ _ _ _ _ _ _ _ => none)
    (fun _ _ _ _ _ _ _ => none)
    (fun c Z R E S k => (match c.callee with
      | .builtin .clear => (match c.args.toList with | [x] => opClr Z S c.argTypes k (S.ev Z E.nt x) | _ => none)
      | _ => none))
    (fun _ _ _ _ _ _ => none)
    (fun _ _ _ _ _ _ => none)
    (fun _ _ _ _ _ _ => none)
    (fun _ _ _ _ _ _ _ => none)
    (fun _ _ _ _ _ _ _ _ => none)
    (fun _ _ _ _ _ _ _ => none) o
def opD (o : Op) : (Z : ISeat) → (R : Type) → CEnv Z → IS → Nat → TypeId → (Ef → Option R) → Option R := @Op.rec (fun _ => (Z : ISeat) → (R : Type) → CEnv Z → IS → Nat → TypeId → (Ef → Option R) → Option R)
    (fun x Z R E S t ty0 k => opMv Z E.nt S ty0 t x k)
    (fun x Z R E S t ty0 k => bif isNil x && memN t E.fz then k (vE t .nil) else opMv Z E.nt S ty0 t x k)
    (fun c x y Z R E S t ty0 k => opPk Z E.nt S t c x y k)
    (fun ty Z R E S t ty0 k => opAl Z S t ty k)
    (fun _ x Z R E S t ty0 k => opBx S t k (S.ev Z E.nt x))
    (fun ty ps Z R E S t ty0 k => opBd Z E.nt S t ty ps k)
    (fun ty n ps Z R E S t ty0 k => opBs Z E.nt S E.fz t ty n ps k)
    (fun _ _ _ _ _ _ _ _ _ _ _ => none)
    (fun ty x Z R E S t ty0 k => opLd Z S t ty k (S.ev Z E.nt x))
    (fun _ _ _ _ _ _ _ _ _ _ => none)
    (fun _ _ _ _ _ _ _ _ => none)
    (fun _ _ _ _ _ _ _ _ => none)
    (fun x Z R E S t ty0 k => opNc S t k (S.ev Z E.nt x))
    (fun op ty x y _ Z R E S t ty0 k => opBin Z (isCn y) t op ty k (S.ev Z E.nt x) (S.ev Z E.nt y))
    (fun op _ x Z R E S t ty0 k => opUn t op k (S.ev Z E.nt x))
    (fun ty ty2 x Z R E S t ty0 k => opCv Z t ty ty2 k (S.ev Z E.nt x))
    (fun _ _ _ _ _ _ _ _ _ => none)
    (fun _ _ _ _ _ _ _ _ _ => none)
    (fun fn first cap Z R E S t ty0 k => opMf Z E.nt S t fn first cap k)
    (fun ty r Z R E S t ty0 k => (match r with | none => opKm S t k | some _ => none))
    (fun _ _ _ _ _ _ _ _ _ => none)
    (fun ty x y Z R E S t ty0 k => opMk Z S t ty x y k (S.ev Z E.nt x))
    (fun ty x lo hi mx Z R E S t ty0 k => (match mx with | none => (match S.ev Z E.nt x with | .str s => opSlS Z E.nt S t ty lo hi k s | _ => opSl Z E.nt S E.fz t ty lo hi k (S.ev Z E.nt x)) | some m => opSlM Z E.nt S t ty lo hi m k (S.ev Z E.nt x)))
    (fun ty x f Z R E S t ty0 k => opFa Z S t ty f k (S.ev Z E.nt x))
    (fun ty x f Z R E S t ty0 k => opFd Z t ty f k (S.ev Z E.nt x))
    (fun ty x y Z R E S t ty0 k => opIa Z S t ty k (S.ev Z E.nt x) (S.ev Z E.nt y))
    (fun ty x y Z R E S t ty0 k => opIx Z t ty k (S.ev Z E.nt x) (S.ev Z E.nt y))
    (fun ty x y ok Z R E S t ty0 k => (match ok with | true => opLk Z S t ty k (S.ev Z E.nt x) (S.ev Z E.nt y) | false => none))
    (fun _ _ _ _ _ _ _ _ _ _ _ => none)
    (fun _ _ _ _ _ _ _ _ _ _ => none)
    (fun _ _ _ _ _ _ _ _ _ _ _ => none)
    (fun _ _ _ _ _ _ _ _ _ => none)
    (fun _ _ _ _ _ _ _ _ _ => none)
    (fun _ _ _ _ _ _ _ _ => none)
    (fun _ _ _ _ _ _ _ _ _ _ _ => none)
    (fun x i Z R E S t ty0 k => opEx t i k (S.ev Z E.nt x))
    (fun c Z R E S t ty0 k => (match c.callee with
      | .value x => opCl E S t x c.args.toList (fun e => k (bif memN (3000000 + t) E.fz then dataE e else e))
      | .builtin .len => (match c.args.toList with | [x] => opLen Z S t c.argTypes k (S.ev Z E.nt x) | _ => none)
      | .builtin .append => (match c.args.toList with | [x, y] => (match S.ev Z E.nt y with | .str b => opApS Z S t c.argTypes k (S.ev Z E.nt x) b | _ => opAp Z S t c.argTypes (fun e => k (bif memN (3000000 + t) E.fz then dataE e else e)) (S.ev Z E.nt x) (S.ev Z E.nt y)) | _ => none)
      | .builtin .copy => (match c.args.toList with | [x, y] => opCp Z S t c.argTypes k (S.ev Z E.nt x) (S.ev Z E.nt y) | _ => none)
      | .builtin .min => (match c.args.toList with | [x, y] => opMm t false k (S.ev Z E.nt x) (S.ev Z E.nt y) | _ => none)
      | .builtin .max => (match c.args.toList with | [x, y] => opMm t true k (S.ev Z E.nt x) (S.ev Z E.nt y) | _ => none)
      | _ => none))
    (fun _ _ _ _ _ _ _ _ => none)
    (fun _ _ _ _ _ _ _ _ => none)
    (fun _ _ _ _ _ _ _ _ => none)
    (fun _ _ _ _ _ _ _ _ _ => none)
    (fun _ _ _ _ _ _ _ _ _ _ => none)
    (fun _ _ _ _ _ _ _ _ _ => none) o
def opE (E : CEnv Z) (S : IS) (o : Oper) (k : Ef → Option R) : Option R := @Option.rec Nat (fun _ => Option R) (opN o.op Z R E S k) (fun t => opD o.op Z R E S t o.type k) o.dst
theorem opE_eq (E : CEnv Z) (S : IS) (o : Oper) (k : Ef → Option R) : opE E S o k = (match o.dst with
  | none => (match o.op with
    | .store ty x y => opSt Z S ty k (S.ev Z E.nt x) (S.ev Z E.nt y)
    | .mapUpdate ty x y z => opMu Z S ty k (S.ev Z E.nt x) (S.ev Z E.nt y) (S.ev Z E.nt z)
    | .insert ty x y z => opMu Z S ty k (S.ev Z E.nt x) (S.ev Z E.nt y) (S.ev Z E.nt z)
    | .call c => (match c.callee with
      | .builtin .clear => (match c.args.toList with | [x] => opClr Z S c.argTypes k (S.ev Z E.nt x) | _ => none)
      | _ => none)
    | _ => none)
  | some t => (match o.op with
    | .move x => opMv Z E.nt S o.type t x k
    | .assign x => bif isNil x && memN t E.fz then k (vE t .nil) else opMv Z E.nt S o.type t x k
    | .pick c x y => opPk Z E.nt S t c x y k
    | .binOp op ty x y _ => opBin Z (isCn y) t op ty k (S.ev Z E.nt x) (S.ev Z E.nt y)
    | .unOp op _ x => opUn t op k (S.ev Z E.nt x)
    | .convert ty ty2 x => opCv Z t ty ty2 k (S.ev Z E.nt x)
    | .extract x i => opEx t i k (S.ev Z E.nt x)
    | .field ty x f => opFd Z t ty f k (S.ev Z E.nt x)
    | .build ty ps => opBd Z E.nt S t ty ps k
    | .load ty x => opLd Z S t ty k (S.ev Z E.nt x)
    | .fieldAddr ty x f => opFa Z S t ty f k (S.ev Z E.nt x)
    | .indexAddr ty x y => opIa Z S t ty k (S.ev Z E.nt x) (S.ev Z E.nt y)
    | .index ty x y => opIx Z t ty k (S.ev Z E.nt x) (S.ev Z E.nt y)
    | .nilCheck x => opNc S t k (S.ev Z E.nt x)
    | .makeFunc fn first cap => opMf Z E.nt S t fn first cap k
    | .box _ x => opBx S t k (S.ev Z E.nt x)
    | .alloc ty => opAl Z S t ty k
    | .makeMap ty r => (match r with | none => opKm S t k | some _ => none)
    | .lookup ty x y ok => (match ok with | true => opLk Z S t ty k (S.ev Z E.nt x) (S.ev Z E.nt y) | false => none)
    | .makeSlice ty x y => opMk Z S t ty x y k (S.ev Z E.nt x)
    | .buildSlice ty n ps => opBs Z E.nt S E.fz t ty n ps k
    | .slice ty x lo hi mx => (match mx with | none => (match S.ev Z E.nt x with | .str s => opSlS Z E.nt S t ty lo hi k s | _ => opSl Z E.nt S E.fz t ty lo hi k (S.ev Z E.nt x)) | some m => opSlM Z E.nt S t ty lo hi m k (S.ev Z E.nt x))
    | .call c => (match c.callee with
      | .value x => opCl E S t x c.args.toList (fun e => k (bif memN (3000000 + t) E.fz then dataE e else e))
      | .builtin .len => (match c.args.toList with | [x] => opLen Z S t c.argTypes k (S.ev Z E.nt x) | _ => none)
      | .builtin .append => (match c.args.toList with | [x, y] => (match S.ev Z E.nt y with | .str b => opApS Z S t c.argTypes k (S.ev Z E.nt x) b | _ => opAp Z S t c.argTypes (fun e => k (bif memN (3000000 + t) E.fz then dataE e else e)) (S.ev Z E.nt x) (S.ev Z E.nt y)) | _ => none)
      | .builtin .copy => (match c.args.toList with | [x, y] => opCp Z S t c.argTypes k (S.ev Z E.nt x) (S.ev Z E.nt y) | _ => none)
      | .builtin .min => (match c.args.toList with | [x, y] => opMm t false k (S.ev Z E.nt x) (S.ev Z E.nt y) | _ => none)
      | .builtin .max => (match c.args.toList with | [x, y] => opMm t true k (S.ev Z E.nt x) (S.ev Z E.nt y) | _ => none)
      | _ => none)
    | _ => none)) := by
  obtain ⟨d, op, ty, ps, af, gd⟩ := o
  cases d <;> cases op <;> rfl
theorem arr_of {α : Type} {a : Array α} {l : List α} (h : a.toList = l) : a = l.toArray := by rw [← h]
theorem opE_ok {E : CEnv Z} (hX : At X Z E.nt) (h : opE E S o k = some r) : ∃ e, k e = some r ∧ EfOk X Z E.nt o S e := by
  rw [opE_eq] at h
  split at h
  · rename_i hd
    split at h
    · rename_i ty x y ho; exact opSt_ok hX ho hd h
    · rename_i ty x y z ho; exact opMu_ok hX (.inl ho) hd h
    · rename_i ty x y z ho; exact opMu_ok hX (.inr ho) hd h
    · rename_i c ho
      obtain ⟨callee, args, ts⟩ := c
      simp only at h
      split at h
      · split at h
        · rename_i x hl; exact opClr_ok hX (by rw [ho, arr_of hl]) hd h
        · cases h
      · cases h
    · cases h
  · rename_i t hd
    split at h
    · rename_i x ho; exact opMv_ok (.inl ho) hd h
    · rename_i x ho
      cases hb : isNil x && memN t E.fz with
      | false => rw [hb] at h; exact opMv_ok (.inr ho) hd h
      | true =>
        rw [hb] at h
        simp only [Bool.and_eq_true] at hb
        exact opNilMv_ok (.inr ho) hd hb.1 h
    · rename_i c x y ho; exact opPk_ok ho hd h
    · rename_i op ty x y ty2 ho; exact opBin_ok hX ho hd h
    · rename_i op ty x ho; exact opUn_ok ho hd h
    · rename_i ty ty2 x ho; exact opCv_ok hX ho hd h
    · rename_i x i ho; exact opEx_ok ho hd h
    · rename_i ty x f ho; exact opFd_ok hX ho hd h
    · rename_i ty ps ho; exact opBd_ok hX ho hd h
    · rename_i ty x ho; exact opLd_ok hX ho hd h
    · rename_i ty x f ho; exact opFa_ok hX ho hd h
    · rename_i ty x y ho; exact opIa_ok hX ho hd h
    · rename_i ty x y ho; exact opIx_ok hX ho hd h
    · rename_i x ho; exact opNc_ok ho hd h
    · rename_i fn first cap ho; exact opMf_ok ho hd h
    · rename_i ty x ho; exact opBx_ok ho hd h
    · rename_i ty ho; exact opAl_ok hX ho hd h
    · rename_i ty rr ho
      split at h
      · exact opKm_ok ho hd h
      · cases h
    · rename_i ty x y ok ho
      split at h
      · exact opLk_ok hX ho hd h
      · cases h
    · rename_i ty x y ho; exact opMk_ok hX ho hd h
    · rename_i ty n ps ho; exact opBs_ok hX ho hd h
    · rename_i ty x lo hi mx ho
      split at h
      · split at h
        · rename_i s hs; exact opSlS_ok hX ho hd hs h
        · exact opSl_ok hX ho hd h
      · exact opSlM_ok hX ho hd h
    · rename_i c ho
      obtain ⟨callee, args, ts⟩ := c
      simp only at h
      split at h
      · obtain ⟨e, h1, h2⟩ := opCl_ok hX ho hd h
        refine ⟨_, h1, ?_⟩
        cases memN (3000000 + _) E.fz with
        | false => exact h2
        | true => exact dataE_ok hX h2
      · split at h
        · rename_i x hl; exact opLen_ok hX (by rw [ho, arr_of hl]) hd h
        · cases h
      · split at h
        · rename_i x y hl
          split at h
          · rename_i b hb; exact opApS_ok hX (by rw [ho, arr_of hl]) hd hb h
          · obtain ⟨e, h1, h2⟩ := opAp_ok hX (by rw [ho, arr_of hl]) hd h
            refine ⟨_, h1, ?_⟩
            cases memN (3000000 + _) E.fz with
            | false => exact h2
            | true => exact dataE_ok hX h2
        · cases h
      · split at h
        · rename_i x y hl; exact opCp_ok hX (by rw [ho, arr_of hl]) hd h
        · cases h
      · split at h
        · rename_i x y hl; exact opMin_ok (by rw [ho, arr_of hl]) hd h
        · cases h
      · split at h
        · rename_i x y hl; exact opMax_ok (by rw [ho, arr_of hl]) hd h
        · cases h
      · cases h
    · cases h
end
end
end Go.Ab
namespace Go.Ab
open Go Go.RowKit
set_option linter.all false
set_option maxHeartbeats 1000000
noncomputable section
section
variable {X : Ctx} {κ : Nat → Nat → Option Value} {sv : Nat → Value} {S S' : St} {a : Act} {w : World}
inductive OwnConv (κ : Nat → Nat → Option Value) (γ : Nat → Nat) (sv : Nat → Value) : Own → Own → Prop
  | none (o : Own) : OwnConv κ γ sv o .none
  | same (o : Own) : OwnConv κ γ sv o o
  | box (l l' : List D) : allCell l' = true → (∀ T0, mbT l' = some T0 → mbT l = some T0) → (∀ cs, RepL κ γ sv l cs → RepL κ γ sv l' cs) → OwnConv κ γ sv (.box l) (.box l')
theorem OwnConv.blk {γ : Nat → Nat} {o o' : Own} (h : OwnConv κ γ sv o o') {v : Value} {b : Nat} (hb : Ab.blk o' v = some b) : Ab.blk o v = some b := by
  cases h with
  | none => cases hb
  | same => exact hb
  | box l l' => cases v with
    | pointer a => cases a <;> exact hb
    | slice a n c => cases a <;> exact hb
    | map a => cases a <;> exact hb
    | _ => exact hb
theorem sim_conv (hs : Sim X κ sv S a w) (hγ : S'.γ = S.γ) (hslot : ∀ i v, Rep κ S.γ sv (S.ρ i) v → Rep κ S.γ sv (S'.ρ i) v) (hown : ∀ s, OwnConv κ S.γ sv (S.σ s) (S'.σ s)) : Sim X κ sv S' a w := by
  refine ⟨hs.size, hs.defers, fun i hi => by rw [hγ]; exact hslot i _ (hs.slot i hi), ?_⟩
  obtain ⟨w1, w2, w3, w4, w5, ⟨M, w6, w6'⟩, w7, w8, w9, w10, w11, w12, w13, w14, w15⟩ := hs.wld
  have hb : ∀ t b, blk (S'.σ t) (sv t) = some b → blk (S.σ t) (sv t) = some b := fun t b h => (hown t).blk h
  refine ⟨w1, fun s => ?_, fun s t b hs' ht => w3 s t b (hb s b hs') (hb t b ht), fun s b o h => w4 s b o (hb s b h), fun s b h => w5 s b (hb s b h), ⟨M, w6, fun s b h => w6' s b (hb s b h)⟩, fun g l hg => by rw [hγ]; exact w7 g l hg, w8, fun b hb' => by rw [hγ]; exact w9 b hb', w10, by rw [hγ]; exact w11, w12, fun s b h => w13 s b (hb s b h), w14, w15⟩
  have h2 := w2 s
  rw [hγ]
  have hc := hown s
  generalize S'.σ s = o' at hc ⊢
  generalize S.σ s = o at hc h2
  cases hc with
  | none => trivial
  | same => exact h2
  | box l l' h3 h5 h4 =>
    obtain ⟨b, T, cs, q1, q2, q3, q4⟩ := h2
    exact ⟨b, T, cs, q1, q2, h4 cs q3, h3, fun T0 e => q4.2 T0 (h5 T0 e)⟩
end
mutual
def frzI (p g : Nat) (d : I) : I → I
  | .os s g' => bif Nat.beq s p && Nat.beq g' g then d else .os s g'
  | .agg l => .agg (frzIL p g d l)
  | .tup l => .tup (frzIL p g d l)
  | .fn f c => .fn f (frzIL p g d c)
  | .mf f c => .mf f (frzIL p g d c)
  | .int k n => .int k n
  | .bool b => .bool b
  | .str b => .str b
  | .sl t l => .sl t l
  | .nsl t l => .nsl t l
  | .nil => .nil
  | .rp l o => .rp l o
  | .bx s g o => .bx s g o
  | .mb s g T => .mb s g T
  | .op s g z i o => .op s g z i o
  | .ow s g z a m => .ow s g z a m
  | .yl l => .yl l
  | .one => .one
  | .lk c => .lk c
  | .er b => .er b
  | .undef => .undef
def frzIL (p g : Nat) (d : I) : List I → List I
  | [] => []
  | x :: l => frzI p g d x :: frzIL p g d l
end
def frzO (p g : Nat) (d : I) : IOwn → IOwn
  | .box l => .box (frzIL p g d l)
  | o => o
def mapS {α : Type} (f : α → α) : List (Nat × α) → List (Nat × α)
  | [] => []
  | (i, x) :: l => (i, f x) :: mapS f l
theorem look_map {α : Type} {e : α} {f : α → α} (he : f e = e) : ∀ (l : List (Nat × α)) (j : Nat), look e (mapS f l) j = f (look e l j)
  | [], j => he.symm
  | (i, x) :: l, j => by
    simp only [mapS, lk0, lk1, lk2]
    cases Nat.beq j i with
    | true => rfl
    | false => exact look_map he l j
def frz1 (S : IS) (p : Nat) : IS := match S.own p with
  | .arr _ e l => ⟨mapS (frzI p (S.gen p) (.sl e l)) S.rs, S.gs, (p, .none) :: mapS (frzO p (S.gen p) (.sl e l)) S.os⟩
  | _ => S
def frz (S : IS) : List Nat → IS
  | [] => S
  | p :: l => frz (frz1 S p) l
section
variable {κ : Nat → Nat → Option Value} {γ : Nat → Nat} {sv : Nat → Value} {h : Nat → Nat}
mutual
theorem frz_rep {p g : Nat} {d : I} (hd : ∀ v, Rep κ γ sv (.os p (h p + g)) v → Rep κ γ sv (d.toD h) v) : ∀ {x : I} {v : Value}, Rep κ γ sv (x.toD h) v → Rep κ γ sv ((frzI p g d x).toD h) v
  | .os s g', v, hr => by
    simp only [frzI]
    cases hb : Nat.beq s p && Nat.beq g' g with
    | false => exact hr
    | true =>
      simp only [Bool.and_eq_true] at hb
      have e1 := Nat.eq_of_beq_eq_true hb.1
      have e2 := Nat.eq_of_beq_eq_true hb.2
      subst e1 e2
      exact hd v hr
  | .agg l, v, hr => by
    cases hr with
    | agg _ vs hl => exact .agg _ vs (frz_repL hd hl)
  | .tup l, v, hr => by
    cases hr with
    | tup _ vs hl => exact .tup _ vs (frz_repL hd hl)
  | .fn f c, v, hr => by
    cases hr with
    | fn _ _ vs hl => exact .fn _ _ vs (frz_repL hd hl)
  | .mf f c, v, hr => by
    cases hr with
    | mf _ _ vs hl => exact .mf _ _ vs (frz_repL hd hl)
  | .int _ _, _, hr => hr | .bool _, _, hr => hr | .str _, _, hr => hr | .sl _ _, _, hr => hr | .nsl _ _, _, hr => hr | .nil, _, hr => hr | .rp _ _, _, hr => hr | .bx _ _ _, _, hr => hr | .mb _ _ _, _, hr => hr | .op _ _ _ _ _, _, hr => hr | .ow _ _ _ _ _, _, hr => hr | .yl _, _, hr => hr | .one, _, hr => hr | .lk _, _, hr => hr | .er _, _, hr => hr | .undef, _, hr => hr
theorem frz_repL {p g : Nat} {d : I} (hd : ∀ v, Rep κ γ sv (.os p (h p + g)) v → Rep κ γ sv (d.toD h) v) : ∀ {l : List I} {vs : List Value}, RepL κ γ sv (I.toDL h l) vs → RepL κ γ sv (I.toDL h (frzIL p g d l)) vs
  | [], _, hr => hr
  | x :: l, _, .cons _ v _ vs h1 h2 => .cons _ _ _ _ (frz_rep hd h1) (frz_repL hd h2)
end
theorem frzIL_cell (p g : Nat) {d : I} (hd : d.isCell = true) : ∀ (l : List I), allC l = true → allC (frzIL p g d l) = true
  | [], _ => rfl
  | x :: l, hc => by
    simp only [allC, frzIL, Bool.and_eq_true] at hc ⊢
    refine ⟨?_, frzIL_cell p g hd l hc.2⟩
    cases x <;> try exact hc.1
    rename_i s g'
    simp only [frzI]
    cases Nat.beq s p && Nat.beq g' g <;> first | exact hd | rfl
end
def nombI : I → Bool
  | .mb _ _ _ => false
  | _ => true
theorem frzIL_mb (p g : Nat) {d : I} (hd : nombI d = true) (l : List I) : mbI (frzIL p g d l) = mbI l := by
  cases l with
  | nil => rfl
  | cons x l =>
    cases x <;> try rfl
    rename_i s g'
    simp only [frzIL, frzI]
    cases Nat.beq s p && Nat.beq g' g with
    | false => rfl
    | true => cases d <;> first | rfl | cases hd
theorem frz1_ok {X : Ctx} {h : Nat → Nat} {S : IS} (p : Nat) (hxa : X.xa p = false) : Wk X (S.toSt h) ((frz1 S p).toSt h) := by
  unfold frz1
  split
  · rename_i E e l hσ
    intro κ sv a w hs
    have hσ' : (S.toSt h).σ p = .arr E (sz e) l.length (fun i => encD e (l.getD i (dflt e))) := by
      show (S.own p).toOwn h = _
      rw [hσ]; rfl
    have hle := freeze_le hs.wld p
    have hW := hs.wld.freeze p (arr_new hs.wld hσ' hxa) (S.toSt h).ρ
    have hsim1 := Sim.mk (X := X) (S := ⟨(S.toSt h).ρ, (S.toSt h).γ, upd (S.toSt h).σ p .none⟩) hs.size hs.defers (fun i hi => (hs.slot i hi).mono hle) hW
    have hd : ∀ v, Rep (fun b o => if blk ((S.toSt h).σ p) (sv p) = some b then w.cell? ⟨b, o, none⟩ else κ b o) (S.toSt h).γ sv (.os p (h p + S.gen p)) v → Rep (fun b o => if blk ((S.toSt h).σ p) (sv p) = some b then w.cell? ⟨b, o, none⟩ else κ b o) (S.toSt h).γ sv (I.toD h (.sl e l)) v := fun v hr => by
      have hv : v = sv p := by
        cases hr with
        | os _ _ _ _ hh _ => exact hh rfl
      rw [hv]
      exact frozen_rep hs.wld hσ' hle (fun b o v hb hc => by simp [hb, hc])
    refine ⟨_, sv, sim_conv (S' := IS.toSt h ⟨mapS (frzI p (S.gen p) (.sl e l)) S.rs, S.gs, (p, .none) :: mapS (frzO p (S.gen p) (.sl e l)) S.os⟩) hsim1 rfl (fun i v hr => ?_) (fun s => ?_)⟩
    · show Rep _ _ _ (I.toD h (look .undef (mapS _ S.rs) i)) v
      rw [look_map rfl]
      exact frz_rep hd hr
    · show OwnConv _ _ _ (upd (S.toSt h).σ p .none s) ((look .none ((p, .none) :: mapS _ S.os) s).toOwn h)
      simp only [lk0, lk1, lk2, upd]
      cases hb : Nat.beq s p with
      | true => exact .none _
      | false =>
        simp only [cond_false]
        rw [look_map rfl]
        show OwnConv _ _ _ ((look .none S.os s).toOwn h) _
        cases hw : look IOwn.none S.os s with
        | none => exact .same _
        | arr => exact .same _
        | arrp => exact .same _
        | mp => exact .same _
        | box m =>
          refine .box _ _ ?_ (fun T0 e => by rw [mbI_toD] at e ⊢; rwa [frzIL_mb _ _ rfl m] at e) (fun cs hcs => frz_repL hd hcs)
          rw [allC_toDL]
          refine frzIL_cell _ _ rfl m ?_
          have ho := hs.wld.own s
          have e1 : (S.toSt h).σ s = .box (I.toDL h m) := by
            show (look IOwn.none S.os s).toOwn h = _
            rw [hw]; rfl
          rw [e1] at ho
          obtain ⟨_, _, _, _, _, _, h4⟩ := ho
          rw [← allC_toDL h]; exact h4.1
  · exact Wk.refl _ _
end
end Go.Ab
