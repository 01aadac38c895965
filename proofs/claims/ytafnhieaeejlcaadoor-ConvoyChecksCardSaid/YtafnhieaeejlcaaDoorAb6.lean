/- Aggregates and slices that are made; appending; what may be forgotten, frozen, taken over. -/
import Derived.Test.YtafnhieaeejlcaaDoorAb5
import Derived.Great.BuildSlice
set_option linter.all false
namespace Go.Ab
open Go Go.RowKit

theorem foldl_over (off : Nat) : ∀ (cs : List Value) (k : Nat) (arr : Array Value), off + k + cs.length ≤ arr.size →
    ((cs.zipIdx k).foldl (fun (a : Array Value) p => a.setIfInBounds (off + p.2) p.1) arr).toList = arr.toList.take (off + k) ++ cs ++ arr.toList.drop (off + k + cs.length)
  | [], k, arr, _ => by simp
  | c :: cs, k, arr, h => by
    simp only [List.zipIdx_cons, List.foldl_cons, List.length_cons] at h ⊢
    rw [foldl_over off cs (k + 1) _ (by simp; omega)]
    have h1 : (arr.setIfInBounds (off + k) c).toList = arr.toList.take (off + k) ++ c :: arr.toList.drop (off + k + 1) := by
      rw [Array.toList_setIfInBounds, List.set_eq_take_append_cons_drop, if_pos (by simp; omega)]
    rw [h1]
    have h2 : (arr.toList.take (off + k)).length = off + k := by rw [List.length_take, Array.length_toList]; omega
    generalize arr.toList.take (off + k) = A at h2
    have h3 : arr.toList.drop (off + k + (cs.length + 1)) = (arr.toList.drop (off + k + 1)).drop cs.length := by rw [List.drop_drop]; congr 1; omega
    rw [h3]
    generalize arr.toList.drop (off + k + 1) = B
    have h4 : (A ++ c :: B).take (off + (k + 1)) = A ++ [c] := by
      rw [List.take_append, List.take_of_length_le (by omega), h2, show off + (k + 1) - (off + k) = 1 from by omega]; simp
    have h5 : (A ++ c :: B).drop (off + (k + 1) + cs.length) = B.drop cs.length := by
      rw [List.drop_append, List.drop_eq_nil_of_le (by omega), h2, show off + (k + 1) + cs.length - (off + k) = cs.length + 1 from by omega]; simp
    rw [h4, h5]
    simp

/-- The cells of an aggregate out of its parts' cells. -/
def bldN (pl : Nat → Option (Nat × Nat)) : List D → List (Nat × List D) → Option (List D)
  | l, [] => some l
  | l, (i, m) :: rest => match pl i with
    | some (off, sz) => bif Nat.beq m.length sz then (match overN l off m with | some l' => bldN pl l' rest | none => none) else none
    | none => none

section
variable {κ : Nat → Nat → Option Value} {γ : Nat → Nat} {sv : Nat → Value}
theorem fill_rep (pl : Nat → Option (Nat × Nat)) : ∀ (ps : List (Nat × List D)) (vs : List (Nat × Value)) (l l' : List D) (cells : Array Value),
    ps.length = vs.length → (∀ (k i : Nat) (m : List D), ps[k]? = some (i, m) → ∃ v : Value, vs[k]? = some (i, v) ∧ RepL κ γ sv m v.cells.toList) → RepL κ γ sv l cells.toList → bldN pl l ps = some l' →
    ∃ cells', Instr.fill pl cells vs = some cells' ∧ RepL κ γ sv l' cells'.toList
  | [], [], l, l', cells, _, _, hl, h => by simp [bldN] at h; subst h; exact ⟨cells, rfl, hl⟩
  | [], _ :: _, _, _, _, h, _, _, _ => by simp at h
  | _ :: _, [], _, _, _, h, _, _, _ => by simp at h
  | (i, m) :: ps, (i', v) :: vs, l, l', cells, hlen, hp, hl, h => by
    obtain ⟨v', hv', hm⟩ := hp 0 i m (by simp)
    simp only [List.getElem?_cons_zero, Option.some.injEq, Prod.mk.injEq] at hv'
    obtain ⟨rfl, rfl⟩ := hv'
    unfold bldN at h
    cases hpl : pl i' with
    | none => rw [hpl] at h; cases h
    | some p =>
      obtain ⟨off, sz⟩ := p
      rw [hpl] at h
      simp only at h
      cases hb : Nat.beq m.length sz with
      | false => rw [hb] at h; cases h
      | true =>
        rw [hb] at h
        have hsz := Nat.eq_of_beq_eq_true hb
        cases ho : overN l off m with
        | none => rw [ho] at h; cases h
        | some l1 =>
          rw [ho] at h
          obtain ⟨rfl, hle⟩ := overN_eq ho
          have hml := hm.length
          have hll := hl.length
          have hf := foldl_over off v.cells.toList 0 cells (by simp at hml hll ⊢; omega)
          simp only [Nat.add_zero] at hf
          have hvs : v.cells.size = sz := by simp at hml; omega
          have hnot : ¬ (v.cells.size ≠ sz ∨ off + v.cells.size > cells.size) := by simp at hml hll; omega
          have e : v.cells.zipIdx.foldl (fun cs (c, j) => cs.setIfInBounds (off + j) c) cells = ((v.cells.toList.zipIdx 0).foldl (fun (a : Array Value) p => a.setIfInBounds (off + p.2) p.1) cells) := by
            rw [← Array.foldl_toList]
            simp only [Array.toList_zipIdx]
          obtain ⟨cells', h1, h2⟩ := fill_rep pl ps vs _ l' (v.cells.zipIdx.foldl (fun cs (c, j) => cs.setIfInBounds (off + j) c) cells) (by simpa using hlen)
            (fun k i m hk => by simpa using hp (k + 1) i m (by simpa using hk)) (by rw [e, hf, hml]; exact ((hl.take off).append hm).append (hl.drop _)) h
          refine ⟨cells', ?_, h2⟩
          unfold Instr.fill
          rw [hpl]
          simp only
          rw [if_neg (by simpa using hnot)]
          exact h1
end

section
variable {X : Ctx} {Q : Exit → St → Prop} {S S' : St} {ops : Array Oper} {o : Oper} {rest : List Oper} {T : TypeId} {r q : TRow}

def partsD (X : Ctx) (S : St) : List (Nat × Operand) → List (Nat × List D)
  | [] => []
  | (i, x) :: l => (i, (S.ev X x).cells) :: partsD X S l
def partsOk (X : Ctx) (S : St) : List (Nat × Operand) → Bool
  | [] => true
  | (_, x) :: l => allCell (S.ev X x).cells && partsOk X S l
def plF (fl : List (Nat × Nat × Bool)) (i : Nat) : Option (Nat × Nat) := match nth fl i with | some (off, sz, _) => some (off, sz) | none => none

theorem parts_get : ∀ (l : List (Nat × Operand)) {κ : Nat → Nat → Option Value} {sv : Nat → Value} {a : Act} {w : World}, Sim X κ sv S a w → partsOk X S l = true → ∀ (k i : Nat) (m : List D), (partsD X S l)[k]? = some (i, m) →
    ∃ v : Value, (l.map fun (i, x) => (i, a.eval x))[k]? = some (i, v) ∧ RepL κ S.γ sv m v.cells.toList
  | [], _, _, _, _, _, _, k, i, m, h => by simp [partsD] at h
  | (i0, x) :: l, _, _, a, _, hs, hok, 0, i, m, h => by
    simp only [partsOk, Bool.and_eq_true] at hok
    simp [partsD] at h
    obtain ⟨rfl, rfl⟩ := h
    exact ⟨a.eval x, by simp, ((hs.ev x).cells hok.1).1⟩
  | (i0, x) :: l, _, _, _, _, hs, hok, k + 1, i, m, h => by
    simp only [partsOk, Bool.and_eq_true] at hok
    obtain ⟨v, h1, h2⟩ := parts_get l hs hok.2 k i m (by simpa [partsD] using h)
    exact ⟨v, by simpa using h1, h2⟩
theorem partsD_length : ∀ (l : List (Nat × Operand)), (partsD X S l).length = l.length
  | [] => rfl
  | _ :: l => by simp [partsD, partsD_length l]

theorem q_bld {ps : Array (Nat × Operand)} {l : List D} (ho : o.op = .build T ps) (hr : nth X.Z.tab T = some r) (hk : Nat.beq r.k 1 = true) (hp : partsOk X S ps.toList = true)
    (hb : bldN (plF r.fl) (r.zs.map Zr.toD) (partsD X S ps.toList) = some l) : QOp X o S (.agg l) := fun κ sv a w hs => by
  have hok := X.Z.tabOk _ _ hr (by intro e; rw [e] at hk; cases hk)
  obtain ⟨i, d, hi, hd, _, _, ⟨z, hz, hzf⟩, h4⟩ := row_info hok
  have hk1 := Nat.eq_of_beq_eq_true hk
  cases d <;> try (simp only at h4; omega)
  rename_i fs
  obtain ⟨_, hfl, hall⟩ := h4
  have hpl : fs.toList.mapM (fun f => (X.Z.P.info? f.type).map fun i => (f.offset, i.size)) = some (fs.toList.map fun f => (f.offset, X.Z.P.cellsOf f.type)) := by
    have : ∀ l : List Field, l.all (fun f => (X.Z.P.info? f.type).isSome && (X.Z.P.underlying f.type).isSome) = true →
        l.mapM (fun f => (X.Z.P.info? f.type).map fun i => (f.offset, i.size)) = some (l.map fun f => (f.offset, X.Z.P.cellsOf f.type)) := by
      intro l
      induction l with
      | nil => intro _; rfl
      | cons f l ih =>
        intro h
        simp only [List.all_cons, Bool.and_eq_true] at h
        obtain ⟨fi, hfi⟩ := Option.isSome_iff_exists.1 h.1.1
        simp [List.mapM_cons, hfi, ih (by simpa using h.2), Program.cellsOf]
    exact this _ hall
  have hplace : (fun i => (fs.toList.map fun f => (f.offset, X.Z.P.cellsOf f.type)).toArray[i]?) = plF r.fl := by
    funext i
    unfold plF
    rw [nth_eq, ← hfl]
    simp only [List.getElem?_toArray, List.getElem?_map]
    cases fs.toList[i]? <;> rfl
  obtain ⟨cells', h1, h2⟩ := fill_rep (plF r.fl) (partsD X S ps.toList) (ps.toList.map fun (i, x) => (i, a.eval x)) (r.zs.map Zr.toD) l z.cells (by simp [partsD_length]) (parts_get ps.toList hs hp) (zr_rep hzf) hb
  refine ⟨.agg cells', ?_, fun w' _ => ?_⟩
  · have := Rep.agg _ _ h2; simpa using this
  · have hbuilt : X.Z.P.built T (ps.map fun (i, x) => (i, a.eval x)).toList = some cells' := by
      unfold Program.built
      rw [hi, hd]
      simp only [hz, hpl, hplace]
      simpa using h1
    simp [execOp, ho, run_build w' T _ cells' hbuilt]

theorem q_blda {ps : Array (Nat × Operand)} {l : List D} {E : TypeId} (ho : o.op = .build T ps) (hr : nth X.Z.tab T = some r) (hk : Nat.beq r.k 2 = true) (hE : r.el = E) (hq : nth X.Z.tab E = some q) (hq9 : Nat.beq q.k 9 = false) (hp : partsOk X S ps.toList = true)
    (hb : bldN (fun i => some (i * q.sz, q.sz)) (r.zs.map Zr.toD) (partsD X S ps.toList) = some l) : QOp X o S (.agg l) := fun κ sv a w hs => by
  have hok := X.Z.tabOk _ _ hr (by intro e; rw [e] at hk; cases hk)
  have hokq := X.Z.tabOk _ _ hq (by intro e; rw [e] at hq9; cases hq9)
  obtain ⟨i, d, hi, hd, _, _, ⟨z, hz, hzf⟩, h4⟩ := row_info hok
  obtain ⟨iq, dq, hiq, hdq, hsq, _⟩ := row_info hokq
  have hk1 := Nat.eq_of_beq_eq_true hk
  cases d <;> try (simp only at h4; omega)
  obtain ⟨_, _, hel⟩ := h4
  obtain ⟨cells', h1, h2⟩ := fill_rep (fun i => some (i * q.sz, q.sz)) (partsD X S ps.toList) (ps.toList.map fun (i, x) => (i, a.eval x)) (r.zs.map Zr.toD) l z.cells (by simp [partsD_length]) (parts_get ps.toList hs hp) (zr_rep hzf) hb
  refine ⟨.agg cells', ?_, fun w' _ => ?_⟩
  · have := Rep.agg _ _ h2; simpa using this
  · have hbuilt : X.Z.P.built T (ps.map fun (i, x) => (i, a.eval x)).toList = some cells' := by
      unfold Program.built
      rw [hi, hd]
      simp only [hz, hel, hE, hiq, hsq]
      simpa using h1
    simp [execOp, ho, run_build w' T _ cells' hbuilt]

/-- Operands in their order. -/
def seqP : Nat → List (Nat × Operand) → Option (List Operand)
  | _, [] => some []
  | k, (i, x) :: l => bif Nat.beq i k then (seqP (k + 1) l).map (x :: ·) else none
theorem seqP_eq : ∀ {l : List (Nat × Operand)} {k : Nat} {xs : List Operand}, seqP k l = some xs → l = (xs.zipIdx k).map fun p => (p.2, p.1)
  | [], k, xs, h => by simp [seqP] at h; subst h; rfl
  | (i, x) :: l, k, xs, h => by
    unfold seqP at h
    cases hb : Nat.beq i k with
    | false => rw [hb] at h; cases h
    | true =>
      rw [hb] at h
      have := Nat.eq_of_beq_eq_true hb
      subst this
      simp only [cond_true, Option.map_eq_some_iff] at h
      obtain ⟨xs', h1, rfl⟩ := h
      rw [seqP_eq h1]
      simp [List.zipIdx_cons]
def evC (X : Ctx) (S : St) : List Operand → List (List D)
  | [] => []
  | x :: l => (S.ev X x).cells :: evC X S l
def okC (z : Nat) : List (List D) → Bool
  | [] => true
  | c :: l => Nat.beq c.length z && allCell c && okC z l
def nthD (l : List (List D)) (i : Nat) : List D := match nth l i with | some c => c | none => []

theorem flat_at {z : Nat} : ∀ (ls : List (List Value)), (∀ c ∈ ls, c.length = z) → ∀ i j, j < z → ls.flatten[i * z + j]? = (ls[i]?).bind (·[j]?)
  | [], _, i, j, _ => by simp
  | c :: ls, h, 0, j, hj => by
    simp only [List.flatten_cons, Nat.zero_mul, Nat.zero_add]
    rw [List.getElem?_append_left (by rw [h c (by simp)]; exact hj)]
    simp
  | c :: ls, h, i + 1, j, hj => by
    have hc : c.length = z := h c (by simp)
    rw [List.flatten_cons, List.getElem?_append_right (by rw [hc, Nat.add_mul]; omega)]
    rw [show (i + 1) * z + j - c.length = i * z + j from by rw [hc, Nat.add_mul]; omega]
    simpa using flat_at ls (fun x hx => h x (by simp [hx])) i j hj
theorem flat_len {z : Nat} : ∀ (ls : List (List Value)), (∀ c ∈ ls, c.length = z) → ls.flatten.length = ls.length * z
  | [], _ => by simp
  | c :: ls, h => by simp only [List.flatten_cons, List.length_append, flat_len ls (fun x hx => h x (by simp [hx])), h c (by simp), List.length_cons, Nat.add_mul]; omega

theorem evC_rep {κ : Nat → Nat → Option Value} {sv : Nat → Value} {a : Act} {w : World} (hs : Sim X κ sv S a w) {z : Nat} : ∀ {xs : List Operand}, okC z (evC X S xs) = true →
    (∀ i c, nth (evC X S xs) i = some c → c.length = z ∧ allCell c = true ∧ ∃ v : Value, (xs.map a.eval)[i]? = some v ∧ RepL κ S.γ sv c v.cells.toList) ∧ (∀ v ∈ xs.map a.eval, v.cells.size = z ∧ ∀ u ∈ v.cells.toList, u.oneCell' = true)
  | [], _ => by simp [evC, nth]
  | x :: xs, h => by
    simp only [evC, okC, Bool.and_eq_true] at h
    obtain ⟨⟨h1, h2⟩, h3⟩ := h
    obtain ⟨ih1, ih2⟩ := evC_rep hs h3
    have hx := (hs.ev x).cells h2
    have hl := Nat.eq_of_beq_eq_true h1
    refine ⟨fun i c hc => ?_, fun v hv => ?_⟩
    · cases i with
      | zero =>
        simp only [evC, nth, Option.some.injEq] at hc
        subst hc
        exact ⟨hl, h2, _, by simp, hx.1⟩
      | succ i =>
        obtain ⟨e1, e2, v, e3, e4⟩ := ih1 i c (by simpa [evC, nth] using hc)
        exact ⟨e1, e2, v, by simpa using e3, e4⟩
    · rw [List.map_cons] at hv
      rcases List.mem_cons.1 hv with rfl | hv
      · have := hx.1.length; simp at this; exact ⟨by omega, hx.2⟩
      · exact ih2 v hv
theorem evC_length : ∀ (xs : List Operand), (evC X S xs).length = xs.length
  | [] => rfl
  | _ :: xs => by simp [evC, evC_length xs]

/-- What is needed of a slice literal's run. -/
theorem run_bsl {κ : Nat → Nat → Option Value} {sv : Nat → Value} {a : Act} {w : World} (hs : Sim X κ sv S a w) {ps : Array (Nat × Operand)} {n z : Nat} {xs : List Operand} {E : TypeId} (ho : o.op = .buildSlice T n ps) (hsq : seqP 0 ps.toList = some xs) (hn : Nat.beq xs.length n = true)
    (hr : nth X.Z.tab T = some r) (hk : Nat.beq r.k 3 = true) (hE : r.el = E) (hq : nth X.Z.tab E = some q) (hq9 : Nat.beq q.k 9 = false) (hz : q.sz = z) (hz0 : Nat.beq z 0 = false) (hn0 : Nat.beq n 0 = false) (hsm : Nat.ble (n * z) 16777216 = true) (hok : okC z (evC X S xs) = true) :
    (execOp a.eval o).run X.Z.P w = .ok (.value (.slice (some ⟨w.heap.size, 0, none⟩) n n)) (w.alloc (.cells ((xs.map a.eval).map (·.cells.toList)).flatten.toArray E)) ∧
      ((xs.map a.eval).map (·.cells.toList)).flatten.length = n * z := by
  have hokr := X.Z.tabOk _ _ hr (by intro e; rw [e] at hk; cases hk)
  have hokq := X.Z.tabOk _ _ hq (by intro e; rw [e] at hq9; cases hq9)
  obtain ⟨iq, dq, hiq, hdq, hsq2, _, ⟨zv, hzv, _⟩, _⟩ := row_info hokq
  have hu := slice_row hokr hk
  rw [hE] at hu
  obtain ⟨_, hcells⟩ := evC_rep hs hok
  have hz1 : 0 < z := by
    cases z with
    | zero => cases hz0
    | succ z => omega
  have hn1 : 0 < n := by
    cases n with
    | zero => cases hn0
    | succ n => omega
  have hlen : xs.length = n := Nat.eq_of_beq_eq_true hn
  have hle : n * z ≤ 16777216 := Nat.le_of_ble_eq_true hsm
  have hpos : 0 < n * z := Nat.mul_pos hn1 hz1
  have hparts : (ps.map fun (i, x) => (i, a.eval x)).toList = ((xs.map a.eval).zipIdx 0).map fun x => (x.2, x.1) := by
    have := seqP_eq hsq
    rw [Array.toList_map, this, List.zipIdx_map]
    simp [Function.comp_def]
  have hfl : ((xs.map a.eval).map (·.cells.toList)).flatten.length = n * z := by
    rw [flat_len _ (z := z) (fun c hc => by
      obtain ⟨v, hv, rfl⟩ := List.mem_map.1 hc
      simpa using (hcells v hv).1)]
    simp [hlen]
  have hfill := Great.fill_whole hz1 (xs.map a.eval) ((Array.range (n * iq.size)).map (zv.cells[· % zv.cells.size]!)) (fun v hv => (hcells v hv).1) (by simp [hlen, hsq2, hz])
  have hrun := run_buildSlice (P := X.Z.P) w T E n (ps.map fun (i, x) => (i, a.eval x)) _ iq zv hu hiq hzv (by rw [hsq2, hz]; simp only [Nat.not_lt, gt_iff_lt]; exact Nat.le_trans hle (by decide)) (by rw [hsq2, hz]; omega)
    (by rw [hparts, hsq2, hz]; rw [hsq2, hz] at hfill; exact hfill)
  refine ⟨?_, hfl⟩
  have e : ((xs.map a.eval).flatMap fun v => v.cells.toList) = ((xs.map a.eval).map (·.cells.toList)).flatten := by simp [List.flatMap_def]
  rw [e] at hrun
  simp [execOp, ho, hrun]

/-- A slice literal that is never written. -/
theorem n_bsl {ps : Array (Nat × Operand)} {n z t : Nat} {xs : List Operand} {E : TypeId} {cs : List (List D)} (ho : o.op = .buildSlice T n ps) (hd : o.dst = some t) (hsq : seqP 0 ps.toList = some xs) (hn : Nat.beq xs.length n = true)
    (hr : nth X.Z.tab T = some r) (hk : Nat.beq r.k 3 = true) (hE : r.el = E) (hq : nth X.Z.tab E = some q) (hq9 : Nat.beq q.k 9 = false) (hz : q.sz = z) (hz0 : Nat.beq z 0 = false) (hn0 : Nat.beq n 0 = false) (hsm : Nat.ble (n * z) 16777216 = true) (hc : evC X S xs = cs) (hok : okC z cs = true) :
    NOp X o S (S.set t (.sl z n (nthD cs))) := fun κ sv a w hs => by
  subst hc
  obtain ⟨hrun, hfl⟩ := run_bsl hs ho hsq hn hr hk hE hq hq9 hz hz0 hn0 hsm hok
  obtain ⟨hrep, hcells⟩ := evC_rep hs hok
  have hlen : xs.length = n := Nat.eq_of_beq_eq_true hn
  let κ' : Nat → Nat → Option Value := fun b o => if b = w.heap.size then ((xs.map a.eval).map (·.cells.toList)).flatten[o]? else κ b o
  have hle : Le κ κ' S.γ S.γ sv sv := by
    refine ⟨fun b o v hk => ?_, fun _ => Nat.le_refl _, fun _ _ => rfl⟩
    have := World.block_lt_of_cell? w _ (hs.wld.imm b o v hk)
    simp only [κ']
    rw [if_neg (by simp at this; omega)]; exact hk
  have hnth : ∀ i, i < n → ∃ c, nth (evC X S xs) i = some c ∧ nthD (evC X S xs) i = c := by
    intro i hi
    rw [nth_eq]
    have : i < (evC X S xs).length := by rw [evC_length, hlen]; exact hi
    exact ⟨(evC X S xs)[i], by simp [this], by simp [nthD, nth_eq, this]⟩
  refine ⟨_, _, κ', sv, .inl hrun, ?_⟩
  rw [hd]
  refine ⟨by rw [put_size]; exact hs.size, (hs.defers.later ((Below.refl _ _).alloc (Nat.le_refl _) _)).put _ _, ?_, ?_⟩
  · refine hs.slotsR hle (some t) (.sl z n _ w.heap.size 0 n (fun i => ((xs.map a.eval).getD i Go.undef).cells.toList) (Nat.le_refl _) (fun i hi => ?_) (fun i hi => ?_) (fun i hi => ?_) (fun i j v hi hj => ?_))
    · obtain ⟨c, h1, h2⟩ := hnth i hi; rw [h2]; exact (hrep i c h1).1
    · obtain ⟨c, h1, h2⟩ := hnth i hi; rw [h2]; exact (hrep i c h1).2.1
    · obtain ⟨c, h1, h2⟩ := hnth i hi
      obtain ⟨_, _, v, h3, h4⟩ := hrep i c h1
      rw [h2, show (xs.map a.eval).getD i Go.undef = v by simp [List.getD, h3]]
      exact h4.mono hle
    · obtain ⟨c, h1, h2⟩ := hnth i hi
      obtain ⟨hcz, _, v', h3, h4⟩ := hrep i c h1
      have hv' : (xs.map a.eval).getD i Go.undef = v' := by simp [List.getD, h3]
      rw [hv'] at hj
      have hjz : j < z := by
        have := (hcells v' (List.mem_of_getElem? h3)).1
        have h5 := (List.getElem?_eq_some_iff.1 hj).1
        simp at h5; omega
      simp only [κ', if_true, Nat.zero_add]
      rw [flat_at _ (z := z) (fun c hc => by
        obtain ⟨v, hv, rfl⟩ := List.mem_map.1 hc
        simpa using (hcells v hv).1) i j hjz]
      simp only [List.getElem?_map] at h3 ⊢
      rw [h3]
      simpa using hj
  · have hb : Below w.heap.size w (w.alloc (.cells ((xs.map a.eval).map (·.cells.toList)).flatten.toArray E)) := (Below.refl _ _).alloc (Nat.le_refl _) _
    have h1 := hs.wld.later hb
    refine ⟨fun b o v hk => ?_, fun s => owns_mono hle rfl (fun _ _ => rfl) (h1.own s), h1.inj, fun s b o hb' => ?_, h1.frsh, h1.frame, fun g l hg => ?_, fun b o v hb' hk => ?_, h1.pin, h1.base, h1.le.trans hle, fun b o v hk => ?_, h1.aw2, h1.aw3⟩
    · simp only [κ'] at hk
      split at hk
      · rename_i e; subst e
        rw [World.cell?_alloc_new]; simpa using hk
      · exact h1.imm b o v hk
    · have := owns_lt (hs.wld.own s) hb'
      simp only [κ']
      rw [if_neg (by omega)]; exact h1.sep s b o hb'
    · obtain ⟨hc, u, hu, hk⟩ := h1.glob g l hg
      exact ⟨hc, u, hu.mono hle, fun j v hj => hle.cells _ _ _ (hk j v hj)⟩
    · have := hs.wld.base
      simp only [κ'] at hk
      rw [if_neg (by omega)] at hk
      exact hs.wld.old b o v hb' hk
    · simp only [κ'] at hk
      split at hk
      · rename_i e; subst e; intro hT; have := hs.wld.aw3 _ hT; omega
      · exact h1.aw1 b o v hk
end
end Go.Ab
