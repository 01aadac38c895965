/- The rules of the operations that only read. -/
import Derived.Test.YtafnhieaeejlcaaDoorAb2
set_option linter.all false
namespace Go.Ab
open Go Go.RowKit

theorem row_info {P : Program} {t : TypeId} {r : TRow} (h : rowOk P t r = true) : ∃ i d, P.info? t = some i ∧ P.underlying t = some d ∧ i.size = r.sz ∧ i.bytes = r.bytes ∧
    (∃ v, i.zero = some v ∧ Zr.fitsL r.zs v.cells.toList = true) ∧
    (match d with
     | .struct fs => r.k = 1 ∧ fs.toList.map (fun f => (f.offset, P.cellsOf f.type, aggOf P f.type)) = r.fl ∧ fs.toList.all (fun f => (P.info? f.type).isSome && (P.underlying f.type).isSome) = true
     | .array n e => r.k = 2 ∧ n = r.ln ∧ e = r.el
     | .slice e => r.k = 3 ∧ e = r.el
     | _ => r.k = 0) := by
  unfold rowOk at h
  split at h
  · rename_i i d hi hd
    simp only [Bool.and_eq_true, beq_iff_eq] at h
    obtain ⟨⟨⟨h1, h2⟩, h3⟩, h4⟩ := h
    refine ⟨i, d, hi, hd, h1, h2, ?_, ?_⟩
    · cases hz : i.zero with
      | none => rw [hz] at h3; cases h3
      | some v => rw [hz] at h3; exact ⟨v, rfl, h3⟩
    · cases d <;> simp_all
  · cases h

theorem run_isAgg {P : Program} {t : TypeId} {d : TypeDesc} (hd : P.underlying t = some d) (w : World) : (isAgg t).run P w = .ok (aggOf P t) w := by
  unfold isAgg aggOf
  rw [hd]
  cases d <;> simp [run_underlying hd]

theorem aggOf_k {P : Program} {t : TypeId} {r : TRow} (h : rowOk P t r = true) : aggOf P t = (Nat.beq r.k 1 || Nat.beq r.k 2) := by
  obtain ⟨i, d, _, hd, _, _, _, h4⟩ := row_info h
  unfold aggOf
  rw [hd]
  cases d <;> first | (obtain ⟨h, _⟩ := h4; rw [h]; rfl) | (have h : r.k = 0 := h4; rw [h]; rfl)

theorem run_sizeOf {P : Program} {t : TypeId} {i : TypeInfo} (hi : P.info? t = some i) (w : World) : (sizeOf t).run P w = .ok i.size w := by simp [sizeOf, typeInfo, hi]

theorem cellsOf_eq {P : Program} {t : TypeId} {i : TypeInfo} (hi : P.info? t = some i) : P.cellsOf t = i.size := by simp [Program.cellsOf, hi]

theorem addr_add (b o n : Nat) : (⟨b, o, none⟩ : Addr).add n = ⟨b, o + n, none⟩ := by
  unfold Addr.add; split <;> simp_all

/-- The abstract cells as a list, made whole. -/
def takeN : Nat → List D → Option (List D)
  | 0, _ => some []
  | n + 1, d :: l => match takeN n l with
    | some m => some (d :: m)
    | none => none
  | _ + 1, [] => none
theorem takeN_eq : ∀ {n : Nat} {l m : List D}, takeN n l = some m → m = l.take n ∧ n ≤ l.length
  | 0, l, m, h => by simp [takeN] at h; simp [h]
  | n + 1, [], m, h => by simp [takeN] at h
  | n + 1, d :: l, m, h => by
    unfold takeN at h
    cases h1 : takeN n l with
    | none => rw [h1] at h; cases h
    | some m' =>
    rw [h1] at h
    simp only [Option.some.injEq] at h
    subst h
    obtain ⟨e, hl⟩ := takeN_eq h1
    exact ⟨by simp [e], by simp; omega⟩
def dropN : Nat → List D → List D
  | 0, l => l
  | n + 1, _ :: l => dropN n l
  | _ + 1, [] => []
theorem dropN_eq : ∀ (n : Nat) (l : List D), dropN n l = l.drop n
  | 0, l => by simp [dropN]
  | n + 1, [] => by simp [dropN]
  | n + 1, d :: l => by simp [dropN, dropN_eq n l]

section
variable {P : Program} {w : World} {t : TypeId} {r : TRow}
theorem run_loadVar_cell (hr : rowOk P t r = true) (hk : (Nat.beq r.k 1 || Nat.beq r.k 2) = false) {a : Addr} {v : Value} (h : w.cell? a = some v) : (loadVar t a).run P w = .ok v w := by
  obtain ⟨i, d, hi, hd, _⟩ := row_info hr
  simp [loadVar, run_isAgg hd, aggOf_k hr, hk, h]
theorem run_loadVar_agg (hr : rowOk P t r = true) (hk : (Nat.beq r.k 1 || Nat.beq r.k 2) = true) {b o : Nat} {vs : List Value} (hl : vs.length = r.sz) (h : ∀ j v, vs[j]? = some v → w.cell? ⟨b, o + j, none⟩ = some v) :
    (loadVar t ⟨b, o, none⟩).run P w = .ok (.agg vs.toArray) w := by
  obtain ⟨i, d, hi, hd, hs, _⟩ := row_info hr
  have := run_loadCells_list (P := P) w ⟨b, o, none⟩ vs (fun j v hj => by rw [addr_add]; exact h j v hj)
  rw [hl, ← hs] at this
  simp [loadVar, run_isAgg hd, aggOf_k hr, hk, run_sizeOf hi, this]
end

section
variable {X : Ctx} {S : St} {o : Oper} {r : TRow} {T : TypeId}

theorem q_move {x : Operand} {d : D} (ho : o.op = .move x) (hd : S.ev X x = d) : QOp X o S d := fun κ sv a w hs =>
  ⟨a.eval x, hd ▸ hs.ev x, fun w' _ => by simp [execOp, ho]⟩
theorem q_assign {x : Operand} {d : D} (ho : o.op = .assign x) (hd : S.ev X x = d) : QOp X o S d := fun κ sv a w hs =>
  ⟨a.eval x, hd ▸ hs.ev x, fun w' _ => by simp [execOp, ho]⟩

theorem rep_bool {κ : Nat → Nat → Option Value} {γ : Nat → Nat} {sv : Nat → Value} {b : Bool} {v : Value} (h : Rep κ γ sv (.bool b) v) : v = .bool b := by cases h; rfl
theorem rep_int {κ : Nat → Nat → Option Value} {γ : Nat → Nat} {sv : Nat → Value} {k : IntKind} {n : Int} {v : Value} (h : Rep κ γ sv (.int k n) v) : v = .int k n := by cases h; rfl
theorem rep_str {κ : Nat → Nat → Option Value} {γ : Nat → Nat} {sv : Nat → Value} {s : ByteArray} {v : Value} (h : Rep κ γ sv (.str s) v) : v = .string s := by cases h; rfl

theorem q_pickT {c x y : Operand} {d : D} (ho : o.op = .pick c x y) (hc : S.ev X c = .bool true) (hd : S.ev X x = d) : QOp X o S d := fun κ sv a w hs =>
  ⟨a.eval x, hd ▸ hs.ev x, fun w' _ => by
    have := rep_bool (hc ▸ hs.ev c)
    simp [execOp, ho, this, asBool]⟩
theorem q_pickF {c x y : Operand} {d : D} (ho : o.op = .pick c x y) (hc : S.ev X c = .bool false) (hd : S.ev X y = d) : QOp X o S d := fun κ sv a w hs =>
  ⟨a.eval y, hd ▸ hs.ev y, fun w' _ => by
    have := rep_bool (hc ▸ hs.ev c)
    simp [execOp, ho, this, asBool]⟩

/-- A load out of an element that is never written. -/
theorem q_ldr {x : Operand} {l : List D} {j : Nat} {d : D} (ho : o.op = .load T x) (hx : S.ev X x = .rp l j) (hr : nth X.Z.tab T = some r) (hk : (Nat.beq r.k 1 || Nat.beq r.k 2) = false)
    (h9 : Nat.beq r.k 9 = false) (hd : nth l j = some d) : QOp X o S d := fun κ sv a w hs => by
  have hok := X.Z.tabOk _ _ hr (by intro e; rw [e] at h9; cases h9)
  have h1 := hs.ev x
  rw [hx] at h1
  generalize he : a.eval x = v at h1
  cases h1 with
  | rp _ _ b off u _ hu hκ =>
    rw [nth_eq] at hd
    obtain ⟨vj, hv, hrep⟩ := hu.get hd
    refine ⟨vj, hrep, fun w' hb => ?_⟩
    have hc := hs.wld.imm _ _ _ (hκ j vj hv)
    have hc' : w'.cell? ⟨b, off + j, none⟩ = some vj := (hb.cell (World.block_lt_of_cell? w _ hc)).trans hc
    simp [execOp, ho, he, Instr.loadAt, Instr.sureAddr, run_loadVar_cell hok hk hc']
theorem q_ldra {x : Operand} {l m : List D} {j : Nat} (ho : o.op = .load T x) (hx : S.ev X x = .rp l j) (hr : nth X.Z.tab T = some r) (hk : (Nat.beq r.k 1 || Nat.beq r.k 2) = true)
    (h9 : Nat.beq r.k 9 = false) (hm : takeN r.sz (dropN j l) = some m) : QOp X o S (.agg m) := fun κ sv a w hs => by
  have hok := X.Z.tabOk _ _ hr (by intro e; rw [e] at h9; cases h9)
  have h1 := hs.ev x
  rw [hx] at h1
  generalize he : a.eval x = v at h1
  cases h1 with
  | rp _ _ b off u _ hu hκ =>
    obtain ⟨rfl, hl⟩ := takeN_eq hm
    rw [dropN_eq] at hl ⊢
    have hu' := (hu.drop j).take r.sz
    refine ⟨_, .agg _ _ hu', fun w' hb => ?_⟩
    have hlen : ((u.drop j).take r.sz).length = r.sz := by rw [hu'.length]; simp at hl ⊢; omega
    have hcell : ∀ i v, ((u.drop j).take r.sz)[i]? = some v → w'.cell? ⟨b, off + j + i, none⟩ = some v := by
      intro i v hi
      have : u[j + i]? = some v := by
        rw [List.getElem?_take] at hi
        split at hi
        · simpa using hi
        · cases hi
      have hc := hs.wld.imm _ _ _ (hκ _ v this)
      rw [Nat.add_assoc]
      exact (hb.cell (World.block_lt_of_cell? w _ hc)).trans hc
    simp [execOp, ho, he, Instr.loadAt, Instr.sureAddr, run_loadVar_agg hok hk hlen hcell]

/-- A load out of a box of the call's own. -/
theorem box_cells {κ : Nat → Nat → Option Value} {sv : Nat → Value} {a : Act} {w : World} (hs : Sim X κ sv S a w) {x : Operand} {s g j : Nat} {l : List D} (hx : S.ev X x = .bx s g j) (hg : S.γ s = g) (hσ : S.σ s = .box l) :
    ∃ b T cs, a.eval x = .pointer (some ⟨b, j, none⟩) ∧ sv s = .pointer (some ⟨b, 0, none⟩) ∧ w.heap[b]? = some (.cells (List.toArray cs) T (0, 0)) ∧ RepL κ S.γ sv l cs ∧ allCell l = true := by
  have h1 := hs.ev x
  rw [hx] at h1
  have h2 := hs.wld.own s
  rw [hσ] at h2
  obtain ⟨b, T, cs, e1, e2, e3, e4⟩ := h2
  generalize he : a.eval x = v at h1
  cases h1 with
  | bx _ _ _ _ _ hh _ =>
    obtain ⟨b', h3, h4⟩ := hh hg.symm
    rw [e1] at h3
    simp only [Value.pointer.injEq, Option.some.injEq, Addr.mk.injEq, and_true] at h3
    subst h3
    exact ⟨b, T, cs, h4, e1, e2, e3, e4⟩
theorem q_ldb {x : Operand} {s g j : Nat} {l : List D} {d : D} (ho : o.op = .load T x) (hx : S.ev X x = .bx s g j) (hr : nth X.Z.tab T = some r) (hk : (Nat.beq r.k 1 || Nat.beq r.k 2) = false)
    (h9 : Nat.beq r.k 9 = false) (hg : S.γ s = g) (hσ : S.σ s = .box l) (hd : nth l j = some d) : QOp X o S d := fun κ sv a w hs => by
  have hok := X.Z.tabOk _ _ hr (by intro e; rw [e] at h9; cases h9)
  obtain ⟨b, Tb, cs, he, _, hh, hrep, _⟩ := box_cells hs hx hg hσ
  rw [nth_eq] at hd
  obtain ⟨vj, hv, hrj⟩ := hrep.get hd
  refine ⟨vj, hrj, fun w' hb => ?_⟩
  have hh' : w'.heap[b]? = some (.cells (List.toArray cs) Tb (0, 0)) := by rw [hb.block b (Array.getElem?_eq_some_iff.1 hh).1]; exact hh
  have hc' : w'.cell? ⟨b, j, none⟩ = some vj := by rw [cell_of_row w' b j _ _ _ hh']; simpa using hv
  simp [execOp, ho, he, Instr.loadAt, Instr.sureAddr, run_loadVar_cell hok hk hc']
theorem q_ldba {x : Operand} {s g j : Nat} {l m : List D} (ho : o.op = .load T x) (hx : S.ev X x = .bx s g j) (hr : nth X.Z.tab T = some r) (hk : (Nat.beq r.k 1 || Nat.beq r.k 2) = true)
    (h9 : Nat.beq r.k 9 = false) (hg : S.γ s = g) (hσ : S.σ s = .box l) (hm : takeN r.sz (dropN j l) = some m) : QOp X o S (.agg m) := fun κ sv a w hs => by
  have hok := X.Z.tabOk _ _ hr (by intro e; rw [e] at h9; cases h9)
  obtain ⟨b, Tb, cs, he, _, hh, hrep, _⟩ := box_cells hs hx hg hσ
  obtain ⟨rfl, hl⟩ := takeN_eq hm
  rw [dropN_eq] at hl ⊢
  have hu' := (hrep.drop j).take r.sz
  refine ⟨_, .agg _ _ hu', fun w' hb => ?_⟩
  have hh' : w'.heap[b]? = some (.cells (List.toArray cs) Tb (0, 0)) := by rw [hb.block b (Array.getElem?_eq_some_iff.1 hh).1]; exact hh
  have hlen : ((cs.drop j).take r.sz).length = r.sz := by rw [hu'.length]; simp at hl ⊢; omega
  have hcell : ∀ i v, ((cs.drop j).take r.sz)[i]? = some v → w'.cell? ⟨b, j + i, none⟩ = some v := by
    intro i v hi
    rw [cell_of_row w' b _ _ _ _ hh']
    rw [List.getElem?_take] at hi
    split at hi
    · simpa using hi
    · cases hi
  simp [execOp, ho, he, Instr.loadAt, Instr.sureAddr, run_loadVar_agg hok hk hlen hcell]

/-- A load out of an element of a slice of the call's own. -/
theorem arr_cells {κ : Nat → Nat → Option Value} {sv : Nat → Value} {a : Act} {w : World} (hs : Sim X κ sv S a w) {x : Operand} {s g z i j : Nat} {E n : Nat} {f : Nat → List D} (hx : S.ev X x = .op s g z i j) (hg : S.γ s = g) (hσ : S.σ s = .arr E z n f) (hi : i < n) :
    ∃ b cap xs, a.eval x = .pointer (some ⟨b, i * z + j, none⟩) ∧ sv s = .slice (some ⟨b, 0, none⟩) n cap ∧ w.ownsRow X.w0.heap.size E z (sv s) n xs ∧ (f i).length = z ∧ allCell (f i) = true ∧ RepL κ S.γ sv (f i) ((xs.drop (i * z)).take z) ∧
      ∀ w', Below w.heap.size w w' → ∀ k v, k < z → xs[i * z + k]? = some v → w'.cell? ⟨b, i * z + k, none⟩ = some v := by
  have h1 := hs.ev x
  rw [hx] at h1
  have h2 := hs.wld.own s
  rw [hσ] at h2
  obtain ⟨xs, e1, e2, e3, e4⟩ := h2
  generalize he : a.eval x = v at h1
  cases h1 with
  | op _ _ _ _ _ _ _ hh _ =>
    obtain ⟨b, n', cap, h3, h4⟩ := hh hg.symm
    have e1' := e1
    obtain ⟨hlen, hor⟩ := e1'
    rcases hor with ⟨hv, hn⟩ | ⟨gb, cap', cur, hv, hbase, hheap, hnc, hcm, hsz, htake⟩
    · omega
    · rw [h3] at hv
      simp only [Value.slice.injEq, Option.some.injEq, Addr.mk.injEq, and_true] at hv
      obtain ⟨rfl, rfl, rfl⟩ := hv
      refine ⟨b, cap, xs, h4, h3, e1, e2 i hi, e3 i hi, e4 i hi, fun w' hb k v hk hv => ?_⟩
      have hh' : w'.heap[b]? = some (.cells cur E (0, 0)) := by rw [hb.block b (Array.getElem?_eq_some_iff.1 hheap).1]; exact hheap
      rw [cell_of_row w' b _ _ _ _ hh']
      rw [← htake, List.getElem?_take] at hv
      split at hv
      · simpa using hv
      · cases hv
theorem get_chunk {xs : List Value} {a z j : Nat} {v : Value} (h : ((xs.drop a).take z)[j]? = some v) : j < z ∧ xs[a + j]? = some v := by
  rw [List.getElem?_take] at h
  split at h
  · exact ⟨by assumption, by simpa using h⟩
  · cases h

theorem q_ldo {x : Operand} {s g z i j E n : Nat} {f : Nat → List D} {d : D} (ho : o.op = .load T x) (hx : S.ev X x = .op s g z i j) (hr : nth X.Z.tab T = some r) (hk : (Nat.beq r.k 1 || Nat.beq r.k 2) = false)
    (h9 : Nat.beq r.k 9 = false) (hg : S.γ s = g) (hσ : S.σ s = .arr E z n f) (hi : i < n) (hd : nth (f i) j = some d) : QOp X o S d := fun κ sv a w hs => by
  have hok := X.Z.tabOk _ _ hr (by intro e; rw [e] at h9; cases h9)
  obtain ⟨b, cap, xs, he, _, _, _, _, hrep, hc⟩ := arr_cells hs hx hg hσ hi
  rw [nth_eq] at hd
  obtain ⟨vj, hv, hrj⟩ := hrep.get hd
  obtain ⟨hj, hv'⟩ := get_chunk hv
  exact ⟨vj, hrj, fun w' hb => by simp [execOp, ho, he, Instr.loadAt, Instr.sureAddr, run_loadVar_cell hok hk (hc w' hb j vj hj hv')]⟩
theorem q_ldoa {x : Operand} {s g z i j E n : Nat} {f : Nat → List D} {m : List D} (ho : o.op = .load T x) (hx : S.ev X x = .op s g z i j) (hr : nth X.Z.tab T = some r) (hk : (Nat.beq r.k 1 || Nat.beq r.k 2) = true)
    (h9 : Nat.beq r.k 9 = false) (hg : S.γ s = g) (hσ : S.σ s = .arr E z n f) (hi : i < n) (hm : takeN r.sz (dropN j (f i)) = some m) : QOp X o S (.agg m) := fun κ sv a w hs => by
  have hok := X.Z.tabOk _ _ hr (by intro e; rw [e] at h9; cases h9)
  obtain ⟨b, cap, xs, he, _, _, hlz, _, hrep, hc⟩ := arr_cells hs hx hg hσ hi
  obtain ⟨rfl, hl⟩ := takeN_eq hm
  rw [dropN_eq] at hl ⊢
  have hu' := (hrep.drop j).take r.sz
  refine ⟨_, .agg _ _ hu', fun w' hb => ?_⟩
  have hlen : ((((xs.drop (i * z)).take z).drop j).take r.sz).length = r.sz := by rw [hu'.length]; simp at hl ⊢; omega
  have hcell : ∀ k v, ((((xs.drop (i * z)).take z).drop j).take r.sz)[k]? = some v → w'.cell? ⟨b, i * z + j + k, none⟩ = some v := by
    intro k v hk
    have h1 : ((xs.drop (i * z)).take z)[j + k]? = some v := by
      rw [List.getElem?_take] at hk
      split at hk
      · simpa using hk
      · cases hk
    obtain ⟨h2, h3⟩ := get_chunk h1
    rw [Nat.add_assoc]
    exact hc w' hb _ _ h2 h3
  simp [execOp, ho, he, Instr.loadAt, Instr.sureAddr, run_loadVar_agg hok hk hlen hcell]

/-- The address of a field. -/
theorem run_fieldAt {P : Program} {w : World} {f off fsz : Nat} {ag : Bool} (hok : rowOk P T r = true) (hk : Nat.beq r.k 1 = true) (hf : nth r.fl f = some (off, fsz, ag)) (hz : Nat.beq fsz 0 = false) (b o : Nat) :
    (Instr.fieldAt T (.pointer (some ⟨b, o, none⟩)) f).run P w = .ok (.pointer (some ⟨b, o + off, none⟩)) w := by
  obtain ⟨i, d, hi, hd, _, _, _, h4⟩ := row_info hok
  have hk1 := Nat.eq_of_beq_eq_true hk
  cases d <;> try (simp only at h4; omega)
  rename_i fs
  obtain ⟨_, hfl, hall⟩ := h4
  rw [nth_eq, ← hfl, List.getElem?_map] at hf
  cases hff : fs.toList[f]? with
  | none => rw [hff] at hf; cases hf
  | some fld =>
    rw [hff] at hf
    simp only [Option.map_some, Option.some.injEq, Prod.mk.injEq] at hf
    obtain ⟨h1, h2, _⟩ := hf
    have hsome := List.all_eq_true.1 hall fld (List.mem_of_getElem? hff)
    rw [Bool.and_eq_true] at hsome
    obtain ⟨fi, hfi⟩ := Option.isSome_iff_exists.1 hsome.1
    have hsz : fi.size ≠ 0 := by
      rw [cellsOf_eq hfi] at h2
      intro e; rw [← h2, e] at hz; cases hz
    have hff' : fs[f]? = some fld := by simpa using hff
    simp [Instr.fieldAt, run_underlying hd, hff', Instr.sureAddr, fieldPlace, run_sizeOf hfi, hsz, addr_add, h1]

theorem q_far {x : Operand} {f off fsz j : Nat} {ag : Bool} {l : List D} (ho : o.op = .fieldAddr T x f) (hx : S.ev X x = .rp l j) (hr : nth X.Z.tab T = some r) (hk : Nat.beq r.k 1 = true)
    (hf : nth r.fl f = some (off, fsz, ag)) (hz : Nat.beq fsz 0 = false) : QOp X o S (.rp l (j + off)) := fun κ sv a w hs => by
  have hok := X.Z.tabOk _ _ hr (by intro e; rw [e] at hk; cases hk)
  have h1 := hs.ev x
  rw [hx] at h1
  generalize he : a.eval x = v at h1
  cases h1 with
  | rp _ _ b bo u hc hu hκ =>
    refine ⟨.pointer (some ⟨b, bo + (j + off), none⟩), .rp l (j + off) b bo u hc hu hκ, fun w' _ => ?_⟩
    simp [execOp, ho, he, run_fieldAt hok hk hf hz, Nat.add_assoc]
theorem live_bx {κ : Nat → Nat → Option Value} {sv : Nat → Value} {a : Act} {w : World} (hs : Sim X κ sv S a w) {x : Operand} {s g j : Nat} (hx : S.ev X x = .bx s g j) (hg : S.γ s = g) :
    ∃ b, sv s = .pointer (some ⟨b, 0, none⟩) ∧ a.eval x = .pointer (some ⟨b, j, none⟩) := by
  have h1 := hs.ev x
  rw [hx] at h1
  generalize a.eval x = v at h1
  cases h1 with
  | bx _ _ _ _ _ hh _ => exact hh hg.symm
theorem live_op {κ : Nat → Nat → Option Value} {sv : Nat → Value} {a : Act} {w : World} (hs : Sim X κ sv S a w) {x : Operand} {s g z i j : Nat} (hx : S.ev X x = .op s g z i j) (hg : S.γ s = g) :
    ∃ b n cap, sv s = .slice (some ⟨b, 0, none⟩) n cap ∧ a.eval x = .pointer (some ⟨b, i * z + j, none⟩) := by
  have h1 := hs.ev x
  rw [hx] at h1
  generalize a.eval x = v at h1
  cases h1 with
  | op _ _ _ _ _ _ _ hh _ => exact hh hg.symm
theorem q_fab {x : Operand} {f off fsz s g j : Nat} {ag : Bool} (ho : o.op = .fieldAddr T x f) (hx : S.ev X x = .bx s g j) (hg : S.γ s = g) (hr : nth X.Z.tab T = some r) (hk : Nat.beq r.k 1 = true)
    (hf : nth r.fl f = some (off, fsz, ag)) (hz : Nat.beq fsz 0 = false) : QOp X o S (.bx s g (j + off)) := fun κ sv a w hs => by
  have hok := X.Z.tabOk _ _ hr (by intro e; rw [e] at hk; cases hk)
  obtain ⟨b, h1, h2⟩ := live_bx hs hx hg
  exact ⟨.pointer (some ⟨b, j + off, none⟩), .bx _ _ _ _ (by omega) (fun _ => ⟨b, h1, rfl⟩) rfl, fun w' _ => by simp [execOp, ho, h2, run_fieldAt hok hk hf hz]⟩
theorem q_fao {x : Operand} {f off fsz s g z i j : Nat} {ag : Bool} (ho : o.op = .fieldAddr T x f) (hx : S.ev X x = .op s g z i j) (hg : S.γ s = g) (hr : nth X.Z.tab T = some r) (hk : Nat.beq r.k 1 = true)
    (hf : nth r.fl f = some (off, fsz, ag)) (hz : Nat.beq fsz 0 = false) : QOp X o S (.op s g z i (j + off)) := fun κ sv a w hs => by
  have hok := X.Z.tabOk _ _ hr (by intro e; rw [e] at hk; cases hk)
  obtain ⟨b, n, cap, h1, h2⟩ := live_op hs hx hg
  exact ⟨.pointer (some ⟨b, i * z + (j + off), none⟩), .op _ _ _ _ _ _ (by omega) (fun _ => ⟨b, n, cap, h1, rfl⟩) rfl, fun w' _ => by simp [execOp, ho, h2, run_fieldAt hok hk hf hz, Nat.add_assoc]⟩

/-- The address of an element. -/
theorem slice_row {P : Program} (hok : rowOk P T r = true) (hk : Nat.beq r.k 3 = true) : P.underlying T = some (.slice r.el) := by
  obtain ⟨i, d, hi, hd, _, _, _, h4⟩ := row_info hok
  have hk1 := Nat.eq_of_beq_eq_true hk
  cases d <;> try (simp only at h4; omega)
  rw [hd, h4.2]
theorem run_size_row {P : Program} {w : World} {e : TypeId} {q : TRow} (hok : rowOk P e q = true) : (sizeOf e).run P w = .ok q.sz w := by
  obtain ⟨i, d, hi, hd, h1, _⟩ := row_info hok
  rw [run_sizeOf hi, h1]
theorem q_ia {x y : Operand} {z n : Nat} {f : Nat → List D} {k : Int} {q : TRow} (ho : o.op = .indexAddr T x y) (hx : S.ev X x = .sl z n f) (hy : S.ev X y = .int .i64 k) (h0 : 0 ≤ k) (h1 : k < n)
    (hr : nth X.Z.tab T = some r) (hk : Nat.beq r.k 3 = true) (hq : nth X.Z.tab r.el = some q) (hq9 : Nat.beq q.k 9 = false) (hz : q.sz = z) : QOp X o S (.rp (f k.toNat) 0) := fun κ sv a w hs => by
  have hok := X.Z.tabOk _ _ hr (by intro e; rw [e] at hk; cases hk)
  have hokq := X.Z.tabOk _ _ hq (by intro e; rw [e] at hq9; cases hq9)
  have hyv := rep_int (hy ▸ hs.ev y)
  have hxv := hs.ev x
  rw [hx] at hxv
  generalize he : a.eval x = v at hxv
  cases hxv with
  | sl0 => omega
  | slE => omega
  | sl _ _ _ b off cap u hnc hl hac hu hκ =>
    have hlt : k.toNat < n := by omega
    refine ⟨.pointer (some ⟨b, off + k.toNat * z, none⟩), ?_, fun w' _ => ?_⟩
    · have := Rep.rp (f k.toNat) 0 b (off + k.toNat * z) (u k.toNat) (hac _ hlt) (hu _ hlt) (fun j v hj => hκ _ j v hlt hj)
      simpa using this
    · simp [execOp, ho, he, hyv, Instr.indexAt, asIntOf, run_underlying (slice_row hok hk), h0, h1, run_size_row hokq, addr_add, hz]
theorem q_iao {x y : Operand} {s g E z n : Nat} {f : Nat → List D} {k : Int} {q : TRow} (ho : o.op = .indexAddr T x y) (hx : S.ev X x = .os s g) (hg : S.γ s = g) (hσ : S.σ s = .arr E z n f) (hy : S.ev X y = .int .i64 k) (h0 : 0 ≤ k) (h1 : k < n)
    (hr : nth X.Z.tab T = some r) (hk : Nat.beq r.k 3 = true) (hq : nth X.Z.tab r.el = some q) (hq9 : Nat.beq q.k 9 = false) (hz : q.sz = z) : QOp X o S (.op s g z k.toNat 0) := fun κ sv a w hs => by
  have hok := X.Z.tabOk _ _ hr (by intro e; rw [e] at hk; cases hk)
  have hokq := X.Z.tabOk _ _ hq (by intro e; rw [e] at hq9; cases hq9)
  have hyv := rep_int (hy ▸ hs.ev y)
  have hxv := hs.ev x
  rw [hx] at hxv
  have hown := hs.wld.own s
  rw [hσ] at hown
  obtain ⟨xs, e1, _⟩ := hown
  generalize he : a.eval x = v at hxv
  cases hxv with
  | os _ _ _ _ hh _ =>
    have hv := hh hg.symm
    obtain ⟨hlen, hor⟩ := e1
    rcases hor with ⟨hv', hn⟩ | ⟨b, cap, cur, hv', _⟩
    · omega
    · rw [hv'] at hv
      refine ⟨.pointer (some ⟨b, k.toNat * z, none⟩), .op _ _ _ _ _ _ (by omega) (fun _ => ⟨b, n, cap, hv', by simp⟩) rfl, fun w' _ => ?_⟩
      simp [execOp, ho, he, hv, hyv, Instr.indexAt, asIntOf, run_underlying (slice_row hok hk), h0, h1, run_size_row hokq, addr_add, hz]

theorem q_len {x : Operand} {z n : Nat} {f : Nat → List D} {ts : Array TypeId} (ho : o.op = .call { callee := .builtin .len, args := #[x], argTypes := ts }) (hT : ts[0]? = some T) (hx : S.ev X x = .sl z n f)
    (hr : nth X.Z.tab T = some r) (hk : Nat.beq r.k 3 = true) : QOp X o S (.int .i64 n) := fun κ sv a w hs => by
  have hok := X.Z.tabOk _ _ hr (by intro e; rw [e] at hk; cases hk)
  have hxv := hs.ev x
  rw [hx] at hxv
  refine ⟨.int .i64 n, .int _ _, fun w' _ => ?_⟩
  have key : ∃ b cap, a.eval x = .slice b n cap := by
    generalize a.eval x = v at hxv
    cases hxv with
    | sl0 => exact ⟨_, _, rfl⟩
    | slE => exact ⟨_, _, rfl⟩
    | sl => exact ⟨_, _, rfl⟩
  obtain ⟨b, cap, he⟩ := key
  simp [execOp, ho, resolve, invoke, builtin, Builtin.len_, hT, he, run_underlying (slice_row hok hk), goInt]
theorem q_len0 {x : Operand} {ts : Array TypeId} (ho : o.op = .call { callee := .builtin .len, args := #[x], argTypes := ts }) (hT : ts[0]? = some T) (hx : S.ev X x = .nil)
    (hr : nth X.Z.tab T = some r) (hk : Nat.beq r.k 3 = true) : QOp X o S (.int .i64 0) := fun κ sv a w hs => by
  have hok := X.Z.tabOk _ _ hr (by intro e; rw [e] at hk; cases hk)
  have hxv := hs.ev x
  rw [hx] at hxv
  refine ⟨.int .i64 0, .int _ _, fun w' _ => ?_⟩
  have he : a.eval x = .slice none 0 0 := by generalize a.eval x = v at hxv; cases hxv; rfl
  simp [execOp, ho, resolve, invoke, builtin, Builtin.len_, hT, he, run_underlying (slice_row hok hk), goInt]
theorem q_leno {x : Operand} {s g E z n : Nat} {f : Nat → List D} {ts : Array TypeId} (ho : o.op = .call { callee := .builtin .len, args := #[x], argTypes := ts }) (hT : ts[0]? = some T) (hx : S.ev X x = .os s g) (hg : S.γ s = g) (hσ : S.σ s = .arr E z n f)
    (hr : nth X.Z.tab T = some r) (hk : Nat.beq r.k 3 = true) : QOp X o S (.int .i64 n) := fun κ sv a w hs => by
  have hok := X.Z.tabOk _ _ hr (by intro e; rw [e] at hk; cases hk)
  have hxv := hs.ev x
  rw [hx] at hxv
  have hown := hs.wld.own s
  rw [hσ] at hown
  obtain ⟨xs, e1, _⟩ := hown
  have key : ∃ b cap, a.eval x = .slice b n cap := by
    generalize a.eval x = v at hxv
    cases hxv with
    | os _ _ _ _ hh _ =>
      have hv := hh hg.symm
      obtain ⟨hlen, hor⟩ := e1
      rcases hor with ⟨hv', hn⟩ | ⟨b, cap, cur, hv', _⟩
      · exact ⟨none, 0, by rw [hv, hv', hn]⟩
      · exact ⟨_, cap, by rw [hv, hv']⟩
  obtain ⟨b, cap, he⟩ := key
  exact ⟨.int .i64 n, .int _ _, fun w' _ => by simp [execOp, ho, resolve, invoke, builtin, Builtin.len_, hT, he, run_underlying (slice_row hok hk), goInt]⟩
end
end Go.Ab
