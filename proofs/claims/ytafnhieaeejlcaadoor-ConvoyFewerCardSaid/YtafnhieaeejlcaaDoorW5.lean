/- Walks by computing: what each function of the program that the laws reach gives for what it gets, as plain Lean, and that it is so; without a condition but those that stand in each theorem. -/
import Derived.Test.YtafnhieaeejlcaaDoorW1
import Derived.Test.YtafnhieaeejlcaaDoorW2
import Derived.Test.YtafnhieaeejlcaaDoorW3
import Derived.Test.YtafnhieaeejlcaaDoorW4
set_option linter.all false
namespace Go.Ab
open Go Go.RowKit
theorem blk_arr {E z n E' z' n' : Nat} {f f' : Nat → List D} (v : Value) : blk (.arr E z n f) v = blk (.arr E' z' n' f') v := by
  cases v with
  | pointer a => cases a <;> rfl
  | slice a _ _ => cases a <;> rfl
  | _ => rfl
def bndv (v : Option Value) (i d : Nat) : Prop := (v = none ∧ i = d) ∨ v = some (.int .i64 i)
theorem run_sliceAt {P : Program} {w : World} {T e : TypeId} {q : TRow} (hu : P.underlying T = some (.slice e)) (hq : rowOk P e q = true) {a : Option Addr} {len cap : Nat} {lo hi : Option Value} {i j : Nat}
    (hlo : bndv lo i 0) (hhi : bndv hi j len) (hij : i ≤ j) (hjc : j ≤ cap) :
    (Instr.sliceAt T (.slice a len cap) lo hi none).run P w = .ok (.slice (if cap = i then a else a.map (·.add (i * q.sz))) (j - i) (cap - i)) w := by
  rcases hlo with ⟨rfl, rfl⟩ | rfl <;> rcases hhi with ⟨rfl, rfl⟩ | rfl <;>
    simp [Instr.sliceAt, Instr.slice, Instr.sliceBounds, Instr.sliceBound, asIntOf, run_underlying hu, run_size_row hq, hij, hjc]
section
variable {X : Ctx} {o : Oper} {S : St} {x : Operand}
def bndd (X : Ctx) (S : St) (v : Option Operand) (i d : Nat) : Prop := (v = none ∧ i = d) ∨ ∃ y, v = some y ∧ S.ev X y = .int .i64 i
theorem bndd.v {κ : Nat → Nat → Option Value} {sv : Nat → Value} {a : Act} {w : World} (hs : Sim X κ sv S a w) {v : Option Operand} {i d : Nat} (h : bndd X S v i d) : bndv (v.map a.eval) i d := by
  rcases h with ⟨rfl, rfl⟩ | ⟨y, rfl, hy⟩
  · exact .inl ⟨rfl, rfl⟩
  · exact .inr (by simp [ev_int hs hy])
theorem q_slF {T : TypeId} {r q : TRow} {z n i j : Nat} {f f' : Nat → List D} {lo hi : Option Operand} (ho : o.op = .slice T x lo hi none) (hx : S.ev X x = .sl z n f)
    (hlo : bndd X S lo i 0) (hhi : bndd X S hi j n) (hij : i ≤ j) (hjn : j ≤ n)
    (hr : nth X.Z.tab T = some r) (hk : Nat.beq r.k 3 = true) (hq : nth X.Z.tab r.el = some q) (hq9 : Nat.beq q.k 9 = false) (hz : q.sz = z) (hf : ∀ k, k < j - i → f' k = f (i + k)) :
    QOp X o S (.sl z (j - i) f') := fun κ sv a w hs => by
  have hokr := X.Z.tabOk _ _ hr (by intro e; rw [e] at hk; cases hk)
  have hokq := X.Z.tabOk _ _ hq (by intro e; rw [e] at hq9; cases hq9)
  have hu := slice_row hokr hk
  have hxv := hs.ev x
  rw [hx] at hxv
  have key : ∀ (b : Option Addr) (cap : Nat), a.eval x = .slice b n cap → n ≤ cap → ∀ w', (execOp a.eval o).run X.Z.P w' = .ok (.value (.slice (if cap = i then b else b.map (·.add (i * q.sz))) (j - i) (cap - i))) w' := fun b cap he hnc w' => by
    have := run_sliceAt (P := X.Z.P) (w := w') (a := b) (len := n) (cap := cap) hu hokq (hlo.v hs) (hhi.v hs) hij (by omega)
    simp only [execOp, ho, he, Option.map_none]
    simp [this]
  generalize he : a.eval x = v at hxv
  cases hxv with
  | sl _ _ _ b off cap u hnc h1 h2 h3 h4 =>
    refine ⟨_, ?_, fun w' _ => key _ _ he hnc w'⟩
    by_cases hci : cap = i
    · have : j - i = 0 := by omega
      simp only [if_pos hci]
      rw [this]
      exact .slE _ _ _ _
    · simp only [if_neg hci, Option.map_some, addr_add]
      subst hz
      refine .sl _ _ _ b (off + i * q.sz) (cap - i) (fun k => u (i + k)) (by omega) (fun k hk => by rw [hf k hk]; exact h1 _ (by omega)) (fun k hk => by rw [hf k hk]; exact h2 _ (by omega)) (fun k hk => by rw [hf k hk]; exact h3 _ (by omega)) (fun k m v hk hm => ?_)
      have := h4 (i + k) m v (by omega) hm
      rw [Nat.add_mul] at this
      rw [← this]; congr 1; omega
  | sl0 =>
    have hj : j = 0 := by omega
    have hi : i = 0 := by omega
    subst hj hi
    exact ⟨_, .sl0 _ _, fun w' _ => key _ _ he (Nat.le_refl _) w'⟩
  | slE _ _ ad cap =>
    have hj : j = 0 := by omega
    have hi : i = 0 := by omega
    subst hj hi
    refine ⟨_, ?_, fun w' _ => key _ _ he (Nat.zero_le _) w'⟩
    split
    · exact .slE _ _ _ _
    · exact .slE _ _ _ _
theorem n_slO {T E : TypeId} {r q : TRow} {s g z n i j t n' : Nat} {f f' : Nat → List D} {lo hi : Option Operand} (ho : o.op = .slice T x lo hi none) (hd : o.dst = some t) (hx : S.ev X x = .os s g) (hg : S.γ s = g) (hσ : S.σ s = .arr E z n f)
    (hlo : bndd X S lo i 0) (hhi : bndd X S hi j n) (hij : i ≤ j) (hjn : j ≤ n)
    (hr : nth X.Z.tab T = some r) (hk : Nat.beq r.k 3 = true) (hE : r.el = E) (hq : nth X.Z.tab E = some q) (hq9 : Nat.beq q.k 9 = false) (hz : q.sz = z) (hn' : n' = j - i) (hf : ∀ k, k < j - i → f' k = f (i + k)) :
    NOp X o S (S.owned t s (.arr E z n' f')) := fun κ sv a w hs => by
  subst hn' hz hE
  have hokr := X.Z.tabOk _ _ hr (by intro e; rw [e] at hk; cases hk)
  have hokq := X.Z.tabOk _ _ hq (by intro e; rw [e] at hq9; cases hq9)
  have hu := slice_row hokr hk
  have hown0 := hs.wld.own s
  rw [hσ] at hown0
  obtain ⟨xs, hown, hfl, hfc, hfr⟩ := hown0
  have hxv := hs.ev x
  rw [hx] at hxv
  have hxe : a.eval x = sv s := by
    generalize a.eval x = v at hxv
    cases hxv with
    | os _ _ _ _ hh _ => exact hh hg.symm
  have key : ∀ (b : Option Addr) (cap : Nat), sv s = .slice b n cap → n ≤ cap → (execOp a.eval o).run X.Z.P w = .ok (.value (.slice (if cap = i then b else b.map (·.add (i * q.sz))) (j - i) (cap - i))) w := fun b cap he hnc => by
    have := run_sliceAt (P := X.Z.P) (w := w) (a := b) (len := n) (cap := cap) hu hokq (hlo.v hs) (hhi.v hs) hij (by omega)
    simp only [execOp, ho, hxe, he, Option.map_none]
    simp [this]
  have hdj : ∀ (k : Nat), k < j - i → ((xs.drop (i * q.sz)).take ((j - i) * q.sz) |>.drop (k * q.sz)).take q.sz = (xs.drop ((i + k) * q.sz)).take q.sz := fun k hk => by
    have h1 : k * q.sz + q.sz ≤ (j - i) * q.sz := by have := Nat.mul_le_mul_right q.sz (show k + 1 ≤ j - i by omega); rw [Nat.add_mul] at this; omega
    rw [List.drop_take, List.take_take, Nat.min_eq_left (by omega), List.drop_drop, Nat.add_mul]
  have hfin : ∀ pv : Value, pv.oneCell' = true → (∀ b, blk (S.σ s) pv = some b → blk (S.σ s) (sv s) = some b) → ownsAt w X.w0.heap.size r.el q.sz pv (j - i) ((xs.drop (i * q.sz)).take ((j - i) * q.sz)) →
      (execOp a.eval o).run X.Z.P w = .ok (.value pv) w →
      ∃ v w' κ' sv', ((execOp a.eval o).run X.Z.P w = .ok (.value v) w' ∨ ((execOp a.eval o).run X.Z.P w = .ok .skip w' ∧ v = Go.undef)) ∧ Sim X κ' sv' (S.owned t s (.arr r.el q.sz (j - i) f')) (a.put o.dst v) w' := fun pv h1c hb hO hrun => by
    rw [hd]
    refine ⟨pv, w, κ, upd sv s pv, .inl hrun, sim_owned hs t s (pv := pv) h1c (below_grown (Below.refl _ _) _) (fun b hb' => .inr (hb b (by rw [hσ]; rw [blk_arr] at hb'; exact hb'))) ?_⟩
    refine ⟨_, by rw [upd_same]; exact hO, fun k hk => by rw [hf k hk]; exact hfl _ (by omega), fun k hk => by rw [hf k hk]; exact hfc _ (by omega), fun k hk => ?_⟩
    rw [hf k hk, hdj k hk]
    exact (hfr (i + k) (by omega)).mono (le_renew κ S.γ sv s pv)
  rcases hown.2 with ⟨hv, hn⟩ | ⟨b, off, cap, cur, hv, hbase, hh, hnc, hcm, hcs, htake⟩
  · have hj : j = 0 := by omega
    have hi : i = 0 := by omega
    subst hj hi
    refine hfin _ rfl (fun b hb => ?_) ⟨by simp, .inl ⟨rfl, rfl⟩⟩ (by have := key none 0 (by rw [hv, hn]) (by omega); simpa using this)
    rw [hσ] at hb; cases hb
  · refine hfin _ ?_ ?_ ?_ (key _ _ hv hnc)
    · simp only [Option.map_some]; split <;> rfl
    · intro b' hb'
      rw [hσ] at hb' ⊢
      rw [hv]
      simp only [Option.map_some, addr_add] at hb'
      split at hb' <;> exact hb'
    · have hxl := hown.1
      have hin : i * q.sz ≤ n * q.sz := Nat.mul_le_mul_right _ (by omega)
      have hjn' : i * q.sz + (j - i) * q.sz ≤ n * q.sz := by rw [← Nat.add_mul]; exact Nat.mul_le_mul_right _ (by omega)
      refine ⟨by simp; omega, .inr ?_⟩
      by_cases hci : cap = i
      · have h0 : j - i = 0 := by omega
        rw [if_pos hci, h0]
        exact ⟨b, off, cap - i, cur, rfl, hbase, hh, by omega, by omega, by rw [show cap - i = 0 by omega]; omega, by simp⟩
      · rw [if_neg hci]
        simp only [Option.map_some, addr_add]
        refine ⟨b, off + i * q.sz, cap - i, cur, rfl, hbase, hh, by omega, by omega, ?_, ?_⟩
        · have : i * q.sz + (cap - i) * q.sz = cap * q.sz := by rw [← Nat.add_mul]; congr 1; omega
          omega
        · rw [← htake, List.drop_take, List.take_take, List.drop_drop, Nat.min_eq_left (by omega)]
end
end Go.Ab
namespace Go.Ab
open Go Go.RowKit
section
variable {X : Ctx} {o : Oper} {S : St} {x y : Operand} {T T2 : TypeId}
theorem run_loadVar_one {P : Program} {t : TypeId} {d : TypeDesc} {w : World} (hd : P.underlying t = some d) (ha : aggOf P t = false) {a : Addr} {v : Value} (h : w.cell? a = some v) : (loadVar t a).run P w = .ok v w := by
  simp [loadVar, run_isAgg hd, ha, h]
theorem q_ldrf {l : List D} {j : Nat} {d : D} {td : TypeDesc} (ho : o.op = .load T x) (hx : S.ev X x = .rp l j) (hu : X.Z.P.underlying T = some td) (ha : aggOf X.Z.P T = false) (hd : nth l j = some d) : QOp X o S d := fun κ sv a w hs => by
  have h1 := hs.ev x
  rw [hx] at h1
  generalize he : a.eval x = v at h1
  cases h1 with
  | rp _ _ b off u _ hu' hκ =>
    rw [nth_eq] at hd
    obtain ⟨vj, hv, hrep⟩ := hu'.get hd
    refine ⟨vj, hrep, fun w' hb => ?_⟩
    have hc := hs.wld.imm _ _ _ (hκ j vj hv)
    have hc' : w'.cell? ⟨b, off + j, none⟩ = some vj := (hb.cell (World.block_lt_of_cell? w _ hc)).trans hc
    simp [execOp, ho, he, Instr.loadAt, Instr.sureAddr, run_loadVar_one hu ha hc']
theorem q_ldbf {s g j : Nat} {l : List D} {d : D} {td : TypeDesc} (ho : o.op = .load T x) (hx : S.ev X x = .bx s g j) (hu : X.Z.P.underlying T = some td) (ha : aggOf X.Z.P T = false)
    (hg : S.γ s = g) (hσ : S.σ s = .box l) (hd : nth l j = some d) : QOp X o S d := fun κ sv a w hs => by
  obtain ⟨b, Tb, cs, he, _, hh, hrep, _⟩ := box_cells hs hx hg hσ
  rw [nth_eq] at hd
  obtain ⟨vj, hv, hrj⟩ := hrep.get hd
  refine ⟨vj, hrj, fun w' hb => ?_⟩
  have hh' : w'.heap[b]? = some (.cells (List.toArray cs) Tb (0, 0)) := by rw [hb.block b (Array.getElem?_eq_some_iff.1 hh).1]; exact hh
  have hc' : w'.cell? ⟨b, j, none⟩ = some vj := by rw [cell_of_row w' b j _ _ _ hh']; simpa using hv
  simp [execOp, ho, he, Instr.loadAt, Instr.sureAddr, run_loadVar_one hu ha hc']
theorem q_lenS {s : ByteArray} {ts : Array TypeId} (ho : o.op = .call { callee := .builtin .len, args := #[x], argTypes := ts }) (hT : ts[0]? = some T) (hx : S.ev X x = .str s)
    (hu : X.Z.P.underlying T = some .string) : QOp X o S (.int .i64 s.size) := fun κ sv a w hs =>
  ⟨.int .i64 s.size, .int _ _, fun w' _ => by simp [execOp, ho, resolve, invoke, builtin, Builtin.len_, hT, ev_str hs hx, run_underlying hu, goInt]⟩
theorem q_idxS {s : ByteArray} {i : Int} {b : UInt8} (ho : o.op = .index T x y) (hx : S.ev X x = .str s) (hy : S.ev X y = .int .i64 i) (hu : X.Z.P.underlying T = some .string) (h0 : 0 ≤ i) (hb : s[i.toNat]? = some b) :
    QOp X o S (.int .u8 b.toNat) := fun κ sv a w hs =>
  ⟨.int .u8 b.toNat, .int _ _, fun w' _ => by simp [execOp, ho, ev_str hs hx, ev_int hs hy, Instr.index, asIntOf, run_underlying hu, h0, hb]⟩
theorem q_eqS {s t : ByteArray} (ho : o.op = .binOp .eql T x y T2) (hx : S.ev X x = .str s) (hy : S.ev X y = .str t) : QOp X o S (.bool (s.toList == t.toList)) := fun κ sv a w hs =>
  ⟨.bool (s.toList == t.toList), .bool _, fun w' _ => by simp [execOp, ho, ev_str hs hx, ev_str hs hy, eqGuard, binOp, Op.stringOp]⟩
theorem q_neS {s t : ByteArray} (ho : o.op = .binOp .neq T x y T2) (hx : S.ev X x = .str s) (hy : S.ev X y = .str t) : QOp X o S (.bool (!(s.toList == t.toList))) := fun κ sv a w hs =>
  ⟨.bool (!(s.toList == t.toList)), .bool _, fun w' _ => by simp [execOp, ho, ev_str hs hx, ev_str hs hy, eqGuard, binOp, Op.stringOp]⟩
end
section
variable {X : Ctx} {o : Oper} {S : St} {x y : Operand} {T T2 : TypeId}
theorem run_copy_zero {P : Program} {w : World} {ty E : TypeId} {q : TRow} (hu : P.underlying T = some (.slice E)) (hq : rowOk P E q = true) {d a : Option Addr} {n m c c' : Nat} (h0 : Nat.min m n = 0) :
    (Builtin.copy_ #[T, T2] ty #[.slice d n c, .slice a m c']).run P w = .ok (goInt 0) w := by
  have hl : ∀ (x : Addr), (loadCells x 0).run P w = .ok #[] w := fun x => by simpa using run_loadCells_list (P := P) w x [] (by simp)
  cases d <;> cases a <;> simp [Builtin.copy_, run_underlying hu, Builtin.lenOf, Builtin.firstCells, run_size_row hq, h0, storeCells, hl]
theorem run_copy_some {P : Program} {w : World} {ty E : TypeId} {q : TRow} (hu : P.underlying T = some (.slice E)) (hq : rowOk P E q = true) {g off n m c c' k : Nat} {ad : Addr} {cur : Array Value} {news : List Value} {e : TypeId} (hk : Nat.min m n = k)
    (hg : w.heap[g]? = some (.cells cur e (0, 0))) (hl : news.length = k * q.sz) (hn : ∀ j v, news[j]? = some v → w.cell? (ad.add j) = some v) (h1 : ∀ v ∈ news, v.oneCell' = true) (hfit : off + news.length ≤ cur.size) :
    (Builtin.copy_ #[T, T2] ty #[.slice (some ⟨g, off, none⟩) n c, .slice (some ad) m c']).run P w = .ok (goInt k) (w.setRow g (cur.toList.take off ++ news ++ cur.toList.drop (off + news.length)).toArray) := by
  have hld := run_loadCells_list (P := P) w ad news hn
  rw [hl] at hld
  have hst := run_storeCells_at P g off e news 0 cur w hg (by simpa using hfit) h1
  simp only [Nat.add_zero] at hst
  simp [Builtin.copy_, run_underlying hu, Builtin.lenOf, Builtin.firstCells, run_size_row hq, hk, hld, hst]
theorem n_copy {r q : TRow} {s g z n m t k : Nat} {E : TypeId} {f h f' : Nat → List D} {ts : Array TypeId} (ho : o.op = .call { callee := .builtin .copy, args := #[x, y], argTypes := ts }) (hts : ts = #[T, T2]) (hd : o.dst = some t)
    (hx : S.ev X x = .os s g) (hg : S.γ s = g) (hσ : S.σ s = .arr E z n f) (hy : S.ev X y = .sl z m h)
    (hr : nth X.Z.tab T = some r) (hk : Nat.beq r.k 3 = true) (hE : r.el = E) (hq : nth X.Z.tab E = some q) (hq9 : Nat.beq q.k 9 = false) (hz : q.sz = z) (hz0 : Nat.beq z 0 = false)
    (hkk : Nat.min m n = k) (h1 : ∀ i, i < k → f' i = h i) (h2 : ∀ i, k ≤ i → i < n → f' i = f i) :
    NOp X o S ⟨upd S.ρ t (.int .i64 k), S.γ, upd S.σ s (.arr E z n f')⟩ := fun κ sv a w hs => by
  subst hts hE hz
  have hokr := X.Z.tabOk _ _ hr (by intro e; rw [e] at hk; cases hk)
  have hokq := X.Z.tabOk _ _ hq (by intro e; rw [e] at hq9; cases hq9)
  have hu := slice_row hokr hk
  have hown0 := hs.wld.own s
  rw [hσ] at hown0
  obtain ⟨xs, hown, hfl, hfc, hfr⟩ := hown0
  have hxv := hs.ev x
  rw [hx] at hxv
  have hxe : a.eval x = sv s := by
    generalize a.eval x = v at hxv
    cases hxv with
    | os _ _ _ _ hh _ => exact hh hg.symm
  have hyv := hs.ev y
  rw [hy] at hyv
  have hz1 : 0 < q.sz := by
    cases hzz : q.sz with
    | zero => rw [hzz] at hz0; cases hz0
    | succ => omega
  have hkm : k ≤ m := hkk ▸ Nat.min_le_left _ _
  have hkn : k ≤ n := hkk ▸ Nat.min_le_right _ _
  have hfin : ∀ (w' : World) (xs' : List Value), (Builtin.copy_ #[T, T2] o.type #[a.eval x, a.eval y]).run X.Z.P w = .ok (goInt k) w' → w.grownBy w' (blk (S.σ s) (sv s)) → ownsAt w' X.w0.heap.size r.el q.sz (sv s) n xs' →
      (∀ i, i < n → (f' i).length = q.sz) → (∀ i, i < n → allCell (f' i) = true) → (∀ i, i < n → RepL κ S.γ sv (f' i) ((xs'.drop (i * q.sz)).take q.sz)) →
      ∃ v w' κ' sv', ((execOp a.eval o).run X.Z.P w = .ok (.value v) w' ∨ ((execOp a.eval o).run X.Z.P w = .ok .skip w' ∧ v = Go.undef)) ∧ Sim X κ' sv' ⟨upd S.ρ t (.int .i64 k), S.γ, upd S.σ s (.arr r.el q.sz n f')⟩ (a.put o.dst v) w' := fun w' xs' hrun hgr ho' e2 e3 e4 => by
    have hW := hs.wld.rewrite s (.arr r.el q.sz n f') hgr (by rw [hσ]; exact blk_arr _) ⟨xs', ho', e2, e3, e4⟩ S.ρ
    have hS : Sim X κ sv ⟨S.ρ, S.γ, upd S.σ s (.arr r.el q.sz n f')⟩ a w' := ⟨hs.size, dfr_own hs s hgr, hs.slot, hW⟩
    rw [hd]
    refine ⟨.int .i64 k, w', κ, sv, .inl ?_, hS.put (some t) (.int _ _)⟩
    simp [execOp, ho, resolve, invoke, builtin, hrun, goInt]
  have hzero : ∀ (b : Option Addr) (cap : Nat), a.eval y = .slice b m cap → k = 0 → ∃ v w' κ' sv', ((execOp a.eval o).run X.Z.P w = .ok (.value v) w' ∨ ((execOp a.eval o).run X.Z.P w = .ok .skip w' ∧ v = Go.undef)) ∧ Sim X κ' sv' ⟨upd S.ρ t (.int .i64 k), S.γ, upd S.σ s (.arr r.el q.sz n f')⟩ (a.put o.dst v) w' := fun b cap hye h0 => by
    refine hfin w xs ?_ (below_grown (Below.refl _ _) _) hown (fun i hi => by rw [h2 i (by omega) hi]; exact hfl i hi) (fun i hi => by rw [h2 i (by omega) hi]; exact hfc i hi) (fun i hi => by rw [h2 i (by omega) hi]; exact hfr i hi)
    rw [hye, hxe, h0]
    rcases hown.2 with ⟨hv, _⟩ | ⟨g', off, cap', cur, hv, _⟩
    · rw [hv]; have := run_copy_zero (T2 := T2) (w := w) (ty := o.type) (d := none) (a := b) (n := 0) (m := m) (c := 0) (c' := cap) hu hokq (by simp)
      exact this
    · rw [hv]; exact run_copy_zero hu hokq (by rw [hkk, h0])
  generalize hye : a.eval y = v at hyv
  cases hyv with
  | sl0 => exact hzero _ _ hye (by omega)
  | slE => exact hzero _ _ hye (by omega)
  | sl _ _ _ b off cap u hmc hlz hac hul hκ =>
    by_cases hk0 : k = 0
    · exact hzero _ _ hye hk0
    have hulen : ∀ i, i < k → (u i).length = q.sz := fun i hi => by rw [(hul i (by omega)).length, hlz i (by omega)]
    have hnl : (((List.range k).map u).flatten).length = k * q.sz := by
      rw [flat_len _ (z := q.sz) (fun c hc => by
        obtain ⟨j, hj, rfl⟩ := List.mem_map.1 hc
        exact hulen j (by simpa using hj))]
      simp
    have hcellat : ∀ j v, (((List.range k).map u).flatten)[j]? = some v → ∃ i l, i < k ∧ l < q.sz ∧ j = i * q.sz + l ∧ (u i)[l]? = some v := by
      intro j v hj
      have hjl := (List.getElem?_eq_some_iff.1 hj).1
      rw [hnl] at hjl
      have hl : j % q.sz < q.sz := Nat.mod_lt _ hz1
      have hi : j / q.sz < k := (Nat.div_lt_iff_lt_mul hz1).2 hjl
      have e : j = j / q.sz * q.sz + j % q.sz := by rw [Nat.mul_comm]; exact (Nat.div_add_mod j q.sz).symm
      refine ⟨j / q.sz, j % q.sz, hi, hl, e, ?_⟩
      rw [e, flat_at _ (z := q.sz) (fun c hc => by
        obtain ⟨i, hi, rfl⟩ := List.mem_map.1 hc
        exact hulen i (by simpa using hi)) _ _ hl] at hj
      simpa [hi] using hj
    have hxl := hown.1
    have hknz : k * q.sz ≤ n * q.sz := Nat.mul_le_mul_right _ hkn
    rcases hown.2 with ⟨hv, hn0⟩ | ⟨g', off', cap', cur, hv, hbase, hheap, hnc, hcm, hsz, htake⟩
    · omega
    have hcap : n * q.sz ≤ cap' * q.sz := Nat.mul_le_mul_right _ hnc
    have hrun := run_copy_some (T2 := T2) (w := w) (ty := o.type) (c := cap') (c' := cap) (ad := ⟨b, off, none⟩) (off := off') hu hokq hkk hheap hnl
      (fun j v hj => by
        obtain ⟨i, l, hi, hl, rfl, hv⟩ := hcellat j v hj
        rw [addr_add, ← Nat.add_assoc]
        exact hs.wld.imm _ _ _ (hκ i l v (by omega) hv))
      (fun v hv => by
        obtain ⟨j, hj⟩ := List.getElem?_of_mem hv
        obtain ⟨i, l, hi, hl, rfl, hv⟩ := hcellat j v hj
        exact RepL.oneCells (hul i (by omega)) (hac i (by omega)) v (List.mem_of_getElem? hv))
      (by rw [hnl]; omega)
    obtain ⟨news, hnews⟩ : ∃ news, ((List.range k).map u).flatten = news := ⟨_, rfl⟩
    have hfc1 := flat_chunk u k hulen
    rw [hnews] at hrun hnl hfc1
    refine hfin _ (news ++ xs.drop (k * q.sz)) (by rw [hxe, hye, hv]; exact hrun) (by rw [hσ, hv]; exact grown_setRow _ _ _) ?_ (fun i hi => ?_) (fun i hi => ?_) (fun i hi => ?_)
    · refine ⟨by simp [hnl]; omega, .inr ⟨g', off', cap', _, hv, hbase, setRow_heap w g' cur _ _ (0, 0) hheap, hnc, hcm, ?_, ?_⟩⟩
      · simp [hnl]; omega
      · have := splice_off (cur := cur.toList) (ds := news) (off := off') (p := 0) (N := n * q.sz) (by rw [hnl]; omega) (by simp; omega)
        simp only [Nat.add_zero, Nat.zero_add, List.take_zero, List.nil_append] at this
        rw [this, htake, hnl]
    · by_cases hik : i < k
      · rw [h1 i hik]; exact hlz i (by omega)
      · rw [h2 i (by omega) hi]; exact hfl i hi
    · by_cases hik : i < k
      · rw [h1 i hik]; exact hac i (by omega)
      · rw [h2 i (by omega) hi]; exact hfc i hi
    · by_cases hik : i < k
      · rw [h1 i hik, append_chunkL hnl hik, hfc1 i hik]; exact hul i (by omega)
      · rw [h2 i (by omega) hi]
        obtain ⟨j, rfl⟩ : ∃ j, i = k + j := ⟨i - k, by omega⟩
        rw [append_chunkR hnl, List.drop_drop, ← Nat.add_mul]
        exact hfr _ hi
end
end Go.Ab
namespace Go.Ab
open Go Go.RowKit
set_option linter.all false
structure Span where
  Lo : Int
  Hi : Int
  deriving DecidableEq
def dfltSpan : Span := ⟨0, 0⟩
instance : Inhabited Span := ⟨dfltSpan⟩
structure Hold where
  At : Int
  Until : Int
  deriving DecidableEq
def dfltHold : Hold := ⟨0, 0⟩
instance : Inhabited Hold := ⟨dfltHold⟩
structure Truck where
  Way : Int
  Start : Int
  Pace : Span
  Holds : List Hold
  deriving DecidableEq
def dfltTruck : Truck := ⟨0, 0, dfltSpan, []⟩
instance : Inhabited Truck := ⟨dfltTruck⟩
structure Convoy where
  Length : Int
  Gap : Int
  Fails : Int
  Trucks : List Truck
  deriving DecidableEq
def dfltConvoy : Convoy := ⟨0, 0, 0, []⟩
instance : Inhabited Convoy := ⟨dfltConvoy⟩
structure Meeting where
  Minute : Int
  First : Int
  Second : Int
  FirstFails : Bool
  SecondFails : Bool
  At : Int
  Other : Int
  deriving DecidableEq
def dfltMeeting : Meeting := ⟨0, 0, 0, false, false, 0, 0⟩
instance : Inhabited Meeting := ⟨dfltMeeting⟩
structure Ride where
  Truck : Truck
  length : Int
  deriving DecidableEq
def dfltRide : Ride := ⟨dfltTruck, 0⟩
instance : Inhabited Ride := ⟨dfltRide⟩
structure Track where
  ride : Ride
  gone : List Span
  deriving DecidableEq
def dfltTrack : Track := ⟨dfltRide, []⟩
instance : Inhabited Track := ⟨dfltTrack⟩
structure Lanes where
  a : Track
  b : Track
  deriving DecidableEq
def dfltLanes : Lanes := ⟨dfltTrack, dfltTrack⟩
instance : Inhabited Lanes := ⟨dfltLanes⟩
structure Nearness where
  gap : Int
  fails : Int
  deriving DecidableEq
def dfltNearness : Nearness := ⟨0, 0⟩
instance : Inhabited Nearness := ⟨dfltNearness⟩
structure Pair where
  a : Int
  b : Int
  deriving DecidableEq
def dfltPair : Pair := ⟨0, 0⟩
instance : Inhabited Pair := ⟨dfltPair⟩
structure Seed where
  word : Int
  deriving DecidableEq
def dfltSeed : Seed := ⟨0⟩
instance : Inhabited Seed := ⟨dfltSeed⟩
structure Ways where
  a : List Span
  b : List Span
  deriving DecidableEq
def dfltWays : Ways := ⟨[], []⟩
instance : Inhabited Ways := ⟨dfltWays⟩
inductive T where
  | int (k : IntKind) | bool | str | sl (t : T) | ptr (t : T) | clo (f : FuncId) (t : T) | clo0 (f : FuncId) | clo2 (f : FuncId) (t u : T) | mfn (f : FuncId) (t : T)
  | Span | Hold | Truck | Convoy | Meeting | Ride | Track | Lanes | Nearness | Pair | Seed | Ways
  deriving DecidableEq
@[reducible] def den : T → Type
  | .int _ => Int
  | .bool => Bool
  | .str => ByteArray
  | .sl t => List (den t)
  | .ptr t => den t
  | .clo _ t => den t
  | .clo0 _ => Unit
  | .clo2 _ t u => den t × den u
  | .mfn _ t => den t
  | .Span => Span
  | .Hold => Hold
  | .Truck => Truck
  | .Convoy => Convoy
  | .Meeting => Meeting
  | .Ride => Ride
  | .Track => Track
  | .Lanes => Lanes
  | .Nearness => Nearness
  | .Pair => Pair
  | .Seed => Seed
  | .Ways => Ways
def sz : T → Nat
  | .Span => 2
  | .Hold => 2
  | .Truck => 5
  | .Convoy => 4
  | .Meeting => 7
  | .Ride => 6
  | .Track => 7
  | .Lanes => 14
  | .Nearness => 2
  | .Pair => 2
  | .Seed => 1
  | .Ways => 2
  | _ => 1
def dflt : (t : T) → den t
  | .int _ => (0 : Int)
  | .bool => false
  | .str => (⟨#[]⟩ : ByteArray)
  | .sl t => ([] : List (den t))
  | .ptr t => dflt t
  | .clo _ t => dflt t
  | .clo0 _ => ()
  | .clo2 _ t u => (dflt t, dflt u)
  | .mfn _ t => dflt t
  | .Span => dfltSpan
  | .Hold => dfltHold
  | .Truck => dfltTruck
  | .Convoy => dfltConvoy
  | .Meeting => dfltMeeting
  | .Ride => dfltRide
  | .Track => dfltTrack
  | .Lanes => dfltLanes
  | .Nearness => dfltNearness
  | .Pair => dfltPair
  | .Seed => dfltSeed
  | .Ways => dfltWays
inductive I where
  | int (k : IntKind) (n : Int)
  | bool (b : Bool)
  | str (s : ByteArray)
  | agg (l : List I)
  | tup (l : List I)
  | sl (t : T) (l : List (den t))
  | nil
  | rp (l : List I) (o : Nat)
  | bx (s g o : Nat)
  | os (s g : Nat)
  | op (s g z i o : Nat)
  | ow (s g z a m : Nat)
  | fn (f : FuncId) (c : List I)
  | yl (l : Nat)
  | mf (f : FuncId) (c : List I)
  | undef
instance : Inhabited I := ⟨.undef⟩
def tI (k : IntKind) : List I → Option (Int × List I)
  | .int k' n :: r => if k' = k then some (n, r) else none
  | _ => none
def tB : List I → Option (Bool × List I)
  | .bool b :: r => some (b, r)
  | _ => none
def tS : List I → Option (ByteArray × List I)
  | .str b :: r => some (b, r)
  | _ => none
def asL (t t' : T) (l : List (den t')) : Option (List (den t)) := if h : t' = t then some (h ▸ l) else none
def tL (t : T) : List I → Option (List (den t) × List I)
  | .sl t' l :: r => match asL t t' l with | some l => some (l, r) | none => none
  | .nil :: r => some ([], r)
  | _ => none
def tE {α : Type} : List I → α → Option α
  | [], a => some a
  | _, _ => none
def noNil : List I → Bool
  | [] => true
  | .nil :: _ => false
  | _ :: l => noNil l
def tP {α : Type} (dec : List I → Option α) : List I → Option α
  | .rp l o :: r => (match r with | [] => bif noNil l && Nat.beq o 0 then dec l else none | _ => none)
  | _ => none
def tC {α : Type} (f : FuncId) (dec : List I → Option α) : List I → Option α
  | .fn g c :: r => (match r with | [] => bif Nat.beq g f then tP dec c else none | _ => none)
  | _ => none
def tC0 (f : FuncId) : List I → Option Unit
  | .fn g c :: r => (match r with | [] => bif Nat.beq g f then (match c with | [] => some () | _ => none) else none | _ => none)
  | _ => none
def tC2 {α β : Type} (f : FuncId) (da : List I → Option α) (db : List I → Option β) : List I → Option (α × β)
  | .fn g c :: r => (match r with | [] => bif Nat.beq g f then (match c with | x :: ys => (tP da [x]).bind fun a => (tP db ys).bind fun b => some (a, b) | _ => none) else none | _ => none)
  | _ => none
def tM {α : Type} (f : FuncId) (dec : List I → Option α) : List I → Option α
  | .mf g c :: r => (match r with | [] => bif Nat.beq g f then (match c with | [.agg l] => bif noNil l then dec l else none | _ => none) else none | _ => none)
  | _ => none
@[reducible] def encs (t : T) (l : List (den t)) : List I := [.sl t l]
def encSpan (x : Span) : List I := [.int .i64 x.Lo, .int .i64 x.Hi]
def decSpan (r : List I) : Option Span := (tI .i64 r).bind fun p0 => (tI .i64 p0.2).bind fun p1 => tE p1.2 ⟨p0.1, p1.1⟩
def encHold (x : Hold) : List I := [.int .i64 x.At, .int .i64 x.Until]
def decHold (r : List I) : Option Hold := (tI .i64 r).bind fun p0 => (tI .i64 p0.2).bind fun p1 => tE p1.2 ⟨p0.1, p1.1⟩
def encTruck (x : Truck) : List I := [.int .i64 x.Way, .int .i64 x.Start, .int .i64 x.Pace.Lo, .int .i64 x.Pace.Hi, .sl .Hold x.Holds]
def decTruck (r : List I) : Option Truck := (tI .i64 r).bind fun p0 => (tI .i64 p0.2).bind fun p1 => (tI .i64 p1.2).bind fun p2 => (tI .i64 p2.2).bind fun p3 => (tL .Hold p3.2).bind fun p4 => tE p4.2 ⟨p0.1, p1.1, ⟨p2.1, p3.1⟩, p4.1⟩
def encConvoy (x : Convoy) : List I := [.int .i64 x.Length, .int .i64 x.Gap, .int .i64 x.Fails, .sl .Truck x.Trucks]
def decConvoy (r : List I) : Option Convoy := (tI .i64 r).bind fun p0 => (tI .i64 p0.2).bind fun p1 => (tI .i64 p1.2).bind fun p2 => (tL .Truck p2.2).bind fun p3 => tE p3.2 ⟨p0.1, p1.1, p2.1, p3.1⟩
def encMeeting (x : Meeting) : List I := [.int .i64 x.Minute, .int .i64 x.First, .int .i64 x.Second, .bool x.FirstFails, .bool x.SecondFails, .int .i64 x.At, .int .i64 x.Other]
def decMeeting (r : List I) : Option Meeting := (tI .i64 r).bind fun p0 => (tI .i64 p0.2).bind fun p1 => (tI .i64 p1.2).bind fun p2 => (tB p2.2).bind fun p3 => (tB p3.2).bind fun p4 => (tI .i64 p4.2).bind fun p5 => (tI .i64 p5.2).bind fun p6 => tE p6.2 ⟨p0.1, p1.1, p2.1, p3.1, p4.1, p5.1, p6.1⟩
def encRide (x : Ride) : List I := [.int .i64 x.Truck.Way, .int .i64 x.Truck.Start, .int .i64 x.Truck.Pace.Lo, .int .i64 x.Truck.Pace.Hi, .sl .Hold x.Truck.Holds, .int .i64 x.length]
def decRide (r : List I) : Option Ride := (tI .i64 r).bind fun p0 => (tI .i64 p0.2).bind fun p1 => (tI .i64 p1.2).bind fun p2 => (tI .i64 p2.2).bind fun p3 => (tL .Hold p3.2).bind fun p4 => (tI .i64 p4.2).bind fun p5 => tE p5.2 ⟨⟨p0.1, p1.1, ⟨p2.1, p3.1⟩, p4.1⟩, p5.1⟩
def encTrack (x : Track) : List I := [.int .i64 x.ride.Truck.Way, .int .i64 x.ride.Truck.Start, .int .i64 x.ride.Truck.Pace.Lo, .int .i64 x.ride.Truck.Pace.Hi, .sl .Hold x.ride.Truck.Holds, .int .i64 x.ride.length, .sl .Span x.gone]
def decTrack (r : List I) : Option Track := (tI .i64 r).bind fun p0 => (tI .i64 p0.2).bind fun p1 => (tI .i64 p1.2).bind fun p2 => (tI .i64 p2.2).bind fun p3 => (tL .Hold p3.2).bind fun p4 => (tI .i64 p4.2).bind fun p5 => (tL .Span p5.2).bind fun p6 => tE p6.2 ⟨⟨⟨p0.1, p1.1, ⟨p2.1, p3.1⟩, p4.1⟩, p5.1⟩, p6.1⟩
def encLanes (x : Lanes) : List I := [.int .i64 x.a.ride.Truck.Way, .int .i64 x.a.ride.Truck.Start, .int .i64 x.a.ride.Truck.Pace.Lo, .int .i64 x.a.ride.Truck.Pace.Hi, .sl .Hold x.a.ride.Truck.Holds, .int .i64 x.a.ride.length, .sl .Span x.a.gone, .int .i64 x.b.ride.Truck.Way, .int .i64 x.b.ride.Truck.Start, .int .i64 x.b.ride.Truck.Pace.Lo, .int .i64 x.b.ride.Truck.Pace.Hi, .sl .Hold x.b.ride.Truck.Holds, .int .i64 x.b.ride.length, .sl .Span x.b.gone]
def decLanes (r : List I) : Option Lanes := (tI .i64 r).bind fun p0 => (tI .i64 p0.2).bind fun p1 => (tI .i64 p1.2).bind fun p2 => (tI .i64 p2.2).bind fun p3 => (tL .Hold p3.2).bind fun p4 => (tI .i64 p4.2).bind fun p5 => (tL .Span p5.2).bind fun p6 => (tI .i64 p6.2).bind fun p7 => (tI .i64 p7.2).bind fun p8 => (tI .i64 p8.2).bind fun p9 => (tI .i64 p9.2).bind fun p10 => (tL .Hold p10.2).bind fun p11 => (tI .i64 p11.2).bind fun p12 => (tL .Span p12.2).bind fun p13 => tE p13.2 ⟨⟨⟨⟨p0.1, p1.1, ⟨p2.1, p3.1⟩, p4.1⟩, p5.1⟩, p6.1⟩, ⟨⟨⟨p7.1, p8.1, ⟨p9.1, p10.1⟩, p11.1⟩, p12.1⟩, p13.1⟩⟩
def encNearness (x : Nearness) : List I := [.int .i64 x.gap, .int .i64 x.fails]
def decNearness (r : List I) : Option Nearness := (tI .i64 r).bind fun p0 => (tI .i64 p0.2).bind fun p1 => tE p1.2 ⟨p0.1, p1.1⟩
def encPair (x : Pair) : List I := [.int .i64 x.a, .int .i64 x.b]
def decPair (r : List I) : Option Pair := (tI .i64 r).bind fun p0 => (tI .i64 p0.2).bind fun p1 => tE p1.2 ⟨p0.1, p1.1⟩
def encSeed (x : Seed) : List I := [.int .u64 x.word]
def decSeed (r : List I) : Option Seed := (tI .u64 r).bind fun p0 => tE p0.2 ⟨p0.1⟩
def encWays (x : Ways) : List I := [.sl .Span x.a, .sl .Span x.b]
def decWays (r : List I) : Option Ways := (tL .Span r).bind fun p0 => (tL .Span p0.2).bind fun p1 => tE p1.2 ⟨p0.1, p1.1⟩
def encC : (t : T) → den t → List I
  | .int k, x => [.int k x]
  | .bool, x => [.bool x]
  | .str, x => [.str x]
  | .sl t, x => [.sl t x]
  | .ptr t, x => [.rp (encC t x) 0]
  | .clo f t, x => [.fn f [.rp (encC t x) 0]]
  | .clo0 f, _ => [.fn f []]
  | .clo2 f t u, x => [.fn f [.rp (encC t x.1) 0, .rp (encC u x.2) 0]]
  | .mfn f t, x => [.mf f [.agg (encC t x)]]
  | .Span, x => encSpan x
  | .Hold, x => encHold x
  | .Truck, x => encTruck x
  | .Convoy, x => encConvoy x
  | .Meeting, x => encMeeting x
  | .Ride, x => encRide x
  | .Track, x => encTrack x
  | .Lanes, x => encLanes x
  | .Nearness, x => encNearness x
  | .Pair, x => encPair x
  | .Seed, x => encSeed x
  | .Ways, x => encWays x
def decC : (t : T) → List I → Option (den t)
  | .int k, r => (tI k r).bind fun p => tE p.2 p.1
  | .bool, r => (tB r).bind fun p => tE p.2 p.1
  | .str, r => (tS r).bind fun p => tE p.2 p.1
  | .sl t, r => (tL t r).bind fun p => tE p.2 p.1
  | .ptr t, r => tP (decC t) r
  | .clo f t, r => tC f (decC t) r
  | .clo0 f, r => tC0 f r
  | .clo2 f t u, r => tC2 f (decC t) (decC u) r
  | .mfn f t, r => tM f (decC t) r
  | .Span, r => decSpan r
  | .Hold, r => decHold r
  | .Truck, r => decTruck r
  | .Convoy, r => decConvoy r
  | .Meeting, r => decMeeting r
  | .Ride, r => decRide r
  | .Track, r => decTrack r
  | .Lanes, r => decLanes r
  | .Nearness, r => decNearness r
  | .Pair, r => decPair r
  | .Seed, r => decSeed r
  | .Ways, r => decWays r
def encDSpan (x : Span) : List D := [.int .i64 x.Lo, .int .i64 x.Hi]
def encDHold (x : Hold) : List D := [.int .i64 x.At, .int .i64 x.Until]
def encDTruck (x : Truck) : List D := [.int .i64 x.Way, .int .i64 x.Start, .int .i64 x.Pace.Lo, .int .i64 x.Pace.Hi, .sl 2 x.Holds.length (fun i => encDHold (x.Holds.getD i dfltHold))]
def encDConvoy (x : Convoy) : List D := [.int .i64 x.Length, .int .i64 x.Gap, .int .i64 x.Fails, .sl 5 x.Trucks.length (fun i => encDTruck (x.Trucks.getD i dfltTruck))]
def encDMeeting (x : Meeting) : List D := [.int .i64 x.Minute, .int .i64 x.First, .int .i64 x.Second, .bool x.FirstFails, .bool x.SecondFails, .int .i64 x.At, .int .i64 x.Other]
def encDRide (x : Ride) : List D := [.int .i64 x.Truck.Way, .int .i64 x.Truck.Start, .int .i64 x.Truck.Pace.Lo, .int .i64 x.Truck.Pace.Hi, .sl 2 x.Truck.Holds.length (fun i => encDHold (x.Truck.Holds.getD i dfltHold)), .int .i64 x.length]
def encDTrack (x : Track) : List D := [.int .i64 x.ride.Truck.Way, .int .i64 x.ride.Truck.Start, .int .i64 x.ride.Truck.Pace.Lo, .int .i64 x.ride.Truck.Pace.Hi, .sl 2 x.ride.Truck.Holds.length (fun i => encDHold (x.ride.Truck.Holds.getD i dfltHold)), .int .i64 x.ride.length, .sl 2 x.gone.length (fun i => encDSpan (x.gone.getD i dfltSpan))]
def encDLanes (x : Lanes) : List D := [.int .i64 x.a.ride.Truck.Way, .int .i64 x.a.ride.Truck.Start, .int .i64 x.a.ride.Truck.Pace.Lo, .int .i64 x.a.ride.Truck.Pace.Hi, .sl 2 x.a.ride.Truck.Holds.length (fun i => encDHold (x.a.ride.Truck.Holds.getD i dfltHold)), .int .i64 x.a.ride.length, .sl 2 x.a.gone.length (fun i => encDSpan (x.a.gone.getD i dfltSpan)), .int .i64 x.b.ride.Truck.Way, .int .i64 x.b.ride.Truck.Start, .int .i64 x.b.ride.Truck.Pace.Lo, .int .i64 x.b.ride.Truck.Pace.Hi, .sl 2 x.b.ride.Truck.Holds.length (fun i => encDHold (x.b.ride.Truck.Holds.getD i dfltHold)), .int .i64 x.b.ride.length, .sl 2 x.b.gone.length (fun i => encDSpan (x.b.gone.getD i dfltSpan))]
def encDNearness (x : Nearness) : List D := [.int .i64 x.gap, .int .i64 x.fails]
def encDPair (x : Pair) : List D := [.int .i64 x.a, .int .i64 x.b]
def encDSeed (x : Seed) : List D := [.int .u64 x.word]
def encDWays (x : Ways) : List D := [.sl 2 x.a.length (fun i => encDSpan (x.a.getD i dfltSpan)), .sl 2 x.b.length (fun i => encDSpan (x.b.getD i dfltSpan))]
def encD : (t : T) → den t → List D
  | .int k, x => [.int k x]
  | .bool, x => [.bool x]
  | .str, x => [.str x]
  | .sl t, x => [.sl (sz t) x.length (fun i => encD t (x.getD i (dflt t)))]
  | .ptr t, x => [.rp (encD t x) 0]
  | .clo f t, x => [.fn f [.rp (encD t x) 0]]
  | .clo0 f, _ => [.fn f []]
  | .clo2 f t u, x => [.fn f [.rp (encD t x.1) 0, .rp (encD u x.2) 0]]
  | .mfn f t, x => [.mf f [.agg (encD t x)]]
  | .Span, x => encDSpan x
  | .Hold, x => encDHold x
  | .Truck, x => encDTruck x
  | .Convoy, x => encDConvoy x
  | .Meeting, x => encDMeeting x
  | .Ride, x => encDRide x
  | .Track, x => encDTrack x
  | .Lanes, x => encDLanes x
  | .Nearness, x => encDNearness x
  | .Pair, x => encDPair x
  | .Seed, x => encDSeed x
  | .Ways, x => encDWays x
def slD (t : T) (l : List (den t)) : D := .sl (sz t) l.length (fun i => encD t (l.getD i (dflt t)))
def isSt : T → Bool
  | .int _ | .bool | .str | .sl _ | .ptr _ | .clo _ _ | .clo0 _ | .clo2 _ _ _ | .mfn _ _ => false
  | _ => true
theorem encD_cell : ∀ (t : T) (x : den t), allCell (encD t x) = true := by intro t x; cases t <;> rfl
inductive NilI : I → I → Prop
  | same (d : I) : NilI d d
  | nil (t : T) : NilI .nil (.sl t [])
inductive NilIL : List I → List I → Prop
  | nil : NilIL [] []
  | cons {d d' : I} {l l' : List I} : NilI d d' → NilIL l l' → NilIL (d :: l) (d' :: l')
theorem tI_bind {k : IntKind} {α : Type} {r : List I} {f : Int × List I → Option α} {x : α} (h : (tI k r).bind f = some x) : ∃ n r', r = .int k n :: r' ∧ f (n, r') = some x := by
  cases r with
  | nil => cases h
  | cons d r =>
    cases d <;> try (cases h; done)
    rename_i k' n
    simp only [tI] at h
    split at h
    · rename_i e; subst e; exact ⟨n, r, rfl, h⟩
    · cases h
theorem tB_bind {α : Type} {r : List I} {f : Bool × List I → Option α} {x : α} (h : (tB r).bind f = some x) : ∃ n r', r = .bool n :: r' ∧ f (n, r') = some x := by
  cases r with
  | nil => cases h
  | cons d r => cases d <;> first | (cases h; done) | exact ⟨_, _, rfl, h⟩
theorem tS_bind {α : Type} {r : List I} {f : ByteArray × List I → Option α} {x : α} (h : (tS r).bind f = some x) : ∃ n r', r = .str n :: r' ∧ f (n, r') = some x := by
  cases r with
  | nil => cases h
  | cons d r => cases d <;> first | (cases h; done) | exact ⟨_, _, rfl, h⟩
theorem asL_eq {t t' : T} {l : List (den t')} {m : List (den t)} (h : asL t t' l = some m) : (I.sl t' l) = .sl t m := by
  unfold asL at h
  split at h
  · rename_i e; subst e; simp only [Option.some.injEq] at h; subst h; rfl
  · cases h
theorem tL_bind {t : T} {α : Type} {r : List I} {f : List (den t) × List I → Option α} {x : α} (h : (tL t r).bind f = some x) : ∃ d l r', r = d :: r' ∧ NilI d (.sl t l) ∧ f (l, r') = some x := by
  cases r with
  | nil => cases h
  | cons d r =>
    cases d <;> try (cases h; done)
    · rename_i t' l
      simp only [tL] at h
      cases ha : asL t t' l with
      | none => rw [ha] at h; cases h
      | some m => rw [ha] at h; exact ⟨_, m, r, rfl, by rw [asL_eq ha]; exact .same _, h⟩
    · exact ⟨_, [], r, rfl, .nil t, h⟩
theorem noNil_eq : ∀ {l m : List I}, NilIL l m → noNil l = true → l = m
  | _, _, .nil, _ => rfl
  | _, _, .cons (d := d) (l := l) h1 h2, hn => by
    cases h1 with
    | same =>
      have : noNil l = true := by cases d <;> first | exact hn | exact absurd hn (by simp [noNil])
      rw [noNil_eq h2 this]
    | nil => cases hn
theorem tP_ok {α : Type} {dec : List I → Option α} {enc : α → List I} (hd : ∀ {r x}, dec r = some x → NilIL r (enc x)) {r : List I} {x : α} (h : tP dec r = some x) : r = [.rp (enc x) 0] := by
  unfold tP at h
  split at h
  · rename_i l o r'
    split at h
    · cases hc : noNil l && Nat.beq o 0 with
      | false => rw [hc] at h; cases h
      | true =>
        rw [hc] at h
        simp only [Bool.and_eq_true] at hc
        rw [noNil_eq (hd h) hc.1, Nat.eq_of_beq_eq_true hc.2]
    · cases h
  · cases h
theorem tC_ok {α : Type} {f : FuncId} {dec : List I → Option α} {enc : α → List I} (hd : ∀ {r x}, dec r = some x → NilIL r (enc x)) {r : List I} {x : α} (h : tC f dec r = some x) : r = [.fn f [.rp (enc x) 0]] := by
  unfold tC at h
  split at h
  · rename_i g c r'
    split at h
    · cases hc : Nat.beq g f with
      | false => rw [hc] at h; cases h
      | true =>
        rw [hc] at h
        rw [tP_ok hd h, Nat.eq_of_beq_eq_true hc]
    · cases h
  · cases h
theorem tC0_ok {f : FuncId} {r : List I} {x : Unit} (h : tC0 f r = some x) : r = [.fn f []] := by
  unfold tC0 at h
  split at h
  · rename_i g c r'
    split at h
    · cases hc : Nat.beq g f with
      | false => rw [hc] at h; cases h
      | true =>
        rw [hc] at h
        simp only [cond_true] at h
        split at h
        · rw [Nat.eq_of_beq_eq_true hc]
        · cases h
    · cases h
  · cases h
theorem tC2_ok {α β : Type} {f : FuncId} {da : List I → Option α} {db : List I → Option β} {ea : α → List I} {eb : β → List I} (ha : ∀ {r x}, da r = some x → NilIL r (ea x)) (hb : ∀ {r x}, db r = some x → NilIL r (eb x)) {r : List I} {x : α × β} (h : tC2 f da db r = some x) : r = [.fn f [.rp (ea x.1) 0, .rp (eb x.2) 0]] := by
  unfold tC2 at h
  split at h
  · rename_i g c r'
    split at h
    · cases hc : Nat.beq g f with
      | false => rw [hc] at h; cases h
      | true =>
        rw [hc] at h
        simp only [cond_true] at h
        split at h
        · rename_i y ys
          cases h1 : tP da [y] with
          | none => rw [h1] at h; cases h
          | some a =>
            rw [h1] at h
            simp only [Option.bind_some] at h
            cases h2 : tP db ys with
            | none => rw [h2] at h; cases h
            | some b =>
              rw [h2] at h
              simp only [Option.bind_some, Option.some.injEq] at h
              subst h
              have e1 := tP_ok ha h1
              have e2 := tP_ok hb h2
              simp only [List.cons.injEq, and_true] at e1
              rw [Nat.eq_of_beq_eq_true hc, e1, e2]
        · cases h
    · cases h
  · cases h
theorem tM_ok {α : Type} {f : FuncId} {dec : List I → Option α} {enc : α → List I} (hd : ∀ {r x}, dec r = some x → NilIL r (enc x)) {r : List I} {x : α} (h : tM f dec r = some x) : r = [.mf f [.agg (enc x)]] := by
  unfold tM at h
  split at h
  · rename_i g c r'
    split at h
    · cases hc : Nat.beq g f with
      | false => rw [hc] at h; cases h
      | true =>
        rw [hc] at h
        simp only [cond_true] at h
        split at h
        · rename_i l
          cases hn : noNil l with
          | false => rw [hn] at h; cases h
          | true =>
            rw [hn] at h
            rw [Nat.eq_of_beq_eq_true hc, noNil_eq (hd h) hn]
        · cases h
    · cases h
  · cases h
theorem tE_ok {α : Type} {r : List I} {a x : α} (h : tE r a = some x) : r = [] ∧ a = x := by
  cases r with
  | nil => exact ⟨rfl, by simpa [tE] using h⟩
  | cons => cases h
theorem decSpan_ok {r : List I} {x : Span} (h : decSpan r = some x) : NilIL r (encSpan x) := by
  have h0 := h; unfold decSpan at h0; clear h
  obtain ⟨n0, r0, q0, h1⟩ := tI_bind h0
  replace q0 : r = _ := q0; subst q0
  obtain ⟨n1, r1, q1, h2⟩ := tI_bind h1
  replace q1 : r0 = _ := q1; subst q1
  obtain ⟨qe, qx⟩ := tE_ok h2
  replace qe : r1 = [] := qe; subst qe; subst qx
  exact .cons (.same _) (.cons (.same _) (NilIL.nil))
theorem decHold_ok {r : List I} {x : Hold} (h : decHold r = some x) : NilIL r (encHold x) := by
  have h0 := h; unfold decHold at h0; clear h
  obtain ⟨n0, r0, q0, h1⟩ := tI_bind h0
  replace q0 : r = _ := q0; subst q0
  obtain ⟨n1, r1, q1, h2⟩ := tI_bind h1
  replace q1 : r0 = _ := q1; subst q1
  obtain ⟨qe, qx⟩ := tE_ok h2
  replace qe : r1 = [] := qe; subst qe; subst qx
  exact .cons (.same _) (.cons (.same _) (NilIL.nil))
theorem decTruck_ok {r : List I} {x : Truck} (h : decTruck r = some x) : NilIL r (encTruck x) := by
  have h0 := h; unfold decTruck at h0; clear h
  obtain ⟨n0, r0, q0, h1⟩ := tI_bind h0
  replace q0 : r = _ := q0; subst q0
  obtain ⟨n1, r1, q1, h2⟩ := tI_bind h1
  replace q1 : r0 = _ := q1; subst q1
  obtain ⟨n2, r2, q2, h3⟩ := tI_bind h2
  replace q2 : r1 = _ := q2; subst q2
  obtain ⟨n3, r3, q3, h4⟩ := tI_bind h3
  replace q3 : r2 = _ := q3; subst q3
  obtain ⟨d4, l4, r4, q4, e4, h5⟩ := tL_bind h4
  replace q4 : r3 = _ := q4; subst q4
  obtain ⟨qe, qx⟩ := tE_ok h5
  replace qe : r4 = [] := qe; subst qe; subst qx
  exact .cons (.same _) (.cons (.same _) (.cons (.same _) (.cons (.same _) (.cons e4 (NilIL.nil)))))
theorem decConvoy_ok {r : List I} {x : Convoy} (h : decConvoy r = some x) : NilIL r (encConvoy x) := by
  have h0 := h; unfold decConvoy at h0; clear h
  obtain ⟨n0, r0, q0, h1⟩ := tI_bind h0
  replace q0 : r = _ := q0; subst q0
  obtain ⟨n1, r1, q1, h2⟩ := tI_bind h1
  replace q1 : r0 = _ := q1; subst q1
  obtain ⟨n2, r2, q2, h3⟩ := tI_bind h2
  replace q2 : r1 = _ := q2; subst q2
  obtain ⟨d3, l3, r3, q3, e3, h4⟩ := tL_bind h3
  replace q3 : r2 = _ := q3; subst q3
  obtain ⟨qe, qx⟩ := tE_ok h4
  replace qe : r3 = [] := qe; subst qe; subst qx
  exact .cons (.same _) (.cons (.same _) (.cons (.same _) (.cons e3 (NilIL.nil))))
theorem decMeeting_ok {r : List I} {x : Meeting} (h : decMeeting r = some x) : NilIL r (encMeeting x) := by
  have h0 := h; unfold decMeeting at h0; clear h
  obtain ⟨n0, r0, q0, h1⟩ := tI_bind h0
  replace q0 : r = _ := q0; subst q0
  obtain ⟨n1, r1, q1, h2⟩ := tI_bind h1
  replace q1 : r0 = _ := q1; subst q1
  obtain ⟨n2, r2, q2, h3⟩ := tI_bind h2
  replace q2 : r1 = _ := q2; subst q2
  obtain ⟨n3, r3, q3, h4⟩ := tB_bind h3
  replace q3 : r2 = _ := q3; subst q3
  obtain ⟨n4, r4, q4, h5⟩ := tB_bind h4
  replace q4 : r3 = _ := q4; subst q4
  obtain ⟨n5, r5, q5, h6⟩ := tI_bind h5
  replace q5 : r4 = _ := q5; subst q5
  obtain ⟨n6, r6, q6, h7⟩ := tI_bind h6
  replace q6 : r5 = _ := q6; subst q6
  obtain ⟨qe, qx⟩ := tE_ok h7
  replace qe : r6 = [] := qe; subst qe; subst qx
  exact .cons (.same _) (.cons (.same _) (.cons (.same _) (.cons (.same _) (.cons (.same _) (.cons (.same _) (.cons (.same _) (NilIL.nil)))))))
theorem decRide_ok {r : List I} {x : Ride} (h : decRide r = some x) : NilIL r (encRide x) := by
  have h0 := h; unfold decRide at h0; clear h
  obtain ⟨n0, r0, q0, h1⟩ := tI_bind h0
  replace q0 : r = _ := q0; subst q0
  obtain ⟨n1, r1, q1, h2⟩ := tI_bind h1
  replace q1 : r0 = _ := q1; subst q1
  obtain ⟨n2, r2, q2, h3⟩ := tI_bind h2
  replace q2 : r1 = _ := q2; subst q2
  obtain ⟨n3, r3, q3, h4⟩ := tI_bind h3
  replace q3 : r2 = _ := q3; subst q3
  obtain ⟨d4, l4, r4, q4, e4, h5⟩ := tL_bind h4
  replace q4 : r3 = _ := q4; subst q4
  obtain ⟨n5, r5, q5, h6⟩ := tI_bind h5
  replace q5 : r4 = _ := q5; subst q5
  obtain ⟨qe, qx⟩ := tE_ok h6
  replace qe : r5 = [] := qe; subst qe; subst qx
  exact .cons (.same _) (.cons (.same _) (.cons (.same _) (.cons (.same _) (.cons e4 (.cons (.same _) (NilIL.nil))))))
theorem decTrack_ok {r : List I} {x : Track} (h : decTrack r = some x) : NilIL r (encTrack x) := by
  have h0 := h; unfold decTrack at h0; clear h
  obtain ⟨n0, r0, q0, h1⟩ := tI_bind h0
  replace q0 : r = _ := q0; subst q0
  obtain ⟨n1, r1, q1, h2⟩ := tI_bind h1
  replace q1 : r0 = _ := q1; subst q1
  obtain ⟨n2, r2, q2, h3⟩ := tI_bind h2
  replace q2 : r1 = _ := q2; subst q2
  obtain ⟨n3, r3, q3, h4⟩ := tI_bind h3
  replace q3 : r2 = _ := q3; subst q3
  obtain ⟨d4, l4, r4, q4, e4, h5⟩ := tL_bind h4
  replace q4 : r3 = _ := q4; subst q4
  obtain ⟨n5, r5, q5, h6⟩ := tI_bind h5
  replace q5 : r4 = _ := q5; subst q5
  obtain ⟨d6, l6, r6, q6, e6, h7⟩ := tL_bind h6
  replace q6 : r5 = _ := q6; subst q6
  obtain ⟨qe, qx⟩ := tE_ok h7
  replace qe : r6 = [] := qe; subst qe; subst qx
  exact .cons (.same _) (.cons (.same _) (.cons (.same _) (.cons (.same _) (.cons e4 (.cons (.same _) (.cons e6 (NilIL.nil)))))))
theorem decLanes_ok {r : List I} {x : Lanes} (h : decLanes r = some x) : NilIL r (encLanes x) := by
  have h0 := h; unfold decLanes at h0; clear h
  obtain ⟨n0, r0, q0, h1⟩ := tI_bind h0
  replace q0 : r = _ := q0; subst q0
  obtain ⟨n1, r1, q1, h2⟩ := tI_bind h1
  replace q1 : r0 = _ := q1; subst q1
  obtain ⟨n2, r2, q2, h3⟩ := tI_bind h2
  replace q2 : r1 = _ := q2; subst q2
  obtain ⟨n3, r3, q3, h4⟩ := tI_bind h3
  replace q3 : r2 = _ := q3; subst q3
  obtain ⟨d4, l4, r4, q4, e4, h5⟩ := tL_bind h4
  replace q4 : r3 = _ := q4; subst q4
  obtain ⟨n5, r5, q5, h6⟩ := tI_bind h5
  replace q5 : r4 = _ := q5; subst q5
  obtain ⟨d6, l6, r6, q6, e6, h7⟩ := tL_bind h6
  replace q6 : r5 = _ := q6; subst q6
  obtain ⟨n7, r7, q7, h8⟩ := tI_bind h7
  replace q7 : r6 = _ := q7; subst q7
  obtain ⟨n8, r8, q8, h9⟩ := tI_bind h8
  replace q8 : r7 = _ := q8; subst q8
  obtain ⟨n9, r9, q9, h10⟩ := tI_bind h9
  replace q9 : r8 = _ := q9; subst q9
  obtain ⟨n10, r10, q10, h11⟩ := tI_bind h10
  replace q10 : r9 = _ := q10; subst q10
  obtain ⟨d11, l11, r11, q11, e11, h12⟩ := tL_bind h11
  replace q11 : r10 = _ := q11; subst q11
  obtain ⟨n12, r12, q12, h13⟩ := tI_bind h12
  replace q12 : r11 = _ := q12; subst q12
  obtain ⟨d13, l13, r13, q13, e13, h14⟩ := tL_bind h13
  replace q13 : r12 = _ := q13; subst q13
  obtain ⟨qe, qx⟩ := tE_ok h14
  replace qe : r13 = [] := qe; subst qe; subst qx
  exact .cons (.same _) (.cons (.same _) (.cons (.same _) (.cons (.same _) (.cons e4 (.cons (.same _) (.cons e6 (.cons (.same _) (.cons (.same _) (.cons (.same _) (.cons (.same _) (.cons e11 (.cons (.same _) (.cons e13 (NilIL.nil))))))))))))))
theorem decNearness_ok {r : List I} {x : Nearness} (h : decNearness r = some x) : NilIL r (encNearness x) := by
  have h0 := h; unfold decNearness at h0; clear h
  obtain ⟨n0, r0, q0, h1⟩ := tI_bind h0
  replace q0 : r = _ := q0; subst q0
  obtain ⟨n1, r1, q1, h2⟩ := tI_bind h1
  replace q1 : r0 = _ := q1; subst q1
  obtain ⟨qe, qx⟩ := tE_ok h2
  replace qe : r1 = [] := qe; subst qe; subst qx
  exact .cons (.same _) (.cons (.same _) (NilIL.nil))
theorem decPair_ok {r : List I} {x : Pair} (h : decPair r = some x) : NilIL r (encPair x) := by
  have h0 := h; unfold decPair at h0; clear h
  obtain ⟨n0, r0, q0, h1⟩ := tI_bind h0
  replace q0 : r = _ := q0; subst q0
  obtain ⟨n1, r1, q1, h2⟩ := tI_bind h1
  replace q1 : r0 = _ := q1; subst q1
  obtain ⟨qe, qx⟩ := tE_ok h2
  replace qe : r1 = [] := qe; subst qe; subst qx
  exact .cons (.same _) (.cons (.same _) (NilIL.nil))
theorem decSeed_ok {r : List I} {x : Seed} (h : decSeed r = some x) : NilIL r (encSeed x) := by
  have h0 := h; unfold decSeed at h0; clear h
  obtain ⟨n0, r0, q0, h1⟩ := tI_bind h0
  replace q0 : r = _ := q0; subst q0
  obtain ⟨qe, qx⟩ := tE_ok h1
  replace qe : r0 = [] := qe; subst qe; subst qx
  exact .cons (.same _) (NilIL.nil)
theorem decWays_ok {r : List I} {x : Ways} (h : decWays r = some x) : NilIL r (encWays x) := by
  have h0 := h; unfold decWays at h0; clear h
  obtain ⟨d0, l0, r0, q0, e0, h1⟩ := tL_bind h0
  replace q0 : r = _ := q0; subst q0
  obtain ⟨d1, l1, r1, q1, e1, h2⟩ := tL_bind h1
  replace q1 : r0 = _ := q1; subst q1
  obtain ⟨qe, qx⟩ := tE_ok h2
  replace qe : r1 = [] := qe; subst qe; subst qx
  exact .cons e0 (.cons e1 (NilIL.nil))
theorem decC_ok : ∀ (t : T) {r : List I} {x : den t}, decC t r = some x → NilIL r (encC t x)
  | .int k, r, x, h => by
    obtain ⟨n, r2, q, h2⟩ := tI_bind (show (tI k r).bind _ = _ from h)
    obtain ⟨qe, qx⟩ := tE_ok h2
    replace qe : r2 = [] := qe
    subst q; subst qe; subst qx; exact .cons (.same _) .nil
  | .bool, r, x, h => by
    obtain ⟨n, r2, q, h2⟩ := tB_bind (show (tB r).bind _ = _ from h)
    obtain ⟨qe, qx⟩ := tE_ok h2
    replace qe : r2 = [] := qe
    subst q; subst qe; subst qx; exact .cons (.same _) .nil
  | .str, r, x, h => by
    obtain ⟨n, r2, q, h2⟩ := tS_bind (show (tS r).bind _ = _ from h)
    obtain ⟨qe, qx⟩ := tE_ok h2
    replace qe : r2 = [] := qe
    subst q; subst qe; subst qx; exact .cons (.same _) .nil
  | .sl t, r, x, h => by
    obtain ⟨d, l, r2, q, e, h2⟩ := tL_bind (show (tL t r).bind _ = _ from h)
    obtain ⟨qe, qx⟩ := tE_ok h2
    replace qe : r2 = [] := qe
    subst q; subst qe; subst qx; exact .cons e .nil
  | .ptr t, r, x, h => by rw [tP_ok (fun h => decC_ok t h) (show tP (decC t) r = some x from h)]; exact .cons (.same _) .nil
  | .clo f t, r, x, h => by rw [tC_ok (fun h => decC_ok t h) (show tC f (decC t) r = some x from h)]; exact .cons (.same _) .nil
  | .clo0 f, r, x, h => by rw [tC0_ok (show tC0 f r = some x from h)]; exact .cons (.same _) .nil
  | .clo2 f t u, r, x, h => by rw [tC2_ok (fun h => decC_ok t h) (fun h => decC_ok u h) (show tC2 f (decC t) (decC u) r = some x from h)]; exact .cons (.same _) .nil
  | .mfn f t, r, x, h => by rw [tM_ok (fun h => decC_ok t h) (show tM f (decC t) r = some x from h)]; exact .cons (.same _) .nil
  | .Span, r, x, h => decSpan_ok h
  | .Hold, r, x, h => decHold_ok h
  | .Truck, r, x, h => decTruck_ok h
  | .Convoy, r, x, h => decConvoy_ok h
  | .Meeting, r, x, h => decMeeting_ok h
  | .Ride, r, x, h => decRide_ok h
  | .Track, r, x, h => decTrack_ok h
  | .Lanes, r, x, h => decLanes_ok h
  | .Nearness, r, x, h => decNearness_ok h
  | .Pair, r, x, h => decPair_ok h
  | .Seed, r, x, h => decSeed_ok h
  | .Ways, r, x, h => decWays_ok h
mutual
def I.toD (h : Nat → Nat) : I → D
  | .int k n => .int k n
  | .bool b => .bool b
  | .str s => .str s
  | .agg l => .agg (I.toDL h l)
  | .tup l => .tup (I.toDL h l)
  | .sl t l => slD t l
  | .nil => .nil
  | .rp l o => .rp (I.toDL h l) o
  | .bx s g o => .bx s (h s + g) o
  | .os s g => .os s (h s + g)
  | .op s g z i o => .op s (h s + g) z i o
  | .ow s g z a m => .ow s (h s + g) z a m
  | .fn f c => .fn f (I.toDL h c)
  | .yl l => .yl (h l)
  | .mf f c => .mf f (I.toDL h c)
  | .undef => .undef
def I.toDL (h : Nat → Nat) : List I → List D
  | [] => []
  | d :: l => d.toD h :: I.toDL h l
end
theorem toDL_enc (h : Nat → Nat) : ∀ (t : T) (x : den t), I.toDL h (encC t x) = encD t x := by
  intro t
  induction t with
  | ptr t ih => intro x; show [D.rp (I.toDL h (encC t x)) 0] = _; rw [ih]; rfl
  | clo f t ih => intro x; show [D.fn f [D.rp (I.toDL h (encC t x)) 0]] = _; rw [ih]; rfl
  | clo2 f t u ih1 ih2 => intro x; show [D.fn f [D.rp (I.toDL h (encC t x.1)) 0, D.rp (I.toDL h (encC u x.2)) 0]] = _; rw [ih1, ih2]; rfl
  | mfn f t ih => intro x; show [D.mf f [D.agg (I.toDL h (encC t x))]] = _; rw [ih]; rfl
  | _ => intro x; rfl
theorem pureSpan (x : Span) : PureL (encDSpan x) := PureL.cons (.int _ _) (PureL.cons (.int _ _) (PureL.nil))
theorem pureHold (x : Hold) : PureL (encDHold x) := PureL.cons (.int _ _) (PureL.cons (.int _ _) (PureL.nil))
theorem pureTruck (x : Truck) : PureL (encDTruck x) := PureL.cons (.int _ _) (PureL.cons (.int _ _) (PureL.cons (.int _ _) (PureL.cons (.int _ _) (PureL.cons (.sl _ _ _ fun i _ d hd => pureHold _ d hd) (PureL.nil)))))
theorem pureConvoy (x : Convoy) : PureL (encDConvoy x) := PureL.cons (.int _ _) (PureL.cons (.int _ _) (PureL.cons (.int _ _) (PureL.cons (.sl _ _ _ fun i _ d hd => pureTruck _ d hd) (PureL.nil))))
theorem pureMeeting (x : Meeting) : PureL (encDMeeting x) := PureL.cons (.int _ _) (PureL.cons (.int _ _) (PureL.cons (.int _ _) (PureL.cons (.bool _) (PureL.cons (.bool _) (PureL.cons (.int _ _) (PureL.cons (.int _ _) (PureL.nil)))))))
theorem pureRide (x : Ride) : PureL (encDRide x) := PureL.cons (.int _ _) (PureL.cons (.int _ _) (PureL.cons (.int _ _) (PureL.cons (.int _ _) (PureL.cons (.sl _ _ _ fun i _ d hd => pureHold _ d hd) (PureL.cons (.int _ _) (PureL.nil))))))
theorem pureTrack (x : Track) : PureL (encDTrack x) := PureL.cons (.int _ _) (PureL.cons (.int _ _) (PureL.cons (.int _ _) (PureL.cons (.int _ _) (PureL.cons (.sl _ _ _ fun i _ d hd => pureHold _ d hd) (PureL.cons (.int _ _) (PureL.cons (.sl _ _ _ fun i _ d hd => pureSpan _ d hd) (PureL.nil)))))))
theorem pureLanes (x : Lanes) : PureL (encDLanes x) := PureL.cons (.int _ _) (PureL.cons (.int _ _) (PureL.cons (.int _ _) (PureL.cons (.int _ _) (PureL.cons (.sl _ _ _ fun i _ d hd => pureHold _ d hd) (PureL.cons (.int _ _) (PureL.cons (.sl _ _ _ fun i _ d hd => pureSpan _ d hd) (PureL.cons (.int _ _) (PureL.cons (.int _ _) (PureL.cons (.int _ _) (PureL.cons (.int _ _) (PureL.cons (.sl _ _ _ fun i _ d hd => pureHold _ d hd) (PureL.cons (.int _ _) (PureL.cons (.sl _ _ _ fun i _ d hd => pureSpan _ d hd) (PureL.nil))))))))))))))
theorem pureNearness (x : Nearness) : PureL (encDNearness x) := PureL.cons (.int _ _) (PureL.cons (.int _ _) (PureL.nil))
theorem purePair (x : Pair) : PureL (encDPair x) := PureL.cons (.int _ _) (PureL.cons (.int _ _) (PureL.nil))
theorem pureSeed (x : Seed) : PureL (encDSeed x) := PureL.cons (.int _ _) (PureL.nil)
theorem pureWays (x : Ways) : PureL (encDWays x) := PureL.cons (.sl _ _ _ fun i _ d hd => pureSpan _ d hd) (PureL.cons (.sl _ _ _ fun i _ d hd => pureSpan _ d hd) (PureL.nil))
theorem encD_pure : ∀ (t : T) (x : den t), PureL (encD t x)
  | .int k, x => PureL.cons (.int _ _) PureL.nil
  | .bool, x => PureL.cons (.bool _) PureL.nil
  | .str, x => PureL.cons (.str _) PureL.nil
  | .sl t, x => PureL.cons (.sl _ _ _ fun i _ d hd => encD_pure t _ d hd) PureL.nil
  | .ptr t, x => PureL.cons (.rp _ _ (encD_pure t x)) PureL.nil
  | .clo f t, x => PureL.cons (.fn _ _ (PureL.cons (.rp _ _ (encD_pure t x)) PureL.nil)) PureL.nil
  | .clo0 f, x => PureL.cons (.fn _ _ PureL.nil) PureL.nil
  | .clo2 f t u, x => PureL.cons (.fn _ _ (PureL.cons (.rp _ _ (encD_pure t x.1)) (PureL.cons (.rp _ _ (encD_pure u x.2)) PureL.nil))) PureL.nil
  | .mfn f t, x => PureL.cons (.mf _ _ (PureL.cons (.agg _ (encD_pure t x)) PureL.nil)) PureL.nil
  | .Span, x => pureSpan x
  | .Hold, x => pureHold x
  | .Truck, x => pureTruck x
  | .Convoy, x => pureConvoy x
  | .Meeting, x => pureMeeting x
  | .Ride, x => pureRide x
  | .Track, x => pureTrack x
  | .Lanes, x => pureLanes x
  | .Nearness, x => pureNearness x
  | .Pair, x => purePair x
  | .Seed, x => pureSeed x
  | .Ways, x => pureWays x
end Go.Ab
namespace Go.Ab
open Go Go.RowKit
set_option linter.all false
inductive IOwn where
  | none
  | box (l : List I)
  | arr (E : TypeId) (t : T) (l : List (den t))
  | arrp (E : TypeId) (t : T) (l : List (den t)) (i : Nat) (row : List I)
def IOwn.toOwn (h : Nat → Nat) : IOwn → Own
  | .none => .none
  | .box l => .box (I.toDL h l)
  | .arr E t l => .arr E (sz t) l.length (fun i => encD t (l.getD i (dflt t)))
  | .arrp E t l i row => .arr E (sz t) l.length (updF (fun i => encD t (l.getD i (dflt t))) i (I.toDL h row))
structure IS where
  rs : List (Nat × I)
  gs : List (Nat × Nat)
  os : List (Nat × IOwn)
def IS.get (S : IS) (t : Nat) : I := look .undef S.rs t
def IS.gen (S : IS) (s : Nat) : Nat := look 0 S.gs s
def IS.own (S : IS) (s : Nat) : IOwn := look .none S.os s
def IS.toSt (h : Nat → Nat) (S : IS) : St := ⟨fun t => (S.get t).toD h, fun s => h s + S.gen s, fun s => (S.own s).toOwn h⟩
structure ISeat extends Seat where
  gI : Nat → Option (List I)
  gI_ok : ∀ g h, toSeat.glob g = (gI g).map (I.toDL h)
  ty : Nat → Option T
  ty_ok : ∀ E t q, ty E = some t → nth toSeat.tab E = some q → Nat.beq q.k 9 = false ∧ q.sz = sz t ∧ q.zs.length = sz t
  ik : Nat → Option IntKind
  ik_ok : ∀ t k, ik t = some k → toSeat.P.underlying t = some (.int k)
  isB : Nat → Bool
  isB_ok : ∀ t, isB t = true → toSeat.P.underlying t = some .bool
  isF : Nat → Bool
  isF_ok : ∀ t, isF t = true → ∃ d, toSeat.P.underlying t = some d ∧ aggOf toSeat.P t = false
  isS : Nat → Bool
  isS_ok : ∀ t, isS t = true → toSeat.P.underlying t = some .string
def ofCI : Value → I
  | .int k n => .int k n
  | .bool b => .bool b
  | .string s => .str s
  | .slice none 0 0 => .nil
  | _ => .undef
def ofVI : Value → I
  | .agg cs => .agg (cs.toList.map ofCI)
  | v => ofCI v
def IS.ev (Z : ISeat) (nt : Nat) (S : IS) : Operand → I
  | .tmp t => bif Nat.blt t nt then S.get t else .undef
  | .const v => ofVI v
  | .global g => match Z.gI g with | some l => .rp l 0 | none => .undef
  | .func f => .fn f []
theorem toDL_map (h : Nat → Nat) : ∀ l : List I, I.toDL h l = l.map (I.toD h)
  | [] => rfl
  | d :: l => by simp only [I.toDL, List.map_cons, toDL_map h l]
theorem toD_ofC (h : Nat → Nat) (v : Value) : (ofCI v).toD h = ofC v := by
  cases v <;> try rfl
  rename_i a n c
  cases a <;> cases n <;> cases c <;> rfl
theorem toD_ofV (h : Nat → Nat) (v : Value) : (ofVI v).toD h = ofV v := by
  cases hv : v with
  | agg cs =>
    simp only [ofVI, ofV, I.toD, toDL_map, List.map_map]
    congr 1
    exact List.map_congr_left fun x _ => toD_ofC h x
  | _ => (try rfl) <;> (rw [← hv]; have := toD_ofC h v; rw [hv] at this ⊢; exact this)
structure Ef where
  t : Option Nat
  d : I
  g : Option (Nat × Nat)
  o : Option (Nat × IOwn)
def Ef.wr (e : Ef) : Wr := ⟨e.t, e.g.map (·.1), e.o.map (·.1)⟩
def Ef.vl (h : Nat → Nat) (e : Ef) : Vl := ⟨e.d.toD h, match e.g with | some p => h p.1 + p.2 | none => 0, match e.o with | some p => p.2.toOwn h | none => .none⟩
def IS.eff (S : IS) (e : Ef) : IS :=
  ⟨match e.t with | some t => (t, e.d) :: S.rs | none => S.rs, match e.g with | some p => p :: S.gs | none => S.gs, match e.o with | some p => p :: S.os | none => S.os⟩
theorem look_cons {α β : Type} (f : α → β) (e : α) (i : Nat) (a : α) (l : List (Nat × α)) : (fun j => f (look e ((i, a) :: l) j)) = upd (fun j => f (look e l j)) i (f a) := by
  funext j
  simp only [look, upd]
  cases Nat.beq j i <;> rfl
theorem toSt_eff (h : Nat → Nat) (S : IS) (e : Ef) : (S.eff e).toSt h = (S.toSt h).app e.wr (e.vl h) := by
  obtain ⟨t, d, g, o⟩ := e
  unfold IS.toSt St.app IS.eff Ef.wr Ef.vl
  congr 1
  · cases t with
    | none => rfl
    | some t => exact look_cons (I.toD h) .undef t d S.rs
  · cases g with
    | none => rfl
    | some p =>
      funext j
      simp only [IS.gen, look, Option.map_some, updO, upd]
      cases hb : Nat.beq j p.1 with
      | false => rfl
      | true => have := Nat.eq_of_beq_eq_true hb; subst this; rfl
  · cases o with
    | none => rfl
    | some p => exact look_cons (IOwn.toOwn h) .none p.1 p.2 S.os
mutual
def plI : I → List Nat
  | .bx s _ _ => [s]
  | .os s _ => [s]
  | .op s _ _ _ _ => [s]
  | .ow s _ _ _ _ => [s]
  | .agg l => plIL l
  | .tup l => plIL l
  | .fn _ l => plIL l
  | .mf _ l => plIL l
  | _ => []
def plIL : List I → List Nat
  | [] => []
  | d :: l => plI d ++ plIL l
end
mutual
theorem pl_toD (h : Nat → Nat) : ∀ d : I, plD (d.toD h) = plI d
  | .int _ _ => rfl | .bool _ => rfl | .str _ => rfl | .sl _ _ => rfl | .nil => rfl | .rp _ _ => rfl | .bx _ _ _ => rfl | .os _ _ => rfl | .op _ _ _ _ _ => rfl | .ow _ _ _ _ _ => rfl | .yl _ => rfl | .undef => rfl
  | .agg l => pl_toDL h l
  | .tup l => pl_toDL h l
  | .fn _ l => pl_toDL h l
  | .mf _ l => pl_toDL h l
theorem pl_toDL (h : Nat → Nat) : ∀ l : List I, plL (I.toDL h l) = plIL l
  | [] => rfl
  | d :: l => by simp only [I.toDL, plL, plIL, pl_toD h d, pl_toDL h l]
end
def plIS (Z : ISeat) (nt : Nat) (S : IS) : List Operand → List Nat
  | [] => []
  | x :: l => plI (S.ev Z nt x) ++ plIS Z nt S l
def lcI (Z : ISeat) (nt : Nat) (S : IS) (o : Oper) : Lc :=
  ⟨slotsOf o.op.operands.toList, (match lvl o with | 0 => [] | _ => plIS Z nt S o.op.operands.toList), (match lvl o with | 0 => [] | 1 => [] | _ => plIS Z nt S o.op.operands.toList)⟩
def OpOk (X : Ctx) (o : Oper) (T T' : St) : Prop := ∀ κ sv a w, Sim X κ sv T a w → ∀ K Qw, (∀ κ' sv' a' w', Sim X κ' sv' T' a' w' → K a' w') → o.wpIn X.F 0 X.Z.P a w K Qw
structure At (X : Ctx) (Z : ISeat) (nt : Nat) : Prop where
  Z : X.Z = Z.toSeat
  nt : X.nt = nt
section
variable {X : Ctx} {Z : ISeat} {nt : Nat} {S : IS} {o : Oper} {h : Nat → Nat} {T : St}
theorem ev_toSt (hX : At X Z nt) (x : Operand) : (S.toSt h).ev X x = (S.ev Z nt x).toD h := by
  cases x with
  | tmp t =>
    simp only [St.ev, IS.ev, hX.nt]
    cases Nat.blt t nt <;> rfl
  | const v => exact (toD_ofV h v).symm
  | func f => rfl
  | global g =>
    simp only [St.ev, IS.ev, hX.Z]
    rw [Z.gI_ok g h]
    cases Z.gI g <;> rfl
theorem plS_toSt (hX : At X Z nt) : ∀ l : List Operand, plS X (S.toSt h) l = plIS Z nt S l
  | [] => rfl
  | x :: l => by simp only [plS, plIS, ev_toSt hX, pl_toD, plS_toSt hX l]
theorem lc_toSt (hX : At X Z nt) : lcOf X (S.toSt h) o = lcI Z nt S o := by
  simp only [lcOf, lcI, plS_toSt hX]
  cases lvl o with
  | zero => rfl
  | succ n => cases n <;> rfl
structure Ag (X : Ctx) (Z : ISeat) (nt : Nat) (S : IS) (h : Nat → Nat) (T : St) (o : Oper) : Prop where
  at' : At X Z nt
  agr : Agree (lcOf X (S.toSt h) o) (S.toSt h) T
theorem Ag.ev (ha : Ag X Z nt S h T o) {x : Operand} (hx : x ∈ o.op.operands.toList) {d : I} (hd : S.ev Z nt x = d) : T.ev X x = d.toD h := by
  rw [agree_ev ha.agr hx, ev_toSt ha.at', hd]
theorem Ag.γ (ha : Ag X Z nt S h T o) (hl : lvl o ≠ 0) {x : Operand} (hx : x ∈ o.op.operands.toList) {s : Nat} (hs : s ∈ plI (S.ev Z nt x)) : T.γ s = h s + S.gen s :=
  agree_γ ha.agr hl hx (by rw [ev_toSt ha.at', pl_toD]; exact hs)
theorem Ag.σ (ha : Ag X Z nt S h T o) (hl : lvl o = 2) {x : Operand} (hx : x ∈ o.op.operands.toList) {s : Nat} (hs : s ∈ plI (S.ev Z nt x)) : T.σ s = (S.own s).toOwn h :=
  agree_σ ha.agr hl hx (by rw [ev_toSt ha.at', pl_toD]; exact hs)
theorem Ag.self (hX : At X Z nt) : Ag X Z nt S h (S.toSt h) o := ⟨hX, ⟨fun _ _ => rfl, fun _ _ => rfl, fun _ _ => rfl⟩⟩
def EfOk (X : Ctx) (Z : ISeat) (nt : Nat) (o : Oper) (S : IS) (e : Ef) : Prop := ∀ h T, Ag X Z nt S h T o → (∀ p, e.g = some p → T.γ p.1 = h p.1 + S.gen p.1) → OpOk X o T (T.app e.wr (e.vl h))
theorem opOk_q {d : D} {t : Nat} {g : Nat} {ow : Own} (hd : o.dst = some t) (hq : QOp X o T d) : OpOk X o T (T.app ⟨some t, none, none⟩ ⟨d, g, ow⟩) := fun κ sv a w hs K Qw hK => by
  obtain ⟨v, h1, h2⟩ := hq κ sv a w hs
  refine op_val (h2 w (Below.refl _ _)) ?_
  rw [hd]
  exact hK κ sv _ _ (hs.put (some t) h1)
theorem opOk_n {T' : St} (hn : NOp X o T T') : OpOk X o T T' := fun κ sv a w hs K Qw hK => by
  obtain ⟨v, w', κ', sv', h1, h2⟩ := hn κ sv a w hs
  rcases h1 with h1 | ⟨h1, rfl⟩
  · exact op_val h1 (hK κ' sv' _ _ h2)
  · exact op_skip h1 (hK κ' sv' _ _ h2)
theorem OpOk.wk {T1 T2 : St} (h1 : OpOk X o T T1) (hw : Wk X T1 T2) : OpOk X o T T2 := fun κ sv a w hs K Qw hK =>
  h1 κ sv a w hs K Qw fun κ' sv' a' w' hs' =>
    let ⟨κ2, sv2, hs2⟩ := hw κ' sv' a' w' hs'
    hK κ2 sv2 a' w' hs2
def vE (t : Nat) (d : I) : Ef := ⟨some t, d, none, none⟩
theorem efq {d : I} {t : Nat} (hd : o.dst = some t) (hq : ∀ h T, Ag X Z nt S h T o → QOp X o T (d.toD h)) : EfOk X Z nt o S (vE t d) := fun h T ha _ => opOk_q hd (hq h T ha)
end
def chk {R : Type} (b : Bool) (r : Option R) : Option R := bif b then r else none
theorem chk_some {R : Type} {b : Bool} {r : Option R} {x : R} (h : chk b r = some x) : b = true ∧ r = some x := by
  cases b with
  | true => exact ⟨rfl, h⟩
  | false => cases h
section
variable {α β : Type}
def takeP : Nat → List α → Option (List α)
  | 0, _ => some []
  | n + 1, d :: l => match takeP n l with
    | some m => some (d :: m)
    | none => none
  | _ + 1, [] => none
def dropP : Nat → List α → List α
  | 0, l => l
  | n + 1, _ :: l => dropP n l
  | _ + 1, [] => []
def overP : List α → Nat → List α → Option (List α)
  | l, 0, [] => some l
  | _ :: l, 0, d :: m => match overP l 0 m with
    | some k => some (d :: k)
    | none => none
  | x :: l, j + 1, m => match overP l j m with
    | some k => some (x :: k)
    | none => none
  | [], _, _ => none
def bldP (pl : Nat → Option (Nat × Nat)) : List α → List (Nat × List α) → Option (List α)
  | l, [] => some l
  | l, (i, m) :: rest => match pl i with
    | some (off, sz) => bif Nat.beq m.length sz then (match overP l off m with | some l' => bldP pl l' rest | none => none) else none
    | none => none
end
theorem take_map (h : Nat → Nat) : ∀ {n : Nat} {l m : List I}, takeP n l = some m → takeN n (I.toDL h l) = some (I.toDL h m)
  | 0, l, m, e => by simp [takeP] at e; subst e; rfl
  | n + 1, [], m, e => by simp [takeP] at e
  | n + 1, d :: l, m, e => by
    unfold takeP at e
    cases h1 : takeP n l with
    | none => rw [h1] at e; cases e
    | some m' =>
      rw [h1] at e
      simp only [Option.some.injEq] at e
      subst e
      simp only [I.toDL, takeN, take_map h h1]
theorem drop_map (h : Nat → Nat) : ∀ (n : Nat) (l : List I), dropN n (I.toDL h l) = I.toDL h (dropP n l)
  | 0, l => by simp [dropN, dropP]
  | n + 1, [] => by simp [dropN, dropP, I.toDL]
  | n + 1, d :: l => by simp only [I.toDL, dropN, dropP, drop_map h n l]
theorem over_map (h : Nat → Nat) : ∀ {l m k : List I} {j : Nat}, overP l j m = some k → overN (I.toDL h l) j (I.toDL h m) = some (I.toDL h k)
  | l, [], k, 0, e => by
    cases l <;> (simp [overP] at e; subst e; simp [I.toDL, overN])
  | [], m, k, j + 1, e => by simp [overP] at e
  | [], d :: m, k, 0, e => by simp [overP] at e
  | x :: l, d :: m, k, 0, e => by
    unfold overP at e
    cases h1 : overP l 0 m with
    | none => rw [h1] at e; cases e
    | some k' =>
      rw [h1] at e
      simp only [Option.some.injEq] at e
      subst e
      simp only [I.toDL, overN, over_map h h1]
  | x :: l, m, k, j + 1, e => by
    unfold overP at e
    cases h1 : overP l j m with
    | none => rw [h1] at e; cases e
    | some k' =>
      rw [h1] at e
      simp only [Option.some.injEq] at e
      subst e
      have := over_map h h1
      cases m <;> simp only [I.toDL, overN] at this ⊢ <;> rw [this]
theorem toDL_len (h : Nat → Nat) (l : List I) : (I.toDL h l).length = l.length := by simp [toDL_map]
theorem bld_map (h : Nat → Nat) (pl : Nat → Option (Nat × Nat)) : ∀ {ps : List (Nat × List I)} {l k : List I}, bldP pl l ps = some k → bldN pl (I.toDL h l) (ps.map fun p => (p.1, I.toDL h p.2)) = some (I.toDL h k)
  | [], l, k, e => by simp [bldP] at e; subst e; rfl
  | (i, m) :: ps, l, k, e => by
    simp only [bldP] at e
    simp only [List.map_cons, bldN, toDL_len]
    cases hp : pl i with
    | none => rw [hp] at e; cases e
    | some q =>
      obtain ⟨off, sz⟩ := q
      rw [hp] at e
      simp only at e ⊢
      cases hb : Nat.beq m.length sz with
      | false => rw [hb] at e; cases e
      | true =>
        rw [hb] at e
        simp only [cond_true] at e ⊢
        cases ho : overP l off m with
        | none => rw [ho] at e; cases e
        | some l' =>
          rw [ho] at e
          rw [over_map h ho]
          exact bld_map h pl e
theorem nth_map (h : Nat → Nat) : ∀ {l : List I} {n : Nat} {d : I}, nth l n = some d → nth (I.toDL h l) n = some (d.toD h)
  | [], n, d, e => by simp [nth] at e
  | x :: l, 0, d, e => by simp [nth] at e; subst e; rfl
  | x :: l, n + 1, d, e => by simp only [nth] at e; simp only [I.toDL, nth]; exact nth_map h e
def I.isCell : I → Bool
  | .agg _ | .tup _ | .undef => false
  | _ => true
def I.cells : I → List I
  | .agg l => l
  | d => [d]
def allC : List I → Bool
  | [] => true
  | d :: l => d.isCell && allC l
theorem isCell_toD (h : Nat → Nat) (d : I) : (d.toD h).isCell = d.isCell := by cases d <;> rfl
theorem allC_toDL (h : Nat → Nat) : ∀ l : List I, allCell (I.toDL h l) = allC l
  | [] => rfl
  | d :: l => by simp only [I.toDL, allCell, allC, isCell_toD, allC_toDL h l]
theorem cells_toD (h : Nat → Nat) (d : I) : (d.toD h).cells = I.toDL h d.cells := by cases d <;> rfl
def zI : Zr → I
  | .i k => .int k 0
  | .b => .bool false
  | .s => .str ⟨#[]⟩
  | .sl => .nil
theorem zI_toDL (h : Nat → Nat) : ∀ zs : List Zr, I.toDL h (zs.map zI) = zs.map Zr.toD
  | [] => rfl
  | z :: zs => by simp only [List.map_cons, I.toDL, zI_toDL h zs]; cases z <;> rfl
end Go.Ab
namespace Go.Ab
open Go Go.RowKit
set_option linter.all false
set_option maxHeartbeats 1000000
section
variable {R : Type} {X : Ctx} {Z : ISeat} {nt : Nat} {S : IS} {o : Oper} {r : R} {k : Ef → Option R} {t : Nat}
def isNil : Operand → Bool
  | .const (.slice none 0 0) => true
  | _ => false
theorem isNil_eq {x : Operand} (h : isNil x = true) : x = .const (.slice none 0 0) := by
  unfold isNil at h
  split at h
  · rfl
  · cases h
def slTy (Z : ISeat) (ty : Nat) : Option (Nat × T) := match nth Z.tab ty with
  | some r => bif Nat.beq r.k 3 then (match Z.ty r.el with | some t => some (r.el, t) | none => none) else none
  | none => none
def ownE (S : IS) (t s : Nat) (ow : IOwn) : Ef := ⟨some t, .os s (S.gen s + 1), some (s, S.gen s + 1), some (s, ow)⟩
theorem owned_app {h : Nat → Nat} {T : St} {t s : Nat} {ow : IOwn} (hγ : T.γ s = h s + S.gen s) : T.owned t s (ow.toOwn h) = T.app (ownE S t s ow).wr ((ownE S t s ow).vl h) := by
  unfold St.owned St.app ownE Ef.wr Ef.vl
  rw [hγ]; rfl
theorem n_nil {T : St} {x : Operand} {E z : Nat} {f : Nat → List D} (ho : o.op = .move x ∨ o.op = .assign x) (hd : o.dst = some t) (hx : x = .const (.slice none 0 0)) : NOp X o T (T.owned t t (.arr E z 0 f)) := fun κ sv a w hs => by
  subst hx
  refine ⟨.slice none 0 0, w, κ, upd sv t (.slice none 0 0), .inl ?_, ?_⟩
  · rcases ho with ho | ho <;> simp [execOp, ho, Act.eval]
  · rw [hd]
    exact sim_owned hs t t (pv := .slice none 0 0) (ow := .arr E z 0 f) rfl (below_grown (Below.refl _ _) _) (fun b hb => by cases hb)
      ⟨[], by rw [upd_same]; exact ownsAt_nil _ _ _ _, fun _ h => by omega, fun _ h => by omega, fun _ h => by omega⟩
def opMv (Z : ISeat) (nt : Nat) (S : IS) (ty : Nat) (t : Nat) (x : Operand) (k : Ef → Option R) : Option R :=
  bif isNil x then (match slTy Z ty with | some p => k (ownE S t t (.arr p.1 p.2 [])) | none => k (vE t .nil)) else k (vE t (S.ev Z nt x))
theorem opMv_ok {x : Operand} {ty : Nat} (ho : o.op = .move x ∨ o.op = .assign x) (hd : o.dst = some t) (h : opMv Z nt S ty t x k = some r) : ∃ e, k e = some r ∧ EfOk X Z nt o S e := by
  have q : EfOk X Z nt o S (vE t (S.ev Z nt x)) := efq hd fun h T ha => by
    rcases ho with ho | ho
    · exact q_move ho (ha.ev (by rw [ho]; simp [Op.operands]) rfl)
    · exact q_assign ho (ha.ev (by rw [ho]; simp [Op.operands]) rfl)
  unfold opMv at h
  cases hn : isNil x with
  | false => rw [hn] at h; exact ⟨_, h, q⟩
  | true =>
    rw [hn] at h
    have hx := isNil_eq hn
    simp only [cond_true] at h
    cases hs : slTy Z ty with
    | none =>
      rw [hs] at h
      have : S.ev Z nt x = .nil := by rw [hx]; rfl
      rw [this] at q
      exact ⟨_, h, q⟩
    | some p =>
      rw [hs] at h
      refine ⟨_, h, fun h T ha hg => ?_⟩
      rw [← owned_app (hg _ rfl)]
      exact opOk_n (n_nil ho hd hx)
def opPk (Z : ISeat) (nt : Nat) (S : IS) (t : Nat) (c x y : Operand) (k : Ef → Option R) : Option R := match S.ev Z nt c with
  | .bool b => bif b then k (vE t (S.ev Z nt x)) else k (vE t (S.ev Z nt y))
  | _ => none
theorem opPk_ok {c x y : Operand} (ho : o.op = .pick c x y) (hd : o.dst = some t) (h : opPk Z nt S t c x y k = some r) : ∃ e, k e = some r ∧ EfOk X Z nt o S e := by
  unfold opPk at h
  split at h
  · rename_i b hb
    cases b with
    | true => exact ⟨_, h, efq hd fun h T ha => q_pickT ho (ha.ev (by rw [ho]; simp [Op.operands]) hb) (ha.ev (by rw [ho]; simp [Op.operands]) rfl)⟩
    | false => exact ⟨_, h, efq hd fun h T ha => q_pickF ho (ha.ev (by rw [ho]; simp [Op.operands]) hb) (ha.ev (by rw [ho]; simp [Op.operands]) rfl)⟩
  · cases h
def zh : Nat → Nat := fun _ => 0
theorem eqL_h (h : Nat → Nat) : ∀ {l m : List I} {b : Bool}, eqL (I.toDL zh l) (I.toDL zh m) = some b → eqL (I.toDL h l) (I.toDL h m) = some b
  | [], [], b, e => e
  | [], _ :: _, b, e => by simp [I.toDL, eqL] at e
  | x :: l, [], b, e => by cases x <;> simp [I.toDL, I.toD, eqL, slD] at e
  | x :: l, y :: m, b, e => by
    cases x <;> cases y <;> simp only [I.toDL, I.toD, eqL, slD] at e ⊢ <;> try (cases e; done)
    · cases hk : (_ : IntKind) == _ with
      | false => simp [hk] at e
      | true =>
        simp only [hk] at e ⊢
        cases hr : eqL (I.toDL zh l) (I.toDL zh m) with
        | none => rw [hr] at e; simp at e
        | some r => rw [hr] at e; rw [eqL_h h hr]; exact e
    · cases hr : eqL (I.toDL zh l) (I.toDL zh m) with
      | none => rw [hr] at e; simp at e
      | some r => rw [hr] at e; rw [eqL_h h hr]; exact e
theorem fieldOk_h (h : Nat → Nat) (P : Program) (f : Field) (d : I) : fieldOk P f (d.toD h) = fieldOk P f (d.toD zh) := by cases d <;> rfl
theorem fieldsOk_h (h : Nat → Nat) (P : Program) : ∀ (fs : List Field) (l : List I) (n : Nat), fieldsOk P fs (I.toDL h l) n = fieldsOk P fs (I.toDL zh l) n
  | [], [], n => rfl
  | [], _ :: _, n => rfl
  | _ :: _, [], n => rfl
  | f :: fs, d :: l, n => by simp only [I.toDL, fieldsOk, fieldOk_h h, fieldsOk_h h P fs l]
theorem flatB_h (h : Nat → Nat) (P : Program) (ty : TypeId) (l : List I) : flatB P ty (I.toDL h l) = flatB P ty (I.toDL zh l) := by
  unfold flatB
  split
  · rw [fieldsOk_h]
  · rfl
theorem fields2Ok_h (h : Nat → Nat) (P : Program) : ∀ (fs : List Field) (l : List I) (n : Nat), fields2Ok P fs (I.toDL h l) n = fields2Ok P fs (I.toDL zh l) n
  | [], [], n => rfl
  | [], _ :: _, n => rfl
  | f :: fs, l, n => by
    have e1 : ∀ h : Nat → Nat, ∀ (l : List I) k, (I.toDL h l).take k = I.toDL h (l.take k) := fun h l k => by simp [toDL_map, List.map_take]
    have e2 : ∀ h : Nat → Nat, ∀ (l : List I) k, (I.toDL h l).drop k = I.toDL h (l.drop k) := fun h l k => by simp [toDL_map, List.map_drop]
    have e3 : ∀ (l : List I), (I.toDL h l).length = (I.toDL zh l).length := fun l => by simp [toDL_map]
    simp only [fields2Ok, e1, e2, flatB_h h, e3, fields2Ok_h h P fs]
theorem flatA_h (h : Nat → Nat) (P : Program) (ty : TypeId) (l : List I) : flatA P ty (I.toDL h l) = flatA P ty (I.toDL zh l) := by
  unfold flatA flat2B
  rw [flatB_h]
  split
  · rw [fields2Ok_h]
  · rfl
def opBin (Z : ISeat) (t : Nat) (op : BinOp) (ty : TypeId) (k : Ef → Option R) : I → I → Option R
  | .int k1 m, .int k2 n => match op with
    | .eql => chk (decide (k1 = k2)) (k (vE t (.bool (m == n))))
    | .neq => chk (decide (k1 = k2)) (k (vE t (.bool (m != n))))
    | .lss => chk (decide (k1 = k2)) (k (vE t (.bool (decide (m < n)))))
    | .leq => chk (decide (k1 = k2)) (k (vE t (.bool (decide (m ≤ n)))))
    | .gtr => chk (decide (k1 = k2)) (k (vE t (.bool (decide (m > n)))))
    | .geq => chk (decide (k1 = k2)) (k (vE t (.bool (decide (m ≥ n)))))
    | .add => chk (decide (k1 = k2)) (k (vE t (.int k1 (k1.wrap (m + n)))))
    | .sub => chk (decide (k1 = k2)) (k (vE t (.int k1 (k1.wrap (m - n)))))
    | .mul => chk (decide (k1 = k2)) (k (vE t (.int k1 (k1.wrap (m * n)))))
    | .quo => chk (decide (k1 = k2)) (chk (n != 0) (k (vE t (.int k1 (k1.wrap (m.tdiv n))))))
    | .rem => chk (decide (k1 = k2)) (chk (n != 0) (k (vE t (.int k1 (m.tmod n)))))
    | .xor => chk (decide (k1 = k2)) (k (vE t (.int k1 (k1.wrap (BitVec.ofInt k1.bits m ^^^ BitVec.ofInt k1.bits n).toNat))))
    | .and => chk (decide (k1 = k2)) (k (vE t (.int k1 (k1.wrap (BitVec.ofInt k1.bits m &&& BitVec.ofInt k1.bits n).toNat))))
    | .shr => chk (decide (0 ≤ n)) (k (vE t (.int k1 (m.fdiv (2 ^ (min n.toNat k1.bits))))))
    | .shl => chk (decide (0 ≤ n)) (k (vE t (.int k1 (k1.wrap (m * 2 ^ (min n.toNat k1.bits))))))
    | _ => none
  | .bool a, .bool b => match op with
    | .eql => chk (Z.isB ty) (k (vE t (.bool (a == b))))
    | .neq => chk (Z.isB ty) (k (vE t (.bool (!(a == b)))))
    | _ => none
  | .str a, .str b => (match op with
    | .eql => k (vE t (.bool (a.toList == b.toList)))
    | .neq => k (vE t (.bool (!(a.toList == b.toList))))
    | _ => none)
  | .agg l, .agg m => chk (flatA Z.P ty (I.toDL zh l)) (match eqL (I.toDL zh l) (I.toDL zh m) with
    | some b => (match op with
      | .eql => k (vE t (.bool b))
      | .neq => k (vE t (.bool (!b)))
      | _ => none)
    | none => none)
  | _, _ => none
theorem opBin_ok (hX : At X Z nt) {op : BinOp} {ty ty2 : TypeId} {x y : Operand} (ho : o.op = .binOp op ty x y ty2) (hd : o.dst = some t) (h : opBin Z t op ty k (S.ev Z nt x) (S.ev Z nt y) = some r) : ∃ e, k e = some r ∧ EfOk X Z nt o S e := by
  have mx : x ∈ o.op.operands.toList := by rw [ho]; simp [Op.operands]
  have my : y ∈ o.op.operands.toList := by rw [ho]; simp [Op.operands]
  unfold opBin at h
  split at h
  · rename_i k1 m k2 n hx hy
    have cm : ∀ {b : Bool}, k1 = k2 → cmpI op m n = some b → EfOk X Z nt o S (vE t (.bool b)) := fun e hc => by
      subst e
      exact efq hd fun h T ha => q_cmp ho (ha.ev mx hx) (ha.ev my hy) hc
    have ar : ∀ {e : Int}, k1 = k2 → arithI op m n = some e → EfOk X Z nt o S (vE t (.int k1 (k1.wrap e))) := fun e hc => by
      subst e
      exact efq hd fun h T ha => q_arithw ho (ha.ev mx hx) (ha.ev my hy) hc
    split at h <;> first
      | (obtain ⟨h1, h2⟩ := chk_some h; exact ⟨_, h2, cm (of_decide_eq_true h1) rfl⟩)
      | (obtain ⟨h1, h2⟩ := chk_some h; exact ⟨_, h2, ar (of_decide_eq_true h1) rfl⟩)
      | (obtain ⟨h1, h⟩ := chk_some h
         obtain ⟨h3, h2⟩ := chk_some h
         have := of_decide_eq_true h1
         subst this
         have hn : n ≠ 0 := by simpa using h3
         refine ⟨_, h2, efq hd fun h T ha => ?_⟩
         first
          | exact q_quot ho (ha.ev mx hx) (ha.ev my hy) hn
          | exact q_remt ho (ha.ev mx hx) (ha.ev my hy) hn)
      | (obtain ⟨h1, h2⟩ := chk_some h
         have := of_decide_eq_true h1
         subst this
         refine ⟨_, h2, efq hd fun h T ha => ?_⟩
         first
          | exact q_xor ho (ha.ev mx hx) (ha.ev my hy)
          | exact q_and ho (ha.ev mx hx) (ha.ev my hy))
      | (obtain ⟨h1, h2⟩ := chk_some h
         have := of_decide_eq_true h1
         refine ⟨_, h2, efq hd fun h T ha => ?_⟩
         first
          | exact q_shr ho (ha.ev mx hx) (ha.ev my hy) this
          | exact q_shl ho (ha.ev mx hx) (ha.ev my hy) this)
      | cases h
  · rename_i a b hx hy
    split at h
    · obtain ⟨h1, h2⟩ := chk_some h
      exact ⟨_, h2, efq hd fun h T ha => q_beq ho (by rw [hX.Z]; exact Z.isB_ok _ h1) (ha.ev mx hx) (ha.ev my hy)⟩
    · obtain ⟨h1, h2⟩ := chk_some h
      exact ⟨_, h2, efq hd fun h T ha => q_bneq ho (by rw [hX.Z]; exact Z.isB_ok _ h1) (ha.ev mx hx) (ha.ev my hy)⟩
    · cases h
  · rename_i a b hx hy
    split at h
    · exact ⟨_, h, efq hd fun h T ha => q_eqS ho (ha.ev mx hx) (ha.ev my hy)⟩
    · exact ⟨_, h, efq hd fun h T ha => q_neS ho (ha.ev mx hx) (ha.ev my hy)⟩
    · cases h
  · rename_i l m hx hy
    obtain ⟨h1, h⟩ := chk_some h
    split at h
    · rename_i b hb
      split at h
      · exact ⟨_, h, efq hd fun h T ha => q_eqA ho (ha.ev mx hx) (ha.ev my hy) (eqL_h h hb) (by rw [hX.Z, flatA_h]; exact h1)⟩
      · exact ⟨_, h, efq hd fun h T ha => q_neA ho (ha.ev mx hx) (ha.ev my hy) (eqL_h h hb) (by rw [hX.Z, flatA_h]; exact h1)⟩
      · cases h
    · cases h
  · cases h
theorem q_negw {T : St} {ty : TypeId} {x : Operand} {kk : IntKind} {n : Int} (ho : o.op = .unOp .neg ty x) (hx : T.ev X x = .int kk n) : QOp X o T (.int kk (kk.wrap (-n))) := fun κ sv a w hs =>
  ⟨.int kk (kk.wrap (-n)), .int _ _, fun w' _ => by simp [execOp, ho, ev_int hs hx, Op.unary, Op.intArith]⟩
def opUn (t : Nat) (op : UnOp) (k : Ef → Option R) : I → Option R
  | .bool b => match op with | .not => k (vE t (.bool (!b))) | _ => none
  | .int kk n => match op with | .neg => k (vE t (.int kk (kk.wrap (-n)))) | _ => none
  | _ => none
theorem opUn_ok {op : UnOp} {ty : TypeId} {x : Operand} (ho : o.op = .unOp op ty x) (hd : o.dst = some t) (h : opUn t op k (S.ev Z nt x) = some r) : ∃ e, k e = some r ∧ EfOk X Z nt o S e := by
  have mx : x ∈ o.op.operands.toList := by rw [ho]; simp [Op.operands]
  unfold opUn at h
  split at h
  · rename_i b hx
    split at h
    · exact ⟨_, h, efq hd fun h T ha => q_not ho (ha.ev mx hx)⟩
    · cases h
  · rename_i b hx
    split at h
    · exact ⟨_, h, efq hd fun h T ha => q_negw ho (ha.ev mx hx)⟩
    · cases h
  · cases h
def opCv (Z : ISeat) (t : Nat) (ty ty2 : TypeId) (k : Ef → Option R) : I → Option R
  | .int _ n => chk ((Z.ik ty).isSome) (match Z.ik ty2 with | some k2 => k (vE t (.int k2 (k2.wrap n))) | none => none)
  | _ => none
theorem opCv_ok (hX : At X Z nt) {ty ty2 : TypeId} {x : Operand} (ho : o.op = .convert ty ty2 x) (hd : o.dst = some t) (h : opCv Z t ty ty2 k (S.ev Z nt x) = some r) : ∃ e, k e = some r ∧ EfOk X Z nt o S e := by
  have mx : x ∈ o.op.operands.toList := by rw [ho]; simp [Op.operands]
  unfold opCv at h
  split at h
  · rename_i kk n hx
    obtain ⟨h1, h⟩ := chk_some h
    obtain ⟨k1, e1⟩ := Option.isSome_iff_exists.1 h1
    split at h
    · rename_i k2 e2
      exact ⟨_, h, efq hd fun h T ha => q_conv ho (by rw [hX.Z, Z.ik_ok _ _ e1]; rfl) (by rw [hX.Z]; exact Z.ik_ok _ _ e2) (ha.ev mx hx)⟩
    · cases h
  · cases h
def opEx (t i : Nat) (k : Ef → Option R) : I → Option R
  | .tup l => match nth l i with | some d => k (vE t d) | none => none
  | _ => none
theorem opEx_ok {i : Nat} {x : Operand} (ho : o.op = .extract x i) (hd : o.dst = some t) (h : opEx t i k (S.ev Z nt x) = some r) : ∃ e, k e = some r ∧ EfOk X Z nt o S e := by
  have mx : x ∈ o.op.operands.toList := by rw [ho]; simp [Op.operands]
  unfold opEx at h
  split at h
  · rename_i l hx
    split at h
    · rename_i d hi
      exact ⟨_, h, efq hd fun h T ha => q_ext ho (ha.ev mx hx) (nth_map h hi)⟩
    · cases h
  · cases h
end
end Go.Ab
namespace Go.Ab
open Go Go.RowKit
set_option linter.all false
set_option maxHeartbeats 1000000
section
variable {R : Type} {X : Ctx} {Z : ISeat} {nt : Nat} {S : IS} {o : Oper} {r : R} {k : Ef → Option R} {t : Nat}
def rowOf (Z : ISeat) (ty : Nat) (k : TRow → Option R) : Option R := match nth Z.tab ty with
  | some q => bif Nat.beq q.k 9 then none else k q
  | none => none
theorem rowOf_ok {ty : Nat} {f : TRow → Option R} (h : rowOf Z ty f = some r) : ∃ q, nth Z.tab ty = some q ∧ Nat.beq q.k 9 = false ∧ f q = some r := by
  unfold rowOf at h
  split at h
  · rename_i q hq
    cases hb : Nat.beq q.k 9 with
    | true => rw [hb] at h; cases h
    | false => rw [hb] at h; exact ⟨q, hq, hb, h⟩
  · cases h
def isAg (q : TRow) : Bool := Nat.beq q.k 1 || Nat.beq q.k 2
theorem q_fielda {T : St} {ty : TypeId} {x : Operand} {f off fsz : Nat} {l m : List D} {q : TRow} (ho : o.op = .field ty x f) (hx : T.ev X x = .agg l) (hr : nth X.Z.tab ty = some q) (hk : Nat.beq q.k 1 = true)
    (hf : nth q.fl f = some (off, fsz, true)) (hm : takeN fsz (dropN off l) = some m) : QOp X o T (.agg m) := fun κ sv a w hs => by
  have hok := X.Z.tabOk _ _ hr (by intro e; rw [e] at hk; cases hk)
  obtain ⟨i, dd, hi, hdd, _, _, _, h4⟩ := row_info hok
  have hk1 := Nat.eq_of_beq_eq_true hk
  cases dd <;> try (simp only at h4; omega)
  rename_i fs
  obtain ⟨_, hfl, hall⟩ := h4
  rw [nth_eq, ← hfl, List.getElem?_map] at hf
  obtain ⟨rfl, hlen⟩ := takeN_eq hm
  rw [dropN_eq] at hlen ⊢
  obtain ⟨vs, he, hl⟩ := ev_agg hs hx
  refine ⟨.agg ((vs.drop off).take fsz).toArray, .agg _ _ ((hl.drop _).take _), fun w' _ => ?_⟩
  cases hff : fs.toList[f]? with
  | none => rw [hff] at hf; cases hf
  | some fld =>
    rw [hff] at hf
    simp only [Option.map_some, Option.some.injEq, Prod.mk.injEq] at hf
    obtain ⟨h1, h2, h3⟩ := hf
    have hsome := List.all_eq_true.1 hall fld (List.mem_of_getElem? hff)
    rw [Bool.and_eq_true] at hsome
    obtain ⟨d2, hu2⟩ := Option.isSome_iff_exists.1 hsome.2
    obtain ⟨i2, hi2⟩ := Option.isSome_iff_exists.1 hsome.1
    have hff' : fs[f]? = some fld := by simpa using hff
    have hagg : (isAgg fld.type).run X.Z.P w' = .ok true w' := by rw [run_isAgg hu2, h3]
    have hsz : i2.size = fsz := by rw [← cellsOf_eq hi2, h2]
    have hext : vs.toArray.extract off (off + fsz) = ((vs.drop off).take fsz).toArray := by simp [List.extract_eq_drop_take]
    simp [execOp, ho, he, Instr.field, run_underlying hdd, hff', asAgg, part, hagg, h1, run_sizeOf hi2, hsz, hext]
def opFd (Z : ISeat) (t ty f : Nat) (k : Ef → Option R) : I → Option R
  | .agg l => rowOf Z ty fun q => chk (Nat.beq q.k 1) (match nth q.fl f with
    | some (off, fsz, true) => (match takeP fsz (dropP off l) with | some m => k (vE t (.agg m)) | none => none)
    | some (off, _, false) => (match nth l off with | some d => k (vE t d) | none => none)
    | none => none)
  | _ => none
theorem opFd_ok (hX : At X Z nt) {ty f : Nat} {x : Operand} (ho : o.op = .field ty x f) (hd : o.dst = some t) (h : opFd Z t ty f k (S.ev Z nt x) = some r) : ∃ e, k e = some r ∧ EfOk X Z nt o S e := by
  have mx : x ∈ o.op.operands.toList := by rw [ho]; simp [Op.operands]
  unfold opFd at h
  split at h
  · rename_i l hx
    obtain ⟨q, hq, h9, h⟩ := rowOf_ok h
    obtain ⟨hk, h⟩ := chk_some h
    split at h
    · rename_i off fsz hf
      split at h
      · rename_i m hm
        exact ⟨_, h, efq hd fun h T ha => q_fielda ho (ha.ev mx hx) (by rw [hX.Z]; exact hq) hk hf (by rw [drop_map]; exact take_map h hm)⟩
      · cases h
    · rename_i off fsz hf
      split at h
      · rename_i d hm
        exact ⟨_, h, efq hd fun h T ha => q_field ho (ha.ev mx hx) (by rw [hX.Z]; exact hq) hk hf rfl (nth_map h hm)⟩
      · cases h
    · cases h
  · cases h
def partsI (Z : ISeat) (nt : Nat) (S : IS) : List (Nat × Operand) → List (Nat × List I)
  | [] => []
  | (i, x) :: l => (i, (S.ev Z nt x).cells) :: partsI Z nt S l
def partsB (Z : ISeat) (nt : Nat) (S : IS) : List (Nat × Operand) → Bool
  | [] => true
  | (_, x) :: l => allC (S.ev Z nt x).cells && partsB Z nt S l
theorem parts_map {h : Nat → Nat} {T : St} (ha : Ag X Z nt S h T o) : ∀ {l : List (Nat × Operand)}, (∀ p ∈ l, p.2 ∈ o.op.operands.toList) →
    partsD X T l = (partsI Z nt S l).map (fun p => (p.1, I.toDL h p.2)) ∧ partsOk X T l = partsB Z nt S l
  | [], _ => ⟨rfl, rfl⟩
  | (i, x) :: l, hm => by
    obtain ⟨h1, h2⟩ := parts_map ha (l := l) fun p hp => hm p (List.mem_cons_of_mem _ hp)
    have h3 := ha.ev (hm (i, x) (List.mem_cons_self ..)) rfl
    simp only at h3
    simp only [partsD, partsI, partsOk, partsB, List.map_cons, h1, h2, h3, cells_toD, allC_toDL, and_self]
def opBd (Z : ISeat) (nt : Nat) (S : IS) (t ty : Nat) (ps : Array (Nat × Operand)) (k : Ef → Option R) : Option R := rowOf Z ty fun q => chk (partsB Z nt S ps.toList)
  (bif Nat.beq q.k 1 then (match bldP (plF q.fl) (q.zs.map zI) (partsI Z nt S ps.toList) with | some l => k (vE t (.agg l)) | none => none)
   else chk (Nat.beq q.k 2) (rowOf Z q.el fun q2 => match bldP (fun i => some (i * q2.sz, q2.sz)) (q.zs.map zI) (partsI Z nt S ps.toList) with | some l => k (vE t (.agg l)) | none => none))
theorem opBd_ok (hX : At X Z nt) {ty : Nat} {ps : Array (Nat × Operand)} (ho : o.op = .build ty ps) (hd : o.dst = some t) (h : opBd Z nt S t ty ps k = some r) : ∃ e, k e = some r ∧ EfOk X Z nt o S e := by
  have hm : ∀ p ∈ ps.toList, p.2 ∈ o.op.operands.toList := fun p hp => by rw [ho]; simp only [Op.operands]; exact List.mem_map.2 ⟨p, hp, rfl⟩
  unfold opBd at h
  obtain ⟨q, hq, h9, h⟩ := rowOf_ok h
  obtain ⟨hp, h⟩ := chk_some h
  cases hk : Nat.beq q.k 1 with
  | true =>
    rw [hk] at h
    simp only [cond_true] at h
    split at h
    · rename_i l hl
      refine ⟨_, h, efq hd fun h T ha => ?_⟩
      obtain ⟨h1, h2⟩ := parts_map ha hm
      exact q_bld ho (by rw [hX.Z]; exact hq) hk (h2.trans hp) (by rw [h1, ← zI_toDL h]; exact bld_map h _ hl)
    · cases h
  | false =>
    rw [hk] at h
    simp only [cond_false] at h
    obtain ⟨hk2, h⟩ := chk_some h
    obtain ⟨q2, hq2, h92, h⟩ := rowOf_ok h
    split at h
    · rename_i l hl
      refine ⟨_, h, efq hd fun h T ha => ?_⟩
      obtain ⟨h1, h2⟩ := parts_map ha hm
      exact q_blda ho (by rw [hX.Z]; exact hq) hk2 rfl (by rw [hX.Z]; exact hq2) h92 (h2.trans hp) (by rw [h1, ← zI_toDL h]; exact bld_map h _ hl)
    · cases h
def ldC (q : TRow) (t : Nat) (l : List I) (j : Nat) (k : Ef → Option R) : Option R :=
  bif isAg q then (match takeP q.sz (dropP j l) with | some m => k (vE t (.agg m)) | none => none) else (match nth l j with | some d => k (vE t d) | none => none)
theorem ldC_ok {q : TRow} {l : List I} {j : Nat} (h : ldC q t l j k = some r) : (isAg q = true ∧ ∃ m, takeP q.sz (dropP j l) = some m ∧ k (vE t (.agg m)) = some r) ∨ (isAg q = false ∧ ∃ d, nth l j = some d ∧ k (vE t d) = some r) := by
  unfold ldC at h
  cases ha : isAg q with
  | true =>
    rw [ha] at h
    simp only [cond_true] at h
    split at h
    · exact .inl ⟨rfl, _, by assumption, h⟩
    · cases h
  | false =>
    rw [ha] at h
    simp only [cond_false] at h
    split at h
    · exact .inr ⟨rfl, _, by assumption, h⟩
    · cases h
def rowI (ty : T) (l : List (den ty)) (i : Nat) : List I := encC ty (l.getD i (dflt ty))
def opLd (Z : ISeat) (S : IS) (t ty : Nat) (k : Ef → Option R) : I → Option R
  | .rp l j => bif Z.isF ty then (match nth l j with | some d => k (vE t d) | none => none) else rowOf Z ty fun q => ldC q t l j k
  | .bx s g j => bif Z.isF ty then (bif Nat.beq g (S.gen s) then (match S.own s with | .box l => (match nth l j with | some d => k (vE t d) | none => none) | _ => none) else none) else rowOf Z ty fun q => bif Nat.beq g (S.gen s) then (match S.own s with | .box l => ldC q t l j k | _ => none) else none
  | .op s g z i j => rowOf Z ty fun q => bif Nat.beq g (S.gen s) then (match S.own s with | .arr _ e l => chk (Nat.beq z (sz e)) (chk (decide (i < l.length)) (ldC q t (rowI e l i) j k)) | _ => none) else none
  | _ => none
theorem pl_bx {x : Operand} {s g j : Nat} (hx : S.ev Z nt x = .bx s g j) : s ∈ plI (S.ev Z nt x) := by rw [hx]; simp [plI]
theorem pl_os {x : Operand} {s g : Nat} (hx : S.ev Z nt x = .os s g) : s ∈ plI (S.ev Z nt x) := by rw [hx]; simp [plI]
theorem pl_op {x : Operand} {s g z i j : Nat} (hx : S.ev Z nt x = .op s g z i j) : s ∈ plI (S.ev Z nt x) := by rw [hx]; simp [plI]
theorem opLd_ok (hX : At X Z nt) {ty : Nat} {x : Operand} (ho : o.op = .load ty x) (hd : o.dst = some t) (h : opLd Z S t ty k (S.ev Z nt x) = some r) : ∃ e, k e = some r ∧ EfOk X Z nt o S e := by
  have mx : x ∈ o.op.operands.toList := by rw [ho]; simp [Op.operands]
  have hl2 : lvl o = 2 := by simp [lvl, ho]
  have hl1 : lvl o ≠ 0 := by rw [hl2]; simp
  unfold opLd at h
  split at h
  · rename_i l j hx
    cases hF : Z.isF ty with
    | true =>
      rw [hF] at h
      simp only [cond_true] at h
      obtain ⟨td, hu, ha0⟩ := Z.isF_ok _ hF
      split at h
      · rename_i d hm
        exact ⟨_, h, efq hd fun h T ha => q_ldrf ho (ha.ev mx hx) (by rw [hX.Z]; exact hu) (by rw [hX.Z]; exact ha0) (nth_map h hm)⟩
      · cases h
    | false =>
    rw [hF] at h
    simp only [cond_false] at h
    obtain ⟨q, hq, h9, h⟩ := rowOf_ok h
    rcases ldC_ok h with ⟨hk, m, hm, h⟩ | ⟨hk, d, hm, h⟩
    · exact ⟨_, h, efq hd fun h T ha => q_ldra ho (ha.ev mx hx) (by rw [hX.Z]; exact hq) hk h9 (by rw [drop_map]; exact take_map h hm)⟩
    · exact ⟨_, h, efq hd fun h T ha => q_ldr ho (ha.ev mx hx) (by rw [hX.Z]; exact hq) hk h9 (nth_map h hm)⟩
  · rename_i s g j hx
    cases hF : Z.isF ty with
    | true =>
      rw [hF] at h
      simp only [cond_true] at h
      obtain ⟨td, hu, ha0⟩ := Z.isF_ok _ hF
      cases hg : Nat.beq g (S.gen s) with
      | false => rw [hg] at h; cases h
      | true =>
      have hg := Nat.eq_of_beq_eq_true hg
      subst hg
      simp only [Nat.beq_refl, cond_true] at h
      split at h
      · rename_i l hσ
        have hp := pl_bx hx
        split at h
        · rename_i d hm
          exact ⟨_, h, efq hd fun h T ha => q_ldbf ho (ha.ev mx hx) (by rw [hX.Z]; exact hu) (by rw [hX.Z]; exact ha0) (ha.γ hl1 mx hp) ((ha.σ hl2 mx hp).trans (by rw [hσ]; rfl)) (nth_map h hm)⟩
        · cases h
      · cases h
    | false =>
    rw [hF] at h
    simp only [cond_false] at h
    obtain ⟨q, hq, h9, h⟩ := rowOf_ok h
    cases hg : Nat.beq g (S.gen s) with
    | false => rw [hg] at h; cases h
    | true =>
    have hg := Nat.eq_of_beq_eq_true hg
    subst hg
    simp only [Nat.beq_refl, cond_true] at h
    split at h
    · rename_i l hσ
      have hp := pl_bx hx
      rcases ldC_ok h with ⟨hk, m, hm, h⟩ | ⟨hk, d, hm, h⟩
      · exact ⟨_, h, efq hd fun h T ha => q_ldba ho (ha.ev mx hx) (by rw [hX.Z]; exact hq) hk h9 (ha.γ hl1 mx hp) ((ha.σ hl2 mx hp).trans (by rw [hσ]; rfl)) (by rw [drop_map]; exact take_map h hm)⟩
      · exact ⟨_, h, efq hd fun h T ha => q_ldb ho (ha.ev mx hx) (by rw [hX.Z]; exact hq) hk h9 (ha.γ hl1 mx hp) ((ha.σ hl2 mx hp).trans (by rw [hσ]; rfl)) (nth_map h hm)⟩
    · cases h
  · rename_i s g z i j hx
    obtain ⟨q, hq, h9, h⟩ := rowOf_ok h
    cases hg : Nat.beq g (S.gen s) with
    | false => rw [hg] at h; cases h
    | true =>
    have hg := Nat.eq_of_beq_eq_true hg
    subst hg
    simp only [Nat.beq_refl, cond_true] at h
    split at h
    · rename_i E e l hσ
      obtain ⟨hz0, h2⟩ := chk_some h
      obtain ⟨hi0, h3⟩ := chk_some h2
      clear h h2
      have hz := Nat.eq_of_beq_eq_true hz0
      clear hz0
      subst hz
      have hi := of_decide_eq_true hi0
      have h := h3
      clear h3
      have hp := pl_op hx
      have er : ∀ h : Nat → Nat, encD e (l.getD i (dflt e)) = I.toDL h (rowI e l i) := fun h => (toDL_enc h e _).symm
      have hσT : ∀ h T, Ag X Z nt S h T o → T.σ s = .arr E (sz e) l.length (fun i => encD e (l.getD i (dflt e))) := fun h T ha => (ha.σ hl2 mx hp).trans (by rw [hσ]; rfl)
      rcases ldC_ok h with ⟨hk, m, hm, h⟩ | ⟨hk, d, hm, h⟩
      · exact ⟨_, h, efq hd fun h T ha => q_ldoa ho (ha.ev mx hx) (by rw [hX.Z]; exact hq) hk h9 (ha.γ hl1 mx hp) (hσT h T ha) hi (by rw [er h, drop_map]; exact take_map h hm)⟩
      · exact ⟨_, h, efq hd fun h T ha => q_ldo ho (ha.ev mx hx) (by rw [hX.Z]; exact hq) hk h9 (ha.γ hl1 mx hp) (hσT h T ha) hi (by rw [er h]; exact nth_map h hm)⟩
    · cases h
  · cases h
end
end Go.Ab
namespace Go.Ab
open Go Go.RowKit
set_option linter.all false
set_option maxHeartbeats 1000000
section
variable {R : Type} {X : Ctx} {Z : ISeat} {nt : Nat} {S : IS} {o : Oper} {r : R} {k : Ef → Option R} {t : Nat}
def live (S : IS) (s g : Nat) (x : Option R) : Option R := bif Nat.beq g (S.gen s) then x else none
theorem live_ok {s g : Nat} {x : Option R} (h : live S s g x = some r) : g = S.gen s ∧ x = some r := by
  unfold live at h
  cases hg : Nat.beq g (S.gen s) with
  | false => rw [hg] at h; cases h
  | true => rw [hg] at h; exact ⟨Nat.eq_of_beq_eq_true hg, h⟩
def opFa (Z : ISeat) (S : IS) (t ty f : Nat) (k : Ef → Option R) (d : I) : Option R := rowOf Z ty fun q => chk (Nat.beq q.k 1) (match nth q.fl f with
  | some (off, fsz, _) => bif Nat.beq fsz 0 then none else (match d with
    | .rp l j => k (vE t (.rp l (j + off)))
    | .bx s g j => live S s g (k (vE t (.bx s g (j + off))))
    | .op s g z i j => live S s g (k (vE t (.op s g z i (j + off))))
    | _ => none)
  | none => none)
theorem opFa_ok (hX : At X Z nt) {ty f : Nat} {x : Operand} (ho : o.op = .fieldAddr ty x f) (hd : o.dst = some t) (h : opFa Z S t ty f k (S.ev Z nt x) = some r) : ∃ e, k e = some r ∧ EfOk X Z nt o S e := by
  have mx : x ∈ o.op.operands.toList := by rw [ho]; simp [Op.operands]
  have hl1 : lvl o ≠ 0 := by simp [lvl, ho]
  unfold opFa at h
  obtain ⟨q, hq, h9, h⟩ := rowOf_ok h
  obtain ⟨hk, h⟩ := chk_some h
  split at h
  · rename_i off fsz ag hf
    cases hz : Nat.beq fsz 0 with
    | true => rw [hz] at h; cases h
    | false =>
      rw [hz] at h
      simp only [cond_false] at h
      split at h
      · rename_i l j hx
        exact ⟨_, h, efq hd fun h T ha => q_far ho (ha.ev mx hx) (by rw [hX.Z]; exact hq) hk hf hz⟩
      · rename_i s g j hx
        replace h := live_ok h
        obtain ⟨rfl, h⟩ := h
        exact ⟨_, h, efq hd fun h T ha => q_fab ho (ha.ev mx hx) (ha.γ hl1 mx (pl_bx hx)) (by rw [hX.Z]; exact hq) hk hf hz⟩
      · rename_i s g z i j hx
        replace h := live_ok h
        obtain ⟨rfl, h⟩ := h
        exact ⟨_, h, efq hd fun h T ha => q_fao ho (ha.ev mx hx) (ha.γ hl1 mx (pl_op hx)) (by rw [hX.Z]; exact hq) hk hf hz⟩
      · cases h
  · cases h
def finIx (i : Int) (k : Nat → Option R) : Nat → Nat → Option R
  | 0, _ => none
  | n + 1, a => bif i == (a : Int) then k a else finIx i k n (a + 1)
theorem finIx_ok {i : Int} {k : Nat → Option R} : ∀ {n a : Nat}, finIx i k n a = some r → ∃ j : Nat, i = (j : Int) ∧ j < a + n ∧ k j = some r
  | 0, a, h => by cases h
  | n + 1, a, h => by
    unfold finIx at h
    cases hb : i == (a : Int) with
    | true => rw [hb] at h; exact ⟨a, by simpa using hb, by omega, h⟩
    | false =>
      rw [hb] at h
      obtain ⟨j, h1, h2, h3⟩ := finIx_ok h
      exact ⟨j, h1, by omega, h3⟩
theorem q_iaop {T : St} {ty : TypeId} {x y : Operand} {r q : TRow} {s g z i j : Nat} {k : Int} (ho : o.op = .indexAddr ty x y) (hx : T.ev X x = .op s g z i j) (hg : T.γ s = g) (hy : T.ev X y = .int .i64 k) (h0 : 0 ≤ k)
    (hr : nth X.Z.tab ty = some r) (hk : Nat.beq r.k 2 = true) (h1 : k < r.ln) (hq : nth X.Z.tab r.el = some q) (hq9 : Nat.beq q.k 9 = false) : QOp X o T (.op s g z i (j + k.toNat * q.sz)) := fun κ sv a w hs => by
  have hok := X.Z.tabOk _ _ hr (by intro e; rw [e] at hk; cases hk)
  have hokq := X.Z.tabOk _ _ hq (by intro e; rw [e] at hq9; cases hq9)
  have hyv := rep_int (hy ▸ hs.ev y)
  obtain ⟨b, off, n, cap, e1, e2⟩ := live_op hs hx hg
  exact ⟨.pointer (some ⟨b, off + (i * z + (j + k.toNat * q.sz)), none⟩), .op _ _ _ _ _ _ (by omega) (fun _ => ⟨b, off, n, cap, e1, rfl⟩) rfl, fun w' _ => by
    simp [execOp, ho, e2, hyv, Instr.indexAt, asIntOf, run_underlying (array_row hok hk), Instr.sureAddr, h0, h1, run_size_row hokq, addr_add, Nat.add_assoc]⟩
def opIa (Z : ISeat) (S : IS) (t ty : Nat) (k : Ef → Option R) (d y : I) : Option R := rowOf Z ty fun q => rowOf Z q.el fun q2 => match y with
  | .int .i64 i => (match d with
    | .sl e l => chk (Nat.beq q.k 3) (chk (Nat.beq q2.sz (sz e)) (chk (decide (0 ≤ i) && decide (i < l.length)) (k (vE t (.rp (rowI e l i.toNat) 0)))))
    | .os s g => live S s g (match S.own s with
      | .arr _ e l => chk (Nat.beq q.k 3) (chk (Nat.beq q2.sz (sz e)) (chk (decide (0 ≤ i) && decide (i < l.length)) (k (vE t (.op s g (sz e) i.toNat 0)))))
      | _ => none)
    | .bx s g j => live S s g (chk (Nat.beq q.k 2) (finIx i (fun a => k (vE t (.bx s g (j + a * q2.sz)))) q.ln 0))
    | .rp l j => chk (Nat.beq q.k 2) (finIx i (fun a => k (vE t (.rp l (j + a * q2.sz)))) q.ln 0)
    | .op s g z n j => live S s g (chk (Nat.beq q.k 2) (finIx i (fun a => k (vE t (.op s g z n (j + a * q2.sz)))) q.ln 0))
    | _ => none)
  | _ => none
theorem opIa_ok (hX : At X Z nt) {ty : Nat} {x y : Operand} (ho : o.op = .indexAddr ty x y) (hd : o.dst = some t) (h : opIa Z S t ty k (S.ev Z nt x) (S.ev Z nt y) = some r) : ∃ e, k e = some r ∧ EfOk X Z nt o S e := by
  have mx : x ∈ o.op.operands.toList := by rw [ho]; simp [Op.operands]
  have my : y ∈ o.op.operands.toList := by rw [ho]; simp [Op.operands]
  have hl2 : lvl o = 2 := by simp [lvl, ho]
  have hl1 : lvl o ≠ 0 := by rw [hl2]; simp
  unfold opIa at h
  obtain ⟨q, hq, h9, h⟩ := rowOf_ok h
  obtain ⟨q2, hq2, h92, h⟩ := rowOf_ok h
  have hq' : nth X.Z.tab ty = some q := by rw [hX.Z]; exact hq
  have hq2' : nth X.Z.tab q.el = some q2 := by rw [hX.Z]; exact hq2
  split at h
  · rename_i i hy
    split at h
    · rename_i e l hx
      obtain ⟨h3, h⟩ := chk_some h
      obtain ⟨hz, h⟩ := chk_some h
      obtain ⟨hi, h⟩ := chk_some h
      simp only [Bool.and_eq_true, decide_eq_true_eq] at hi
      refine ⟨_, h, efq hd fun h T ha => ?_⟩
      have := q_ia ho (ha.ev mx hx) (ha.ev my hy) hi.1 (by simpa using hi.2) hq' h3 hq2' h92 (Nat.eq_of_beq_eq_true hz)
      simp only [I.toD, rowI, toDL_enc]
      exact this
    · rename_i s g hx
      replace h := live_ok h
      obtain ⟨rfl, h⟩ := h
      split at h
      · rename_i E e l hσ
        obtain ⟨h3, h⟩ := chk_some h
        obtain ⟨hz, h⟩ := chk_some h
        obtain ⟨hi, h⟩ := chk_some h
        simp only [Bool.and_eq_true, decide_eq_true_eq] at hi
        exact ⟨_, h, efq hd fun h T ha => q_iao ho (ha.ev mx hx) (ha.γ hl1 mx (pl_os hx)) ((ha.σ hl2 mx (pl_os hx)).trans (by rw [hσ]; rfl)) (ha.ev my hy) hi.1 (by simpa using hi.2) hq' h3 hq2' h92 (Nat.eq_of_beq_eq_true hz)⟩
      · cases h
    · rename_i s g j hx
      replace h := live_ok h
      obtain ⟨rfl, h⟩ := h
      obtain ⟨h2, h⟩ := chk_some h
      obtain ⟨a, rfl, ha, h⟩ := finIx_ok h
      exact ⟨_, h, efq hd fun h T hT => by
        have := q_iab ho (hT.ev mx hx) (hT.γ hl1 mx (pl_bx hx)) (hT.ev my hy) (by omega) hq' h2 (by omega) hq2' h92
        simpa [I.toD] using this⟩
    · rename_i l j hx
      obtain ⟨h2, h⟩ := chk_some h
      obtain ⟨a, rfl, ha, h⟩ := finIx_ok h
      exact ⟨_, h, efq hd fun h T hT => by
        have := q_iar ho (hT.ev mx hx) (hT.ev my hy) (by omega) hq' h2 (by omega) hq2' h92
        simpa [I.toD] using this⟩
    · rename_i s g z n j hx
      replace h := live_ok h
      obtain ⟨rfl, h⟩ := h
      obtain ⟨h2, h⟩ := chk_some h
      obtain ⟨a, rfl, ha, h⟩ := finIx_ok h
      exact ⟨_, h, efq hd fun h T hT => by
        have := q_iaop ho (hT.ev mx hx) (hT.γ hl1 mx (pl_op hx)) (hT.ev my hy) (by omega) hq' h2 (by omega) hq2' h92
        simpa [I.toD] using this⟩
    · cases h
  · cases h
theorem q_idxc {T : St} {ty : TypeId} {x y : Operand} {q q2 : TRow} {l : List D} {d : D} {a : Int} (ho : o.op = .index ty x y) (hx : T.ev X x = .agg l) (hy : T.ev X y = .int .i64 a) (h0 : 0 ≤ a)
    (hr : nth X.Z.tab ty = some q) (hk : Nat.beq q.k 2 = true) (h1 : a < q.ln) (hq : nth X.Z.tab q.el = some q2) (h9 : Nat.beq q2.k 9 = false) (hqk : (Nat.beq q2.k 1 || Nat.beq q2.k 2) = false) (hm : nth l (a.toNat * q2.sz) = some d) : QOp X o T d := fun κ sv ac w hs => by
  have hok := X.Z.tabOk _ _ hr (by intro e; rw [e] at hk; cases hk)
  have hokq := X.Z.tabOk _ _ hq (by intro e; rw [e] at h9; cases h9)
  have hyv := rep_int (hy ▸ hs.ev y)
  obtain ⟨vs, e1, hl⟩ := ev_agg hs hx
  obtain ⟨iq, dq, hiq, hdq, hsq, _⟩ := row_info hokq
  rw [nth_eq] at hm
  obtain ⟨v, hv, hrep⟩ := hl.get hm
  refine ⟨v, hrep, fun w' _ => ?_⟩
  have hagg : (isAgg q.el).run X.Z.P w' = .ok false w' := by rw [run_isAgg hdq, aggOf_k hokq, hqk]
  simp [execOp, ho, e1, hyv, Instr.index, asIntOf, run_underlying (array_row hok hk), h0, h1, run_size_row hokq, part, hagg, hv]
def byteAt (s : ByteArray) (i : Nat) (k : Int → Option R) : Option R := match s[i]? with
  | some b => k b.toNat
  | none => none
theorem byteAt_ok {s : ByteArray} {i : Nat} {k : Int → Option R} (h : byteAt s i k = some r) : ∃ b : UInt8, s[i]? = some b ∧ k b.toNat = some r := by
  unfold byteAt at h
  split at h
  · exact ⟨_, by assumption, h⟩
  · cases h
def opIx (Z : ISeat) (t ty : Nat) (k : Ef → Option R) (d y : I) : Option R := match d, y with
  | .agg l, .int .i64 i => rowOf Z ty fun q => rowOf Z q.el fun q2 => chk (Nat.beq q.k 2) (finIx i (fun a => ldC q2 t l (a * q2.sz) k) q.ln 0)
  | .str s, .int .i64 i => chk (Z.isS ty) (chk (decide (0 ≤ i)) (byteAt s i.toNat fun b => k (vE t (.int .u8 b))))
  | _, _ => none
theorem opIx_ok (hX : At X Z nt) {ty : Nat} {x y : Operand} (ho : o.op = .index ty x y) (hd : o.dst = some t) (h : opIx Z t ty k (S.ev Z nt x) (S.ev Z nt y) = some r) : ∃ e, k e = some r ∧ EfOk X Z nt o S e := by
  have mx : x ∈ o.op.operands.toList := by rw [ho]; simp [Op.operands]
  have my : y ∈ o.op.operands.toList := by rw [ho]; simp [Op.operands]
  unfold opIx at h
  split at h
  · rename_i l i hx hy
    obtain ⟨q, hq, h9, h⟩ := rowOf_ok h
    obtain ⟨q2, hq2, h92, h⟩ := rowOf_ok h
    have hq' : nth X.Z.tab ty = some q := by rw [hX.Z]; exact hq
    have hq2' : nth X.Z.tab q.el = some q2 := by rw [hX.Z]; exact hq2
    obtain ⟨h2, h⟩ := chk_some h
    obtain ⟨a, rfl, ha, h⟩ := finIx_ok h
    rcases ldC_ok h with ⟨hk, m, hm, h⟩ | ⟨hk, d, hm, h⟩
    · exact ⟨_, h, efq hd fun h T hT => q_idx ho (hT.ev mx hx) (hT.ev my hy) (by omega) hq' h2 (by omega) hq2' hk (by rw [drop_map]; simpa using take_map h hm)⟩
    · exact ⟨_, h, efq hd fun h T hT => q_idxc ho (hT.ev mx hx) (hT.ev my hy) (by omega) hq' h2 (by omega) hq2' h92 hk (by simpa using nth_map h hm)⟩
  · rename_i s i hx hy
    obtain ⟨h1, h⟩ := chk_some h
    obtain ⟨h2, h⟩ := chk_some h
    obtain ⟨b, hb, h⟩ := byteAt_ok h
    exact ⟨_, h, efq hd fun h T hT => q_idxS ho (hT.ev mx hx) (hT.ev my hy) (by rw [hX.Z]; exact Z.isS_ok _ h1) (of_decide_eq_true h2) hb⟩
  · cases h
def opNc (S : IS) (t : Nat) (k : Ef → Option R) : I → Option R
  | .bx s g j => live S s g (k (vE t (.bx s g j)))
  | .rp l j => k (vE t (.rp l j))
  | .op s g z i j => live S s g (k (vE t (.op s g z i j)))
  | _ => none
theorem opNc_ok {x : Operand} (ho : o.op = .nilCheck x) (hd : o.dst = some t) (h : opNc S t k (S.ev Z nt x) = some r) : ∃ e, k e = some r ∧ EfOk X Z nt o S e := by
  have mx : x ∈ o.op.operands.toList := by rw [ho]; simp [Op.operands]
  have hl1 : lvl o ≠ 0 := by simp [lvl, ho]
  unfold opNc at h
  split at h
  · rename_i s g j hx
    replace h := live_ok h
    obtain ⟨rfl, h⟩ := h
    exact ⟨_, h, efq hd fun h T ha => q_nck ho (ha.ev mx hx) (ha.γ hl1 mx (pl_bx hx))⟩
  · rename_i l j hx
    exact ⟨_, h, efq hd fun h T ha => q_nckr ho (ha.ev mx hx)⟩
  · rename_i s g z i j hx
    replace h := live_ok h
    obtain ⟨rfl, h⟩ := h
    exact ⟨_, h, efq hd fun h T ha => q_ncko ho (ha.ev mx hx) (ha.γ hl1 mx (pl_op hx))⟩
  · cases h
def opLen (Z : ISeat) (S : IS) (t : Nat) (ts : Array TypeId) (k : Ef → Option R) (d : I) : Option R := match ts[0]? with
  | some ty => bif Z.isS ty then (match d with | .str b => k (vE t (.int .i64 b.size)) | _ => none) else rowOf Z ty fun q => chk (Nat.beq q.k 3) (match d with
    | .sl _ l => k (vE t (.int .i64 l.length))
    | .nil => k (vE t (.int .i64 0))
    | .os s g => live S s g (match S.own s with
      | .arr _ _ l => k (vE t (.int .i64 l.length))
      | _ => none)
    | _ => none)
  | none => none
theorem opLen_ok (hX : At X Z nt) {x : Operand} {ts : Array TypeId} (ho : o.op = .call { callee := .builtin .len, args := #[x], argTypes := ts }) (hd : o.dst = some t) (h : opLen Z S t ts k (S.ev Z nt x) = some r) : ∃ e, k e = some r ∧ EfOk X Z nt o S e := by
  have mx : x ∈ o.op.operands.toList := by rw [ho]; simp [Op.operands, Call.operands]
  have hl2 : lvl o = 2 := by simp [lvl, ho]
  have hl1 : lvl o ≠ 0 := by rw [hl2]; simp
  unfold opLen at h
  split at h
  · rename_i ty hT
    cases hS : Z.isS ty with
    | true =>
      rw [hS] at h
      simp only [cond_true] at h
      split at h
      · rename_i b hx
        exact ⟨_, h, efq hd fun h T ha => q_lenS ho hT (ha.ev mx hx) (by rw [hX.Z]; exact Z.isS_ok _ hS)⟩
      · cases h
    | false =>
    rw [hS] at h
    simp only [cond_false] at h
    obtain ⟨q, hq, h9, h⟩ := rowOf_ok h
    obtain ⟨h3, h⟩ := chk_some h
    have hq' : nth X.Z.tab ty = some q := by rw [hX.Z]; exact hq
    split at h
    · rename_i e l hx
      exact ⟨_, h, efq hd fun h T ha => q_len ho hT (ha.ev mx hx) hq' h3⟩
    · rename_i hx
      exact ⟨_, h, efq hd fun h T ha => q_len0 ho hT (ha.ev mx hx) hq' h3⟩
    · rename_i s g hx
      replace h := live_ok h
      obtain ⟨rfl, h⟩ := h
      split at h
      · rename_i E e l hσ
        exact ⟨_, h, efq hd fun h T ha => q_leno ho hT (ha.ev mx hx) (ha.γ hl1 mx (pl_os hx)) ((ha.σ hl2 mx (pl_os hx)).trans (by rw [hσ]; rfl)) hq' h3⟩
      · cases h
    · cases h
  · cases h
def opMm (t : Nat) (mx : Bool) (k : Ef → Option R) : I → I → Option R
  | .int .i64 a, .int .i64 b => bif mx then k (vE t (.int .i64 (max a b))) else k (vE t (.int .i64 (min a b)))
  | _, _ => none
theorem opMin_ok {x y : Operand} {ts : Array TypeId} (ho : o.op = .call { callee := .builtin .min, args := #[x, y], argTypes := ts }) (hd : o.dst = some t) (h : opMm t false k (S.ev Z nt x) (S.ev Z nt y) = some r) : ∃ e, k e = some r ∧ EfOk X Z nt o S e := by
  have mx : x ∈ o.op.operands.toList := by rw [ho]; simp [Op.operands, Call.operands]
  have my : y ∈ o.op.operands.toList := by rw [ho]; simp [Op.operands, Call.operands]
  unfold opMm at h
  split at h
  · rename_i a b hx hy
    exact ⟨_, h, efq hd fun h T ha => q_min ho (ha.ev mx hx) (ha.ev my hy)⟩
  · cases h
theorem opMax_ok {x y : Operand} {ts : Array TypeId} (ho : o.op = .call { callee := .builtin .max, args := #[x, y], argTypes := ts }) (hd : o.dst = some t) (h : opMm t true k (S.ev Z nt x) (S.ev Z nt y) = some r) : ∃ e, k e = some r ∧ EfOk X Z nt o S e := by
  have mx : x ∈ o.op.operands.toList := by rw [ho]; simp [Op.operands, Call.operands]
  have my : y ∈ o.op.operands.toList := by rw [ho]; simp [Op.operands, Call.operands]
  unfold opMm at h
  split at h
  · rename_i a b hx hy
    exact ⟨_, h, efq hd fun h T ha => q_max ho (ha.ev mx hx) (ha.ev my hy)⟩
  · cases h
theorem evs_map {h : Nat → Nat} {T : St} (ha : Ag X Z nt S h T o) {l : List Operand} (hm : ∀ x ∈ l, x ∈ o.op.operands.toList) : l.map (T.ev X) = I.toDL h (l.map (S.ev Z nt)) := by
  rw [toDL_map, List.map_map]
  exact List.map_congr_left fun x hx => ha.ev (hm x hx) rfl
def opMf (Z : ISeat) (nt : Nat) (S : IS) (t : Nat) (fn : Fn) (first cap : Array Operand) (k : Ef → Option R) : Option R := match fn with
  | .func f => bif Nat.beq first.toList.length 0 then k (vE t (.fn f (cap.toList.map (S.ev Z nt)))) else chk (Nat.beq cap.toList.length 0) (k (vE t (.mf f (first.toList.map (S.ev Z nt)))))
  | _ => none
theorem arr_nil {α : Type} {a : Array α} (h : Nat.beq a.toList.length 0 = true) : a = #[] := by
  have := Nat.eq_of_beq_eq_true h
  apply Array.eq_empty_of_size_eq_zero; simpa using this
theorem opMf_ok {fn : Fn} {first cap : Array Operand} (ho : o.op = .makeFunc fn first cap) (hd : o.dst = some t) (h : opMf Z nt S t fn first cap k = some r) : ∃ e, k e = some r ∧ EfOk X Z nt o S e := by
  unfold opMf at h
  split at h
  · rename_i f
    cases hb : Nat.beq first.toList.length 0 with
    | true =>
      rw [hb] at h
      have e := arr_nil hb
      subst e
      refine ⟨_, h, efq hd fun h T ha => ?_⟩
      have := q_fn (X := X) (S := T) ho
      rw [evs_map ha (fun x hx => by rw [ho]; simpa [Op.operands] using hx)] at this
      exact this
    | false =>
      rw [hb] at h
      obtain ⟨hb, h⟩ := chk_some h
      have e := arr_nil hb
      subst e
      refine ⟨_, h, efq hd fun h T ha => ?_⟩
      have := q_mf (X := X) (S := T) ho
      rw [evs_map ha (fun x hx => by rw [ho]; simpa [Op.operands] using hx)] at this
      exact this
  · cases h
def boxE (S : IS) (s : Nat) (l : List I) : Ef := ⟨some s, .bx s (S.gen s + 1) 0, some (s, S.gen s + 1), some (s, .box l)⟩
theorem boxed_eff {h : Nat → Nat} {T : St} {s : Nat} {l : List I} (hγ : T.γ s = h s + S.gen s) : T.boxed s (I.toDL h l) = T.app (boxE S s l).wr ((boxE S s l).vl h) := by
  unfold St.boxed St.app boxE Ef.wr Ef.vl
  rw [hγ]; rfl
def opBx (S : IS) (t : Nat) (k : Ef → Option R) (d : I) : Option R := chk (allC d.cells) (k (boxE S t d.cells))
theorem opBx_ok {ty : Nat} {x : Operand} (ho : o.op = .box ty x) (hd : o.dst = some t) (h : opBx S t k (S.ev Z nt x) = some r) : ∃ e, k e = some r ∧ EfOk X Z nt o S e := by
  have mx : x ∈ o.op.operands.toList := by rw [ho]; simp [Op.operands]
  unfold opBx at h
  obtain ⟨hc, h⟩ := chk_some h
  refine ⟨_, h, fun h T ha hg => ?_⟩
  rw [← boxed_eff (hg _ rfl), ← cells_toD]
  exact opOk_n (n_box ho hd (ha.ev mx rfl) (by rw [cells_toD, allC_toDL]; exact hc))
def opAl (Z : ISeat) (S : IS) (t ty : Nat) (k : Ef → Option R) : Option R := rowOf Z ty fun q => k (boxE S t (q.zs.map zI))
theorem opAl_ok (hX : At X Z nt) {ty : Nat} (ho : o.op = .alloc ty) (hd : o.dst = some t) (h : opAl Z S t ty k = some r) : ∃ e, k e = some r ∧ EfOk X Z nt o S e := by
  unfold opAl at h
  obtain ⟨q, hq, h9, h⟩ := rowOf_ok h
  refine ⟨_, h, fun h T ha hg => ?_⟩
  rw [← boxed_eff (hg _ rfl), zI_toDL]
  exact opOk_n (n_alloc ho hd (by rw [hX.Z]; exact hq) h9)
theorem nilIL_rel (h : Nat → Nat) : ∀ {l m : List I}, NilIL l m → NilL (I.toDL h l) (I.toDL h m)
  | _, _, .nil => trivial
  | _, _, .cons (.same d) h2 => ⟨.inl rfl, nilIL_rel h h2⟩
  | _, _, .cons (.nil t) h2 => ⟨.inr ⟨rfl, sz t, fun i => encD t (([] : List (den t)).getD i (dflt t)), rfl⟩, nilIL_rel h h2⟩
def stE (s : Nat) (ow : IOwn) : Ef := ⟨none, .undef, none, some (s, ow)⟩
def opSt (Z : ISeat) (S : IS) (ty : Nat) (k : Ef → Option R) (p d : I) : Option R := rowOf Z ty fun q => chk (allC d.cells) (chk (Nat.beq d.cells.length q.sz) (match p with
  | .bx s g j => live S s g (match S.own s with
    | .box l => (match overP l j d.cells with | some l' => k (stE s (.box l')) | none => none)
    | _ => none)
  | .op s g z i j => live S s g (match S.own s with
    | .arr E e l => chk (Nat.beq z (sz e)) (chk (decide (i < l.length)) (match overP (rowI e l i) j d.cells with
      | some l' => (match decC e l' with | some x => k (stE s (.arr E e (l.set i x))) | none => k (stE s (.arrp E e l i l')))
      | none => none))
    | _ => none)
  | _ => none))
theorem opSt_ok (hX : At X Z nt) {ty : Nat} {x y : Operand} (ho : o.op = .store ty x y) (hd : o.dst = none) (h : opSt Z S ty k (S.ev Z nt x) (S.ev Z nt y) = some r) : ∃ e, k e = some r ∧ EfOk X Z nt o S e := by
  have mx : x ∈ o.op.operands.toList := by rw [ho]; simp [Op.operands]
  have my : y ∈ o.op.operands.toList := by rw [ho]; simp [Op.operands]
  have hl2 : lvl o = 2 := by simp [lvl, ho]
  have hl1 : lvl o ≠ 0 := by rw [hl2]; simp
  unfold opSt at h
  obtain ⟨q, hq, h9, h⟩ := rowOf_ok h
  obtain ⟨hc, h⟩ := chk_some h
  obtain ⟨hsz, h⟩ := chk_some h
  have hq' : nth X.Z.tab ty = some q := by rw [hX.Z]; exact hq
  have hsz := Nat.eq_of_beq_eq_true hsz
  have hc' : ∀ h : Nat → Nat, allCell ((S.ev Z nt y).toD h).cells = true := fun h => by rw [cells_toD, allC_toDL]; exact hc
  have hn' : ∀ h : Nat → Nat, ((S.ev Z nt y).toD h).cells.length = q.sz := fun h => by rw [cells_toD, toDL_len]; exact hsz
  split at h
  · rename_i s g j hx
    replace h := live_ok h
    obtain ⟨rfl, h⟩ := h
    split at h
    · rename_i l hσ
      split at h
      · rename_i l' hl
        refine ⟨_, h, fun h T ha hg => ?_⟩
        have := n_stb ho (ha.ev mx hx) (ha.γ hl1 mx (pl_bx hx)) ((ha.σ hl2 mx (pl_bx hx)).trans (by rw [hσ]; rfl)) (ha.ev my rfl) (hc' h) hq' h9 (hn' h) (by rw [cells_toD]; exact over_map h hl) hd
        exact opOk_n this
      · cases h
    · cases h
  · rename_i s g z i j hx
    replace h := live_ok h
    obtain ⟨rfl, h⟩ := h
    split at h
    · rename_i E e l hσ
      obtain ⟨hz0, h2⟩ := chk_some h
      obtain ⟨hi0, h3⟩ := chk_some h2
      clear h h2
      have hz := Nat.eq_of_beq_eq_true hz0
      clear hz0
      subst hz
      have hi := of_decide_eq_true hi0
      split at h3
      · rename_i l' hl
        split at h3
        · rename_i v hv
          refine ⟨_, h3, fun h T ha hg => ?_⟩
          have hσT : T.σ s = .arr E (sz e) l.length (fun i => encD e (l.getD i (dflt e))) := (ha.σ hl2 mx (pl_op hx)).trans (by rw [hσ]; rfl)
          have := n_sto ho (ha.ev mx hx) (ha.γ hl1 mx (pl_op hx)) hσT hi (ha.ev my rfl) (hc' h) hq' h9 (hn' h) (k := I.toDL h l') (by rw [cells_toD, ← toDL_enc h]; exact over_map h hl) hd
          refine OpOk.wk (opOk_n this) ?_
          have hw := wk_arrN (X := X) (S := ⟨T.ρ, T.γ, upd T.σ s (.arr E (sz e) l.length (updF (fun i => encD e (l.getD i (dflt e))) i (I.toDL h l')))⟩) s (E := E) (z := sz e) (n := l.length) (f := updF (fun i => encD e (l.getD i (dflt e))) i (I.toDL h l')) (fun i' => encD e ((l.set i v).getD i' (dflt e))) (upd_same _ _ _) (fun i' hi' => by
            by_cases e1 : i' = i
            · subst e1
              rw [updF_same, List.getD_eq_getElem?_getD, List.getElem?_set_self hi, ← toDL_enc h]
              exact nilIL_rel h (decC_ok e hv)
            · rw [updF_ne _ _ e1]
              rw [List.getD_eq_getElem?_getD, List.getD_eq_getElem?_getD, List.getElem?_set_ne (fun h => e1 h.symm)]
              exact nilL_refl _)
          have e2 : (⟨T.ρ, T.γ, upd (upd T.σ s (.arr E (sz e) l.length (updF (fun i => encD e (l.getD i (dflt e))) i (I.toDL h l')))) s (.arr E (sz e) l.length (fun i' => encD e ((l.set i v).getD i' (dflt e))))⟩ : St) = T.app (stE s (.arr E e (l.set i v))).wr ((stE s (.arr E e (l.set i v))).vl h) := by
            unfold St.app stE Ef.wr Ef.vl
            simp only [Option.map_some, Option.map_none, updO, IOwn.toOwn, List.length_set]
            congr 1
            funext j
            simp only [upd]
            cases Nat.beq j s <;> rfl
          rw [e2] at hw
          exact hw
        · refine ⟨_, h3, fun h T ha hg => ?_⟩
          have hσT : T.σ s = .arr E (sz e) l.length (fun i => encD e (l.getD i (dflt e))) := (ha.σ hl2 mx (pl_op hx)).trans (by rw [hσ]; rfl)
          have := n_sto ho (ha.ev mx hx) (ha.γ hl1 mx (pl_op hx)) hσT hi (ha.ev my rfl) (hc' h) hq' h9 (hn' h) (k := I.toDL h l') (by rw [cells_toD, ← toDL_enc h]; exact over_map h hl) hd
          exact opOk_n this
      · cases h3
    · cases h
  · cases h
end
end Go.Ab
namespace Go.Ab
open Go Go.RowKit
set_option linter.all false
structure ContractRO (Z : Seat) (f : FuncId) (l l' A : List D) (R : D) (E z n : Nat) (el : Nat → List D) : Prop where
  pureA : PureL A
  purel : PureL l
  purel' : PureL l'
  cell' : allCell l' = true
  poR : PO R
  pureE : ∀ i, i < n → PureL (el i)
  body : HasBody Z.P f
  calls : ∀ (w : World) (κ : Nat → Nat → Option Value) (args : List Value) (b : Nat) (T : TypeId) (cs : List Value), Fits κ w → (∀ o, κ b o = none) → w.heap[b]? = some (.cells (List.toArray cs) T (0, 0)) → RepL κ γ0 sv0 l cs → GlobOk Z κ → RepL κ γ0 sv0 A args →
    Calls Z.P f (Value.pointer (some ⟨b, 0, none⟩) :: args).toArray w fun e w' => ∃ v sl κ' cs' T', e = .returned v ∧ w'.heap[b]? = some (.cells (List.toArray cs') T' (0, 0)) ∧ RepL κ' γ0 sv0 l' cs' ∧
      Rep κ' (fun _ => 1) (fun _ => sl) (renO 0 1 R) v ∧ (∀ b o u, κ b o = some u → κ' b o = some u) ∧ (∀ b o u, b < w.heap.size → κ' b o = some u → κ b o = some u) ∧
      (∀ b o u, κ' b o = some u → w'.cell? ⟨b, o, none⟩ = some u) ∧ Owns w.heap.size κ' (fun _ => 1) (fun _ => sl) w' 0 (.arr E z n el) ∧ (∀ b, blk (.arr E z n el) sl = some b → ∀ o, κ' b o = none) ∧ Frame (some b) w w'
section
variable {X : Ctx} {Q : Exit → St → Prop} {S : St} {ops : Array Oper} {o : Oper} {rest : List Oper}
theorem WL_callRO (p : Nat) {f : FuncId} {x0 : Operand} {xs : List Operand} {ts : Array TypeId} {l l' A : List D} {R : D} {E z n : Nat} {el : Nat → List D} {s g : Nat} (hps : p ≠ s) (hg : o.guard = none) (ho : o.op = .call { callee := .value (.func f), args := (x0 :: xs).toArray, argTypes := ts }) (hx : S.ev X x0 = .bx s g 0) (hγ : S.γ s = g) (hσ : S.σ s = .box l)
    (hc : ContractRO X.Z f l l' A R E z n el) (hA : xs.map (S.ev X) = A) {t : Nat} (hd : o.dst = some t) {R' : D} (hR : renO p (S.γ p + 1) R = R')
    (hk : WL X ops rest Q ⟨upd S.ρ t R', upd S.γ p (S.γ p + 1), upd (upd S.σ s (.box l')) p (.arr E z n el)⟩) : WL X ops (o :: rest) Q S := fun κ sv a w hs => by
  subst hR
  obtain ⟨b, T, cs, he, hsv, hh, hrep, hac⟩ := box_cells hs hx hγ hσ
  have hblk : blk (S.σ s) (sv s) = some b := by rw [hσ, hsv]; rfl
  have hr := evs_rep hs xs
  rw [hA] at hr
  have hrun := run_call (P := X.Z.P) (a := a) (w := w) hc.body ho
  simp only [List.map_cons, he] at hrun
  have hcall := hc.calls w κ (xs.map a.eval) b T cs (Sim.fits hs.wld) (fun o => hs.wld.sep s b o hblk) hh (hrep.pure (fun _ _ _ h => h) hc.purel) (Sim.globOk hs.wld) (hr.pure (fun _ _ _ h => h) hc.pureA)
  refine wpListIn_plain hg fun K hK => op_call hrun hcall ?_
  rintro e w' ⟨v, sl, κ', cs', T', rfl, hh', hl', hv, k1, k2, k3, hown, hsep, hfr⟩
  have hgr : w.grownBy w' (some b) := ⟨hfr.os, hfr.tape, hfr.output, hfr.size, fun k hk hne => hfr.block k hk hne⟩
  have hle : Le κ κ' S.γ (upd S.γ p (S.γ p + 1)) sv (upd sv p sl) := by
    obtain ⟨a, b, c⟩ := le_renew κ S.γ sv p sl
    exact ⟨k1, b, c⟩
  have hnew : ∀ b', blk (.arr E z n el) sl = some b' → w.heap.size ≤ b' ∧ b' < w'.heap.size ∧ ∀ o, κ' b' o = none := fun b' hbk => by
    obtain ⟨xs, e1, _⟩ := hown
    rcases e1.2 with ⟨hv, _⟩ | ⟨b'', off, cap, cur, hv, hbase, hh, _⟩
    · simp only at hv; rw [hv] at hbk; cases hbk
    · simp only at hv
      rw [hv] at hbk; simp only [blk, Option.some.injEq] at hbk; subst hbk
      exact ⟨hbase, (Array.getElem?_eq_some_iff.1 hh).1, hsep b'' (by rw [hv]; rfl)⟩
  have hbt : ∀ t, t ≠ s → ∀ b', blk (S.σ t) (sv t) = some b' → w'.heap[b']? = w.heap[b']? := fun t ht b' hb' =>
    hgr.block b' (owns_lt (hs.wld.own t) hb') (fun e => ht (hs.wld.inj t s b' hb' (by rw [hblk]; exact e.symm)))
  have hbk : ∀ t b', blk (upd (upd S.σ s (.box l')) p (.arr E z n el) t) (upd sv p sl t) = some b' → (t = p ∧ blk (.arr E z n el) sl = some b') ∨ (t ≠ p ∧ blk (S.σ t) (sv t) = some b') := by
    intro t b' hb'
    by_cases e : t = p
    · subst e; rw [upd_same, upd_same] at hb'; exact .inl ⟨rfl, hb'⟩
    · rw [upd_ne _ _ _ _ e, upd_ne _ _ _ _ e] at hb'
      refine .inr ⟨e, ?_⟩
      by_cases e2 : t = s
      · subst e2; rw [upd_same, hsv] at hb'; rw [hblk]; exact hb'
      · rw [upd_ne _ _ _ _ e2] at hb'; exact hb'
  have hκb : ∀ o, κ' b o = none := fun o => by
    cases hk : κ' b o with
    | none => rfl
    | some u =>
      have h2 := k2 b o u (owns_lt (hs.wld.own s) hblk) hk
      rw [hs.wld.sep s b o hblk] at h2; cases h2
  have hW : SimW X κ' (upd sv p sl) ⟨S.ρ, upd S.γ p (S.γ p + 1), upd (upd S.σ s (.box l')) p (.arr E z n el)⟩ w' := by
    have h0 := hs.wld
    obtain ⟨h1, h2, h3, h4, h5, _, h7, h8, h9, h10, h11, h12, h13, h14⟩ := hs.wld
    refine ⟨k3, fun t => ?_, fun t u b' ht hu => ?_, fun t b' o ht => ?_, fun t b' ht => ?_, frame_step h0 hgr (fun b' e => ⟨s, by rw [hblk]; exact e⟩) (fun t b' ht => ?_), fun g l hgl => ?_, fun b' o v hlt hk => k2 b' o v (Nat.lt_of_lt_of_le hlt h10) hk |> h8 b' o v hlt, fun b' hb' => ?_, Nat.le_trans h10 hgr.size, h11.trans hle, fun b' o v hk hT => ?_, fun t b' ht hT => ?_, fun b' h => Nat.lt_of_lt_of_le (h14 b' h) hgr.size⟩
    · by_cases e : t = p
      · subst e
        simp only [upd_same]
        obtain ⟨xs, e1, e2, e3, e4⟩ := hown
        exact ⟨xs, by rw [upd_same]; exact owns_base e1 h10, e2, e3, fun i hi => (e4 i hi).pure (fun _ _ _ h => h) (hc.pureE i hi)⟩
      · simp only [upd_ne _ _ _ _ e]
        by_cases e2 : t = s
        · subst e2; simp only [upd_same]
          exact ⟨b, T', cs', by rw [upd_ne _ _ _ _ e]; exact hsv, hh', hl'.pure (fun _ _ _ h => h) hc.purel', hc.cell'⟩
        · simp only [upd_ne _ _ _ _ e2]
          exact owns_mono hle (upd_ne _ _ _ _ e) (hbt t e2) (h2 t)
    · simp only at ht hu
      rcases hbk t b' ht with ⟨rfl, a1⟩ | ⟨e1, a1⟩ <;> rcases hbk u b' hu with ⟨rfl, a2⟩ | ⟨e2, a2⟩
      · rfl
      · have := owns_lt (h2 u) a2; have := (hnew b' a1).1; omega
      · have := owns_lt (h2 t) a1; have := (hnew b' a2).1; omega
      · exact h3 t u b' a1 a2
    · simp only at ht
      rcases hbk t b' ht with ⟨rfl, a1⟩ | ⟨e1, a1⟩
      · exact (hnew b' a1).2.2 o
      · cases hk : κ' b' o with
        | none => rfl
        | some v => have h20 := k2 b' o v (owns_lt (h2 t) a1) hk; rw [h4 t b' o a1] at h20; cases h20
    · simp only at ht
      rcases hbk t b' ht with ⟨rfl, a1⟩ | ⟨e1, a1⟩
      · exact .inl (Nat.le_trans h10 (hnew b' a1).1)
      · exact h5 t b' a1
    · rcases hbk t b' ht with ⟨rfl, a1⟩ | ⟨e1, a1⟩
      · exact .inl (hnew b' a1).1
      · exact .inr ⟨t, a1⟩
    · obtain ⟨hc2, u, hu, hk⟩ := h7 g l hgl
      exact ⟨hc2, u, hu.mono hle, fun j v hj => k1 _ _ _ (hk j v hj)⟩
    · obtain ⟨e1, e2⟩ := h9 b' hb'
      by_cases e : 0 = p
      · subst e; simp only [upd_same]; exact ⟨by omega, fun e => by omega⟩
      · simp only [upd_ne _ _ _ _ e]; exact ⟨e1, e2⟩
    · by_cases e : b' < w.heap.size
      · exact h12 b' o v (k2 b' o v e hk) hT
      · have := h14 b' hT; omega
    · simp only at ht
      rcases hbk t b' ht with ⟨rfl, a1⟩ | ⟨e1, a1⟩
      · have := h14 b' hT; have := (hnew b' a1).1; omega
      · exact h13 t b' a1 hT
  have hs' : Sim X κ' (upd sv p sl) ⟨S.ρ, upd S.γ p (S.γ p + 1), upd (upd S.σ s (.box l')) p (.arr E z n el)⟩ a w' := ⟨hs.size, dfr_own hs s (by rw [hblk]; exact hgr), fun i hi => (hs.slot i hi).mono hle, hW⟩
  refine ⟨v, rfl, ?_⟩
  rw [hd]
  exact hK _ _ (hk κ' _ _ w' (hs'.put (some t) (rep_ren (p := 0) (g := 1) (fun _ _ _ h => h) rfl (upd_same _ _ _) (upd_same _ _ _) hc.poR hv)))
end
end Go.Ab
namespace Go.Ab
open Go Go.RowKit
set_option linter.all false
section
variable {X : Ctx} {o : Oper} {S : St} {x : Operand}
theorem q_slV {T E : TypeId} {r q : TRow} {s g z n i j : Nat} {f : Nat → List D} {lo hi : Option Operand} (ho : o.op = .slice T x lo hi none) (hx : S.ev X x = .os s g) (hg : S.γ s = g) (hσ : S.σ s = .arr E z n f)
    (hlo : bndd X S lo i 0) (hhi : bndd X S hi j n) (hij : i ≤ j) (hjn : j ≤ n)
    (hr : nth X.Z.tab T = some r) (hk : Nat.beq r.k 3 = true) (hq : nth X.Z.tab r.el = some q) (hq9 : Nat.beq q.k 9 = false) (hz : q.sz = z) :
    QOp X o S (.ow s g z i (j - i)) := fun κ sv a w hs => by
  subst hz
  have hokr := X.Z.tabOk _ _ hr (by intro e; rw [e] at hk; cases hk)
  have hokq := X.Z.tabOk _ _ hq (by intro e; rw [e] at hq9; cases hq9)
  have hu := slice_row hokr hk
  have hown0 := hs.wld.own s
  rw [hσ] at hown0
  obtain ⟨xs, hown, _⟩ := hown0
  have hxv := hs.ev x
  rw [hx] at hxv
  have hxe : a.eval x = sv s := by
    generalize a.eval x = v at hxv
    cases hxv with
    | os _ _ _ _ hh _ => exact hh hg.symm
  have fin : ∀ (ad : Option Addr) (cap : Nat), sv s = .slice ad n cap → n ≤ cap → (Value.slice (if cap = i then ad else ad.map (·.add (i * q.sz))) (j - i) (cap - i)).oneCell' = true →
      ∃ v, Rep κ S.γ sv (.ow s g q.sz i (j - i)) v ∧ ∀ w', Below w.heap.size w w' → (execOp a.eval o).run X.Z.P w' = .ok (.value v) w' := fun ad cap he hnc h1c => by
    refine ⟨_, .ow s g q.sz i (j - i) _ (by omega) (fun _ => ⟨ad, n, cap, he, rfl⟩) h1c, fun w' _ => ?_⟩
    have := run_sliceAt (P := X.Z.P) (w := w') (a := ad) (len := n) (cap := cap) hu hokq (hlo.v hs) (hhi.v hs) hij (by omega)
    simp only [execOp, ho, hxe, he, Option.map_none]
    simp [this]
  rcases hown.2 with ⟨hv, hn⟩ | ⟨b, off, cap, cur, hv, _, _, hnc, _⟩
  · refine fin none 0 (by rw [hv, hn]) (by omega) ?_
    split <;> rfl
  · refine fin _ cap hv hnc ?_
    split <;> rfl
theorem n_appV {T E : TypeId} {r q : TRow} {x y : Operand} {s g z n k c m t n' : Nat} {f f' : Nat → List D} {ts : Array TypeId} (ho : o.op = .call { callee := .builtin .append, args := #[x, y], argTypes := ts }) (hts : ts = #[T, T]) (hd : o.dst = some t)
    (hx : S.ev X x = .ow s g z 0 k) (hy : S.ev X y = .ow s g z c m) (hg : S.γ s = g) (hσ : S.σ s = .arr E z n f) (hkn : k ≤ n) (hcn : c + m ≤ n) (hkm : k + m ≤ n)
    (hr : nth X.Z.tab T = some r) (hk : Nat.beq r.k 3 = true) (hE : r.el = E) (hq : nth X.Z.tab E = some q) (hq9 : Nat.beq q.k 9 = false) (hz : q.sz = z) (hzs : Nat.beq q.zs.length z = true) (hz0 : Nat.beq z 0 = false)
    (hb : (k + m) * q.bytes ≤ 140737488355328) (hm : k + m ≤ 140737488355328) (hn' : n' = k + m) (h1 : ∀ i, i < k → f' i = f i) (h2 : ∀ i, i < m → f' (k + i) = f (c + i)) :
    NOp X o S (S.owned t s (.arr E z n' f')) := fun κ sv a w hs => by
  subst hts hn'
  have hokr := X.Z.tabOk _ _ hr (by intro e; rw [e] at hk; cases hk)
  have hokq := X.Z.tabOk _ _ hq (by intro e; rw [e] at hq9; cases hq9)
  obtain ⟨iq, dq, hiq, hdq, hsq, hbq, ⟨zv, hzv, hzf⟩, _⟩ := row_info hokq
  have hu := slice_row hokr hk
  rw [hE] at hu
  have hown0 := hs.wld.own s
  rw [hσ] at hown0
  obtain ⟨xs, hown, hfl, hfc, hfr⟩ := hown0
  have hxv := hs.ev x
  have hyv := hs.ev y
  rw [hx] at hxv
  rw [hy] at hyv
  have hzl : zv.cells.size = z := by have := zr_len hzf; have h2 := Nat.eq_of_beq_eq_true hzs; simp at this; omega
  have hz1 : 0 < z := by
    cases z with
    | zero => cases hz0
    | succ z => omega
  have hle : ∀ pv, Le κ κ S.γ (upd S.γ s (S.γ s + 1)) sv (upd sv s pv) := le_renew κ S.γ sv s
  have hxl : xs.length = n * z := hown.1
  rw [hd]
  have hxe : ∃ ad N cap, sv s = .slice ad N cap ∧ a.eval x = .slice (if cap = 0 then ad else ad.map (·.add (0 * z))) k (cap - 0) := by
    generalize a.eval x = v at hxv
    cases hxv with
    | ow _ _ _ _ _ _ _ hh _ => exact hh hg.symm
  have hye : ∃ ad N cap, sv s = .slice ad N cap ∧ a.eval y = .slice (if cap = c then ad else ad.map (·.add (c * z))) m (cap - c) := by
    generalize a.eval y = v at hyv
    cases hyv with
    | ow _ _ _ _ _ _ _ hh _ => exact hh hg.symm
  obtain ⟨ad, N, cap, hv, hxe⟩ := hxe
  obtain ⟨ad2, N2, cap2, hv2, hye⟩ := hye
  rw [hv] at hv2
  simp only [Value.slice.injEq] at hv2
  obtain ⟨rfl, rfl, rfl⟩ := hv2
  rcases hown.2 with ⟨hv0, hn0⟩ | ⟨b, off, cap', cur, hv', hbase, hh, hnc, hcm, hcs, htake⟩
  · rw [hv0] at hv
    simp only [Value.slice.injEq] at hv
    obtain ⟨rfl, rfl, rfl⟩ := hv
    have hk0 : k = 0 := by omega
    have hm0 : m = 0 := by omega
    have hc0 : c = 0 := by omega
    subst hk0 hm0 hc0
    have hxe' : a.eval x = .slice none 0 0 := by rw [hxe]; rfl
    have hye' : a.eval y = .slice none 0 0 := by rw [hye]; rfl
    have hrun := run_append_none (P := X.Z.P) (w := w) X.w0.heap.size T o.type E iq z hu hiq (.slice none 0 0) 0 [] ⟨by simp, .inl ⟨rfl, rfl⟩⟩
    refine ⟨.slice none 0 0, w, κ, _, .inl ?_, sim_owned hs t s (pv := .slice none 0 0) rfl (below_grown (Below.refl _ _) _) (fun b hb => by cases hb) ?_⟩
    · simp [execOp, ho, resolve, invoke, builtin, hxe', hye', hrun]
    · exact ⟨[], by rw [upd_same]; exact ⟨by simp, .inl ⟨rfl, rfl⟩⟩, fun i hi => by omega, fun i hi => by omega, fun i hi => by omega⟩
  · rw [hv'] at hv
    simp only [Value.slice.injEq] at hv
    obtain ⟨rfl, rfl, rfl⟩ := hv
    have hkz : k * z ≤ n * z := Nat.mul_le_mul_right _ hkn
    have hcz : c * z + m * z ≤ n * z := by rw [← Nat.add_mul]; exact Nat.mul_le_mul_right _ hcn
    have hxe' : a.eval x = .slice (some ⟨b, off, none⟩) k cap' := by
      rw [hxe]
      by_cases h0 : cap' = 0
      · rw [if_pos h0]; simp
      · rw [if_neg h0]; simp [addr_add]
    have hownk : ownsAt w X.w0.heap.size E z (.slice (some ⟨b, off, none⟩) k cap') k (xs.take (k * z)) := by
      refine ⟨by simp; omega, .inr ⟨b, off, cap', cur, rfl, hbase, hh, by omega, hcm, hcs, ?_⟩⟩
      rw [← htake, List.take_take, Nat.min_eq_left hkz]
    have hcells : ∀ j u, xs[j]? = some u → w.cell? ⟨b, off + j, none⟩ = some u := fun j u hj => by
      have := (show ownsAt w X.w0.heap.size E z (.slice (some ⟨b, off, none⟩) n cap') n xs from ⟨hown.1, .inr ⟨b, off, cap', cur, rfl, hbase, hh, hnc, hcm, hcs, htake⟩⟩).cells j u hj
      rwa [addr_add] at this
    obtain ⟨news, hnews⟩ : ∃ l, (xs.drop (c * z)).take (m * z) = l := ⟨_, rfl⟩
    have hnl : news.length = m * z := by rw [← hnews]; simp; omega
    have hng : ∀ j u, news[j]? = some u → xs[c * z + j]? = some u := fun j u hj => by
      have hjl := (List.getElem?_eq_some_iff.1 hj).1
      rw [← hnews, List.getElem?_take, if_pos (by omega), List.getElem?_drop] at hj
      exact hj
    have hone : ∀ (j : Nat) (u : Value), xs[j]? = some u → u.oneCell' = true := fun j u hj => by
      have hjl := (List.getElem?_eq_some_iff.1 hj).1
      have hkk : j % z < z := Nat.mod_lt _ hz1
      have hi : j / z < n := (Nat.div_lt_iff_lt_mul hz1).2 (by omega)
      have e : j = j / z * z + j % z := by rw [Nat.mul_comm]; exact (Nat.div_add_mod j z).symm
      refine RepL.oneCells (hfr _ hi) (hfc _ hi) u ?_
      refine List.mem_of_getElem? (i := j % z) ?_
      rw [List.getElem?_take, if_pos hkk, List.getElem?_drop, ← e]; exact hj
    have hchunk : ∀ i, i < m → (news.drop (i * z)).take z = (xs.drop ((c + i) * z)).take z := fun i hi => by
      have h1 : i * z + z ≤ m * z := by have := Nat.mul_le_mul_right z (show i + 1 ≤ m by omega); rw [Nat.add_mul] at this; omega
      rw [← hnews, List.drop_take, List.take_take, Nat.min_eq_left (by omega), List.drop_drop, Nat.add_mul]
    obtain ⟨ya, yc, hye', hycell⟩ : ∃ ya yc, a.eval y = .slice (some ya) m yc ∧ ∀ j u, news[j]? = some u → w.cell? (ya.add j) = some u := by
      by_cases h0 : cap' = c
      · have hm0 : m = 0 := by omega
        refine ⟨⟨b, off, none⟩, cap' - c, by rw [hye, if_pos h0], fun j u hj => ?_⟩
        have := (List.getElem?_eq_some_iff.1 hj).1
        rw [hnl, hm0] at this; omega
      · refine ⟨⟨b, off + c * z, none⟩, cap' - c, by rw [hye, if_neg h0]; simp [addr_add], fun j u hj => ?_⟩
        rw [addr_add, Nat.add_assoc]
        exact hcells _ _ (hng j u hj)
    obtain ⟨v', w', hrun, hown', hgr, hwh⟩ := run_append_where (P := X.Z.P) (w := w) X.w0.heap.size T o.type E iq zv z q.bytes hu hiq hzv (by rw [hsq, hz]) (by rw [hbq]) hzl hz1 (.slice (some ⟨b, off, none⟩) k cap') k (xs.take (k * z)) hownk ya m yc news hnl
      hycell (fun v hv => by
        obtain ⟨j, hj⟩ := List.getElem?_of_mem hv
        exact hone _ _ (hng j v hj)) (by unfold maxLen; omega) hb hs.wld.base
    have hob : (Value.slice (some (⟨b, off, none⟩ : Addr)) k cap').ownBlock = blk (S.σ s) (sv s) := by rw [hσ, hv']; rfl
    rw [hob] at hgr
    have hxk : (xs.take (k * z)).length = k * z := by simp; omega
    refine ⟨v', w', κ, _, .inl ?_, sim_owned hs t s (pv := v') ?_ hgr (fun b' hb' => ?_) ?_⟩
    · simp [execOp, ho, resolve, invoke, builtin, hxe', hye', hrun]
    · rcases hown'.2 with ⟨e, _⟩ | ⟨_, _, _, _, e, _⟩ <;> rw [e] <;> rfl
    · rw [← hob]
      refine hwh b' ?_
      rcases hown'.2 with ⟨e, _⟩ | ⟨_, _, _, _, e, _⟩ <;> (rw [e] at hb' ⊢; exact hb')
    · refine ⟨_, by rw [upd_same]; exact hown', fun i hi => ?_, fun i hi => ?_, fun i hi => ?_⟩
      · by_cases hin : i < k
        · rw [h1 i hin]; exact hfl i (by omega)
        · obtain ⟨p, rfl⟩ : ∃ p, i = k + p := ⟨i - k, by omega⟩
          rw [h2 p (by omega)]; exact hfl _ (by omega)
      · by_cases hin : i < k
        · rw [h1 i hin]; exact hfc i (by omega)
        · obtain ⟨p, rfl⟩ : ∃ p, i = k + p := ⟨i - k, by omega⟩
          rw [h2 p (by omega)]; exact hfc _ (by omega)
      · by_cases hin : i < k
        · rw [h1 i hin, append_chunkL hxk hin]
          have hiz : i * z + z ≤ k * z := by have := Nat.mul_le_mul_right z (show i + 1 ≤ k by omega); rw [Nat.add_mul] at this; omega
          rw [List.drop_take, List.take_take, Nat.min_eq_left (by omega)]
          exact (hfr i (by omega)).mono (hle _)
        · obtain ⟨p, rfl⟩ : ∃ p, i = k + p := ⟨i - k, by omega⟩
          rw [h2 p (by omega), append_chunkR hxk, hchunk p (by omega)]
          exact (hfr _ (by omega)).mono (hle _)
end
end Go.Ab
