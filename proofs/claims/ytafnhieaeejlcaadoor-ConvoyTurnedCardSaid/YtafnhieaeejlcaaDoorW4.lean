/- Walks by computing: what each function of the program that the laws reach gives for what it gets, as plain Lean, and that it is so; without a condition but those that stand in each theorem. -/
import Derived.MapKept
import Derived.MapFrom
import Derived.Carry
import Derived.Scope
import Derived.Test.YtafnhieaeejlcaaDoorW1
import Derived.Test.YtafnhieaeejlcaaDoorW2
import Derived.Test.YtafnhieaeejlcaaDoorW3
set_option linter.all false
namespace Go.Ab
open Go Go.RowKit
theorem blk_arr {E z n E' z' n' : Nat} {f f' : Nat → List D} (v : Value) : blk (.arr E z n f) v = blk (.arr E' z' n' f') v := by
  cases v with
  | pointer a => cases a <;> rfl
  | slice a _ _ => cases a <;> rfl
  | map a => cases a <;> rfl
  | _ => rfl
def bndv (v : Option Value) (i d : Nat) : Prop := (v = none ∧ i = d) ∨ v = some (.int .i64 i)
theorem run_sliceAt {P : Program} {w : World} {T e : TypeId} {q : TRow} (hu : P.underlying T = some (.slice e)) (hq : rowOk P e q = true) {a : Option Addr} {len cap : Nat} {lo hi : Option Value} {i j : Nat}
    (hlo : bndv lo i 0) (hhi : bndv hi j len) (hij : i ≤ j) (hjc : j ≤ cap) :
    (Instr.sliceAt T (.slice a len cap) lo hi none).run P w = .ok (.slice (if cap = i then a else a.map (·.add (i * q.sz))) (j - i) (cap - i)) w := by
  rcases hlo with ⟨rfl, rfl⟩ | rfl <;> rcases hhi with ⟨rfl, rfl⟩ | rfl <;>
    simp [Instr.sliceAt, Instr.slice, Instr.sliceBounds, Instr.sliceBound, asIntOf, run_underlying hu, run_size_row hq, hij, hjc]
section
variable {X : Ctx} {o : Oper} {S : St} {x : Operand}
def bndd (X : Ctx) (S : St) (v : Option Operand) (i d : Nat) : Prop := (v = none ∧ i = d) ∨ ∃ y, v = some y ∧ S.ev X y = .int .i64 i
theorem bndd.v {κ : Nat → Nat → Option Value} {sv : Nat → Value} {a : Act} {w : World} (hs : Sim X κ sv S a w) {v : Option Operand} {i d : Nat} (h : bndd X S v i d) : bndv (v.map a.eval) i d := by
  rcases h with ⟨rfl, rfl⟩ | ⟨y, rfl, hy⟩
  · exact .inl ⟨rfl, rfl⟩
  · exact .inr (by simp [ev_int hs hy])
theorem q_slF {T : TypeId} {r q : TRow} {z n i j : Nat} {f f' : Nat → List D} {lo hi : Option Operand} (ho : o.op = .slice T x lo hi none) (hx : S.ev X x = .sl z n f)
    (hlo : bndd X S lo i 0) (hhi : bndd X S hi j n) (hij : i ≤ j) (hjn : j ≤ n)
    (hr : nth X.Z.tab T = some r) (hk : Nat.beq r.k 3 = true) (hq : nth X.Z.tab r.el = some q) (hq9 : Nat.beq q.k 9 = false) (hz : q.sz = z) (hf : ∀ k, k < j - i → f' k = f (i + k)) :
    QOp X o S (.sl z (j - i) f') := fun κ sv a w hs => by
  have hokr := X.Z.tabOk _ _ hr (by intro e; rw [e] at hk; cases hk)
  have hokq := X.Z.tabOk _ _ hq (by intro e; rw [e] at hq9; cases hq9)
  have hu := slice_row hokr hk
  have hxv := hs.ev x
  rw [hx] at hxv
  have key : ∀ (b : Option Addr) (cap : Nat), a.eval x = .slice b n cap → n ≤ cap → ∀ w', (execOp a.eval o).run X.Z.P w' = .ok (.value (.slice (if cap = i then b else b.map (·.add (i * q.sz))) (j - i) (cap - i))) w' := fun b cap he hnc w' => by
    have := run_sliceAt (P := X.Z.P) (w := w') (a := b) (len := n) (cap := cap) hu hokq (hlo.v hs) (hhi.v hs) hij (by omega)
    simp only [execOp, ho, he, Option.map_none]
    simp [this]
  generalize he : a.eval x = v at hxv
  cases hxv with
  | sl _ _ _ b off cap u hnc h1 h2 h3 h4 =>
    refine ⟨_, ?_, fun w' _ => key _ _ he hnc w'⟩
    by_cases hci : cap = i
    · have : j - i = 0 := by omega
      simp only [if_pos hci]
      rw [this]
      exact .slE _ _ _ _
    · simp only [if_neg hci, Option.map_some, addr_add]
      subst hz
      refine .sl _ _ _ b (off + i * q.sz) (cap - i) (fun k => u (i + k)) (by omega) (fun k hk => by rw [hf k hk]; exact h1 _ (by omega)) (fun k hk => by rw [hf k hk]; exact h2 _ (by omega)) (fun k hk => by rw [hf k hk]; exact h3 _ (by omega)) (fun k m v hk hm => ?_)
      have := h4 (i + k) m v (by omega) hm
      rw [Nat.add_mul] at this
      rw [← this]; congr 1; omega
  | sl0 =>
    have hj : j = 0 := by omega
    have hi : i = 0 := by omega
    subst hj hi
    exact ⟨_, .sl0 _ _, fun w' _ => key _ _ he (Nat.le_refl _) w'⟩
  | slE _ _ ad cap =>
    have hj : j = 0 := by omega
    have hi : i = 0 := by omega
    subst hj hi
    refine ⟨_, ?_, fun w' _ => key _ _ he (Nat.zero_le _) w'⟩
    split
    · exact .slE _ _ _ _
    · exact .slE _ _ _ _
theorem q_slFM {T : TypeId} {r q : TRow} {z n i j m : Nat} {f f' : Nat → List D} {lo : Option Operand} {hi mx : Operand} (ho : o.op = .slice T x lo (some hi) (some mx)) (hx : S.ev X x = .sl z n f)
    (hlo : bndd X S lo i 0) (hhi : S.ev X hi = .int .i64 j) (hmx : S.ev X mx = .int .i64 m) (hij : i ≤ j) (hjm : j ≤ m) (hmn : m ≤ n)
    (hr : nth X.Z.tab T = some r) (hk : Nat.beq r.k 3 = true) (hq : nth X.Z.tab r.el = some q) (hq9 : Nat.beq q.k 9 = false) (hz : q.sz = z) (hf : ∀ k, k < j - i → f' k = f (i + k)) :
    QOp X o S (.sl z (j - i) f') := fun κ sv a w hs => by
  have hokr := X.Z.tabOk _ _ hr (by intro e; rw [e] at hk; cases hk)
  have hokq := X.Z.tabOk _ _ hq (by intro e; rw [e] at hq9; cases hq9)
  have hu := slice_row hokr hk
  have hxv := hs.ev x
  rw [hx] at hxv
  have e1 := ev_int hs hhi
  have e2 := ev_int hs hmx
  have key : ∀ (b : Option Addr) (cap : Nat), a.eval x = .slice b n cap → n ≤ cap → ∀ w', (execOp a.eval o).run X.Z.P w' = .ok (.value (.slice (if m = i then b else b.map (·.add (i * q.sz))) (j - i) (m - i))) w' := fun b cap he hnc w' => by
    have hmc : m ≤ cap := by omega
    have : (Instr.sliceAt T (.slice b n cap) (lo.map a.eval) (some (.int .i64 j)) (some (.int .i64 m))).run X.Z.P w' = .ok (.slice (if m = i then b else b.map (·.add (i * q.sz))) (j - i) (m - i)) w' := by
      rcases hlo.v hs with ⟨h1, rfl⟩ | h1 <;> rw [h1] <;>
        simp [Instr.sliceAt, Instr.slice, Instr.sliceBounds, Instr.sliceBound, asIntOf, run_underlying hu, run_size_row hokq, hij, hjm, hmc]
    simp only [execOp, ho, he, Option.map_some, e1, e2]
    simp [this]
  generalize he : a.eval x = v at hxv
  cases hxv with
  | sl _ _ _ b off cap u hnc h1 h2 h3 h4 =>
    refine ⟨_, ?_, fun w' _ => key _ _ he hnc w'⟩
    by_cases hci : m = i
    · have : j - i = 0 := by omega
      simp only [if_pos hci]
      rw [this]
      exact .slE _ _ _ _
    · simp only [if_neg hci, Option.map_some, addr_add]
      subst hz
      refine .sl _ _ _ b (off + i * q.sz) (m - i) (fun k => u (i + k)) (by omega) (fun k hk => by rw [hf k hk]; exact h1 _ (by omega)) (fun k hk => by rw [hf k hk]; exact h2 _ (by omega)) (fun k hk => by rw [hf k hk]; exact h3 _ (by omega)) (fun k m v hk hm => ?_)
      have := h4 (i + k) m v (by omega) hm
      rw [Nat.add_mul] at this
      rw [← this]; congr 1; omega
  | sl0 =>
    have hj : j = 0 := by omega
    have hi : i = 0 := by omega
    have hm : m = 0 := by omega
    subst hj hi hm
    exact ⟨_, .sl0 _ _, fun w' _ => by have := key _ _ he (Nat.le_refl _) w'; simpa using this⟩
  | slE _ _ ad cap =>
    have hj : j = 0 := by omega
    have hi : i = 0 := by omega
    have hm : m = 0 := by omega
    subst hj hi hm
    exact ⟨_, .slE _ _ _ _, fun w' _ => by have := key _ _ he (Nat.zero_le _) w'; simpa using this⟩
theorem n_slO {T E : TypeId} {r q : TRow} {s g z n i j t n' : Nat} {f f' : Nat → List D} {lo hi : Option Operand} (ho : o.op = .slice T x lo hi none) (hd : o.dst = some t) (hx : S.ev X x = .os s g) (hg : S.γ s = g) (hσ : S.σ s = .arr E z n f)
    (hlo : bndd X S lo i 0) (hhi : bndd X S hi j n) (hij : i ≤ j) (hjn : j ≤ n)
    (hr : nth X.Z.tab T = some r) (hk : Nat.beq r.k 3 = true) (hE : r.el = E) (hq : nth X.Z.tab E = some q) (hq9 : Nat.beq q.k 9 = false) (hz : q.sz = z) (hn' : n' = j - i) (hf : ∀ k, k < j - i → f' k = f (i + k)) :
    NOp X o S (S.owned t s (.arr E z n' f')) := fun κ sv a w hs => by
  subst hn' hz hE
  have hokr := X.Z.tabOk _ _ hr (by intro e; rw [e] at hk; cases hk)
  have hokq := X.Z.tabOk _ _ hq (by intro e; rw [e] at hq9; cases hq9)
  have hu := slice_row hokr hk
  have hown0 := hs.wld.own s
  rw [hσ] at hown0
  obtain ⟨xs, hown, hfl, hfc, hfr⟩ := hown0
  have hxv := hs.ev x
  rw [hx] at hxv
  have hxe : a.eval x = sv s := by
    generalize a.eval x = v at hxv
    cases hxv with
    | os _ _ _ _ hh _ => exact hh hg.symm
  have key : ∀ (b : Option Addr) (cap : Nat), sv s = .slice b n cap → n ≤ cap → (execOp a.eval o).run X.Z.P w = .ok (.value (.slice (if cap = i then b else b.map (·.add (i * q.sz))) (j - i) (cap - i))) w := fun b cap he hnc => by
    have := run_sliceAt (P := X.Z.P) (w := w) (a := b) (len := n) (cap := cap) hu hokq (hlo.v hs) (hhi.v hs) hij (by omega)
    simp only [execOp, ho, hxe, he, Option.map_none]
    simp [this]
  have hdj : ∀ (k : Nat), k < j - i → ((xs.drop (i * q.sz)).take ((j - i) * q.sz) |>.drop (k * q.sz)).take q.sz = (xs.drop ((i + k) * q.sz)).take q.sz := fun k hk => by
    have h1 : k * q.sz + q.sz ≤ (j - i) * q.sz := by have := Nat.mul_le_mul_right q.sz (show k + 1 ≤ j - i by omega); rw [Nat.add_mul] at this; omega
    rw [List.drop_take, List.take_take, Nat.min_eq_left (by omega), List.drop_drop, Nat.add_mul]
  have hfin : ∀ pv : Value, pv.oneCell' = true → (∀ b, blk (S.σ s) pv = some b → blk (S.σ s) (sv s) = some b) → ownsAt w (X.base s) r.el q.sz pv (j - i) ((xs.drop (i * q.sz)).take ((j - i) * q.sz)) →
      (execOp a.eval o).run X.Z.P w = .ok (.value pv) w →
      ∃ v w' κ' sv', ((execOp a.eval o).run X.Z.P w = .ok (.value v) w' ∨ ((execOp a.eval o).run X.Z.P w = .ok .skip w' ∧ v = Go.undef)) ∧ Sim X κ' sv' (S.owned t s (.arr r.el q.sz (j - i) f')) (a.put o.dst v) w' := fun pv h1c hb hO hrun => by
    rw [hd]
    refine ⟨pv, w, κ, upd sv s pv, .inl hrun, sim_owned hs t s (pv := pv) h1c (below_grown (Below.refl _ _) _) (fun b hb' => .inr (hb b (by rw [hσ]; rw [blk_arr] at hb'; exact hb'))) ?_⟩
    refine ⟨_, by rw [upd_same]; exact hO, fun k hk => by rw [hf k hk]; exact hfl _ (by omega), fun k hk => by rw [hf k hk]; exact hfc _ (by omega), fun k hk => ?_⟩
    rw [hf k hk, hdj k hk]
    exact (hfr (i + k) (by omega)).mono (le_renew κ S.γ sv s pv)
  rcases hown.2 with ⟨hv, hn⟩ | ⟨b, off, cap, cur, hv, hbase, hh, hnc, hcm, hcs, htake⟩
  · have hj : j = 0 := by omega
    have hi : i = 0 := by omega
    subst hj hi
    refine hfin _ rfl (fun b hb => ?_) ⟨by simp, .inl ⟨rfl, rfl⟩⟩ (by have := key none 0 (by rw [hv, hn]) (by omega); simpa using this)
    rw [hσ] at hb; cases hb
  · refine hfin _ ?_ ?_ ?_ (key _ _ hv hnc)
    · simp only [Option.map_some]; split <;> rfl
    · intro b' hb'
      rw [hσ] at hb' ⊢
      rw [hv]
      simp only [Option.map_some, addr_add] at hb'
      split at hb' <;> exact hb'
    · have hxl := hown.1
      have hin : i * q.sz ≤ n * q.sz := Nat.mul_le_mul_right _ (by omega)
      have hjn' : i * q.sz + (j - i) * q.sz ≤ n * q.sz := by rw [← Nat.add_mul]; exact Nat.mul_le_mul_right _ (by omega)
      refine ⟨by simp; omega, .inr ?_⟩
      by_cases hci : cap = i
      · have h0 : j - i = 0 := by omega
        rw [if_pos hci, h0]
        exact ⟨b, off, cap - i, cur, rfl, hbase, hh, by omega, by omega, by rw [show cap - i = 0 by omega]; omega, by simp⟩
      · rw [if_neg hci]
        simp only [Option.map_some, addr_add]
        refine ⟨b, off + i * q.sz, cap - i, cur, rfl, hbase, hh, by omega, by omega, ?_, ?_⟩
        · have : i * q.sz + (cap - i) * q.sz = cap * q.sz := by rw [← Nat.add_mul]; congr 1; omega
          omega
        · rw [← htake, List.drop_take, List.take_take, List.drop_drop, Nat.min_eq_left (by omega)]
end
end Go.Ab
namespace Go.Ab
open Go Go.RowKit
section
variable {X : Ctx} {o : Oper} {S : St} {x y : Operand} {T T2 : TypeId}
theorem run_loadVar_one {P : Program} {t : TypeId} {d : TypeDesc} {w : World} (hd : P.underlying t = some d) (ha : aggOf P t = false) {a : Addr} {v : Value} (h : w.cell? a = some v) : (loadVar t a).run P w = .ok v w := by
  simp [loadVar, run_isAgg hd, ha, h]
theorem q_ldrf {l : List D} {j : Nat} {d : D} {td : TypeDesc} (ho : o.op = .load T x) (hx : S.ev X x = .rp l j) (hu : X.Z.P.underlying T = some td) (ha : aggOf X.Z.P T = false) (hd : nth l j = some d) : QOp X o S d := fun κ sv a w hs => by
  have h1 := hs.ev x
  rw [hx] at h1
  generalize he : a.eval x = v at h1
  cases h1 with
  | rp _ _ b off u _ hu' hκ =>
    rw [nth_eq] at hd
    obtain ⟨vj, hv, hrep⟩ := hu'.get hd
    refine ⟨vj, hrep, fun w' hb => ?_⟩
    have hc := hs.wld.imm _ _ _ (hκ j vj hv)
    have hc' : w'.cell? ⟨b, off + j, none⟩ = some vj := (hb.cell (World.block_lt_of_cell? w _ hc)).trans hc
    simp [execOp, ho, he, Instr.loadAt, Instr.sureAddr, run_loadVar_one hu ha hc']
theorem q_ldbf {s g j : Nat} {l : List D} {d : D} {td : TypeDesc} (ho : o.op = .load T x) (hx : S.ev X x = .bx s g j) (hu : X.Z.P.underlying T = some td) (ha : aggOf X.Z.P T = false)
    (hg : S.γ s = g) (hσ : S.σ s = .box l) (hd : nth l j = some d) : QOp X o S d := fun κ sv a w hs => by
  obtain ⟨b, Tb, cs, he, _, hh, hrep, _⟩ := box_cells hs hx hg hσ
  rw [nth_eq] at hd
  obtain ⟨vj, hv, hrj⟩ := hrep.get hd
  refine ⟨vj, hrj, fun w' hb => ?_⟩
  have hh' : w'.heap[b]? = some (.cells (List.toArray cs) Tb (0, 0)) := by rw [hb.block b (Array.getElem?_eq_some_iff.1 hh).1]; exact hh
  have hc' : w'.cell? ⟨b, j, none⟩ = some vj := by rw [cell_of_row w' b j _ _ _ hh']; simpa using hv
  simp [execOp, ho, he, Instr.loadAt, Instr.sureAddr, run_loadVar_one hu ha hc']
theorem q_lenS {s : ByteArray} {ts : Array TypeId} (ho : o.op = .call { callee := .builtin .len, args := #[x], argTypes := ts }) (hT : ts[0]? = some T) (hx : S.ev X x = .str s)
    (hu : X.Z.P.underlying T = some .string) : QOp X o S (.int .i64 s.size) := fun κ sv a w hs =>
  ⟨.int .i64 s.size, .int _ _, fun w' _ => by simp [execOp, ho, resolve, invoke, builtin, Builtin.len_, hT, ev_str hs hx, run_underlying hu, goInt]⟩
theorem q_idxS {s : ByteArray} {i : Int} {b : UInt8} (ho : o.op = .index T x y) (hx : S.ev X x = .str s) (hy : S.ev X y = .int .i64 i) (hu : X.Z.P.underlying T = some .string) (h0 : 0 ≤ i) (hb : s[i.toNat]? = some b) :
    QOp X o S (.int .u8 b.toNat) := fun κ sv a w hs =>
  ⟨.int .u8 b.toNat, .int _ _, fun w' _ => by simp [execOp, ho, ev_str hs hx, ev_int hs hy, Instr.index, asIntOf, run_underlying hu, h0, hb]⟩
theorem q_eqS {s t : ByteArray} (ho : o.op = .binOp .eql T x y T2) (hx : S.ev X x = .str s) (hy : S.ev X y = .str t) : QOp X o S (.bool (s.toList == t.toList)) := fun κ sv a w hs =>
  ⟨.bool (s.toList == t.toList), .bool _, fun w' _ => by simp [execOp, ho, ev_str hs hx, ev_str hs hy, eqGuard, binOp, Op.stringOp]⟩
theorem q_neS {s t : ByteArray} (ho : o.op = .binOp .neq T x y T2) (hx : S.ev X x = .str s) (hy : S.ev X y = .str t) : QOp X o S (.bool (!(s.toList == t.toList))) := fun κ sv a w hs =>
  ⟨.bool (!(s.toList == t.toList)), .bool _, fun w' _ => by simp [execOp, ho, ev_str hs hx, ev_str hs hy, eqGuard, binOp, Op.stringOp]⟩
end
section
variable {X : Ctx} {o : Oper} {S : St} {x y : Operand} {T T2 : TypeId}
theorem run_copy_zero {P : Program} {w : World} {ty E : TypeId} {q : TRow} (hu : P.underlying T = some (.slice E)) (hq : rowOk P E q = true) {d a : Option Addr} {n m c c' : Nat} (h0 : Nat.min m n = 0) :
    (Builtin.copy_ #[T, T2] ty #[.slice d n c, .slice a m c']).run P w = .ok (goInt 0) w := by
  have hl : ∀ (x : Addr), (loadCells x 0).run P w = .ok #[] w := fun x => by simpa using run_loadCells_list (P := P) w x [] (by simp)
  cases d <;> cases a <;> simp [Builtin.copy_, run_underlying hu, Builtin.lenOf, Builtin.firstCells, run_size_row hq, h0, storeCells, hl]
theorem run_copy_some {P : Program} {w : World} {ty E : TypeId} {q : TRow} (hu : P.underlying T = some (.slice E)) (hq : rowOk P E q = true) {g off n m c c' k : Nat} {ad : Addr} {cur : Array Value} {news : List Value} {e : TypeId} (hk : Nat.min m n = k)
    (hg : w.heap[g]? = some (.cells cur e (0, 0))) (hl : news.length = k * q.sz) (hn : ∀ j v, news[j]? = some v → w.cell? (ad.add j) = some v) (h1 : ∀ v ∈ news, v.oneCell' = true) (hfit : off + news.length ≤ cur.size) :
    (Builtin.copy_ #[T, T2] ty #[.slice (some ⟨g, off, none⟩) n c, .slice (some ad) m c']).run P w = .ok (goInt k) (w.setRow g (cur.toList.take off ++ news ++ cur.toList.drop (off + news.length)).toArray) := by
  have hld := run_loadCells_list (P := P) w ad news hn
  rw [hl] at hld
  have hst := run_storeCells_at P g off e news 0 cur w hg (by simpa using hfit) h1
  simp only [Nat.add_zero] at hst
  simp [Builtin.copy_, run_underlying hu, Builtin.lenOf, Builtin.firstCells, run_size_row hq, hk, hld, hst]
theorem n_copy {r q : TRow} {s g z n m t k : Nat} {E : TypeId} {f h f' : Nat → List D} {ts : Array TypeId} (ho : o.op = .call { callee := .builtin .copy, args := #[x, y], argTypes := ts }) (hts : ts = #[T, T2]) (hd : o.dst = some t)
    (hx : S.ev X x = .os s g) (hg : S.γ s = g) (hσ : S.σ s = .arr E z n f) (hy : S.ev X y = .sl z m h)
    (hr : nth X.Z.tab T = some r) (hk : Nat.beq r.k 3 = true) (hE : r.el = E) (hq : nth X.Z.tab E = some q) (hq9 : Nat.beq q.k 9 = false) (hz : q.sz = z) (hz0 : Nat.beq z 0 = false)
    (hkk : Nat.min m n = k) (h1 : ∀ i, i < k → f' i = h i) (h2 : ∀ i, k ≤ i → i < n → f' i = f i) :
    NOp X o S ⟨upd S.ρ t (.int .i64 k), S.γ, upd S.σ s (.arr E z n f')⟩ := fun κ sv a w hs => by
  subst hts hE hz
  have hokr := X.Z.tabOk _ _ hr (by intro e; rw [e] at hk; cases hk)
  have hokq := X.Z.tabOk _ _ hq (by intro e; rw [e] at hq9; cases hq9)
  have hu := slice_row hokr hk
  have hown0 := hs.wld.own s
  rw [hσ] at hown0
  obtain ⟨xs, hown, hfl, hfc, hfr⟩ := hown0
  have hxv := hs.ev x
  rw [hx] at hxv
  have hxe : a.eval x = sv s := by
    generalize a.eval x = v at hxv
    cases hxv with
    | os _ _ _ _ hh _ => exact hh hg.symm
  have hyv := hs.ev y
  rw [hy] at hyv
  have hz1 : 0 < q.sz := by
    cases hzz : q.sz with
    | zero => rw [hzz] at hz0; cases hz0
    | succ => omega
  have hkm : k ≤ m := hkk ▸ Nat.min_le_left _ _
  have hkn : k ≤ n := hkk ▸ Nat.min_le_right _ _
  have hfin : ∀ (w' : World) (xs' : List Value), (Builtin.copy_ #[T, T2] o.type #[a.eval x, a.eval y]).run X.Z.P w = .ok (goInt k) w' → w.grownBy w' (blk (S.σ s) (sv s)) → ownsAt w' (X.base s) r.el q.sz (sv s) n xs' →
      (∀ i, i < n → (f' i).length = q.sz) → (∀ i, i < n → allCell (f' i) = true) → (∀ i, i < n → RepL κ S.γ sv (f' i) ((xs'.drop (i * q.sz)).take q.sz)) →
      ∃ v w' κ' sv', ((execOp a.eval o).run X.Z.P w = .ok (.value v) w' ∨ ((execOp a.eval o).run X.Z.P w = .ok .skip w' ∧ v = Go.undef)) ∧ Sim X κ' sv' ⟨upd S.ρ t (.int .i64 k), S.γ, upd S.σ s (.arr r.el q.sz n f')⟩ (a.put o.dst v) w' := fun w' xs' hrun hgr ho' e2 e3 e4 => by
    have hW := hs.wld.rewrite s (.arr r.el q.sz n f') hgr (by rw [hσ]; exact blk_arr _) ⟨xs', ho', e2, e3, e4⟩ S.ρ
    have hS : Sim X κ sv ⟨S.ρ, S.γ, upd S.σ s (.arr r.el q.sz n f')⟩ a w' := ⟨hs.size, dfr_own hs s hgr, hs.slot, hW⟩
    rw [hd]
    refine ⟨.int .i64 k, w', κ, sv, .inl ?_, hS.put (some t) (.int _ _)⟩
    simp [execOp, ho, resolve, invoke, builtin, hrun, goInt]
  have hzero : ∀ (b : Option Addr) (cap : Nat), a.eval y = .slice b m cap → k = 0 → ∃ v w' κ' sv', ((execOp a.eval o).run X.Z.P w = .ok (.value v) w' ∨ ((execOp a.eval o).run X.Z.P w = .ok .skip w' ∧ v = Go.undef)) ∧ Sim X κ' sv' ⟨upd S.ρ t (.int .i64 k), S.γ, upd S.σ s (.arr r.el q.sz n f')⟩ (a.put o.dst v) w' := fun b cap hye h0 => by
    refine hfin w xs ?_ (below_grown (Below.refl _ _) _) hown (fun i hi => by rw [h2 i (by omega) hi]; exact hfl i hi) (fun i hi => by rw [h2 i (by omega) hi]; exact hfc i hi) (fun i hi => by rw [h2 i (by omega) hi]; exact hfr i hi)
    rw [hye, hxe, h0]
    rcases hown.2 with ⟨hv, _⟩ | ⟨g', off, cap', cur, hv, _⟩
    · rw [hv]; have := run_copy_zero (T2 := T2) (w := w) (ty := o.type) (d := none) (a := b) (n := 0) (m := m) (c := 0) (c' := cap) hu hokq (by simp)
      exact this
    · rw [hv]; exact run_copy_zero hu hokq (by rw [hkk, h0])
  generalize hye : a.eval y = v at hyv
  cases hyv with
  | sl0 => exact hzero _ _ hye (by omega)
  | slE => exact hzero _ _ hye (by omega)
  | sl _ _ _ b off cap u hmc hlz hac hul hκ =>
    by_cases hk0 : k = 0
    · exact hzero _ _ hye hk0
    have hulen : ∀ i, i < k → (u i).length = q.sz := fun i hi => by rw [(hul i (by omega)).length, hlz i (by omega)]
    have hnl : (((List.range k).map u).flatten).length = k * q.sz := by
      rw [flat_len _ (z := q.sz) (fun c hc => by
        obtain ⟨j, hj, rfl⟩ := List.mem_map.1 hc
        exact hulen j (by simpa using hj))]
      simp
    have hcellat : ∀ j v, (((List.range k).map u).flatten)[j]? = some v → ∃ i l, i < k ∧ l < q.sz ∧ j = i * q.sz + l ∧ (u i)[l]? = some v := by
      intro j v hj
      have hjl := (List.getElem?_eq_some_iff.1 hj).1
      rw [hnl] at hjl
      have hl : j % q.sz < q.sz := Nat.mod_lt _ hz1
      have hi : j / q.sz < k := (Nat.div_lt_iff_lt_mul hz1).2 hjl
      have e : j = j / q.sz * q.sz + j % q.sz := by rw [Nat.mul_comm]; exact (Nat.div_add_mod j q.sz).symm
      refine ⟨j / q.sz, j % q.sz, hi, hl, e, ?_⟩
      rw [e, flat_at _ (z := q.sz) (fun c hc => by
        obtain ⟨i, hi, rfl⟩ := List.mem_map.1 hc
        exact hulen i (by simpa using hi)) _ _ hl] at hj
      simpa [hi] using hj
    have hxl := hown.1
    have hknz : k * q.sz ≤ n * q.sz := Nat.mul_le_mul_right _ hkn
    rcases hown.2 with ⟨hv, hn0⟩ | ⟨g', off', cap', cur, hv, hbase, hheap, hnc, hcm, hsz, htake⟩
    · omega
    have hcap : n * q.sz ≤ cap' * q.sz := Nat.mul_le_mul_right _ hnc
    have hrun := run_copy_some (T2 := T2) (w := w) (ty := o.type) (c := cap') (c' := cap) (ad := ⟨b, off, none⟩) (off := off') hu hokq hkk hheap hnl
      (fun j v hj => by
        obtain ⟨i, l, hi, hl, rfl, hv⟩ := hcellat j v hj
        rw [addr_add, ← Nat.add_assoc]
        exact hs.wld.imm _ _ _ (hκ i l v (by omega) hv))
      (fun v hv => by
        obtain ⟨j, hj⟩ := List.getElem?_of_mem hv
        obtain ⟨i, l, hi, hl, rfl, hv⟩ := hcellat j v hj
        exact RepL.oneCells (hul i (by omega)) (hac i (by omega)) v (List.mem_of_getElem? hv))
      (by rw [hnl]; omega)
    obtain ⟨news, hnews⟩ : ∃ news, ((List.range k).map u).flatten = news := ⟨_, rfl⟩
    have hfc1 := flat_chunk u k hulen
    rw [hnews] at hrun hnl hfc1
    refine hfin _ (news ++ xs.drop (k * q.sz)) (by rw [hxe, hye, hv]; exact hrun) (by rw [hσ, hv]; exact grown_setRow _ _ _) ?_ (fun i hi => ?_) (fun i hi => ?_) (fun i hi => ?_)
    · refine ⟨by simp [hnl]; omega, .inr ⟨g', off', cap', _, hv, hbase, setRow_heap w g' cur _ _ (0, 0) hheap, hnc, hcm, ?_, ?_⟩⟩
      · simp [hnl]; omega
      · have := splice_off (cur := cur.toList) (ds := news) (off := off') (p := 0) (N := n * q.sz) (by rw [hnl]; omega) (by simp; omega)
        simp only [Nat.add_zero, Nat.zero_add, List.take_zero, List.nil_append] at this
        rw [this, htake, hnl]
    · by_cases hik : i < k
      · rw [h1 i hik]; exact hlz i (by omega)
      · rw [h2 i (by omega) hi]; exact hfl i hi
    · by_cases hik : i < k
      · rw [h1 i hik]; exact hac i (by omega)
      · rw [h2 i (by omega) hi]; exact hfc i hi
    · by_cases hik : i < k
      · rw [h1 i hik, append_chunkL hnl hik, hfc1 i hik]; exact hul i (by omega)
      · rw [h2 i (by omega) hi]
        obtain ⟨j, rfl⟩ : ∃ j, i = k + j := ⟨i - k, by omega⟩
        rw [append_chunkR hnl, List.drop_drop, ← Nat.add_mul]
        exact hfr _ hi
end
end Go.Ab
namespace Go.Ab
open Go Go.RowKit
set_option linter.all false
structure ContractRO (Z : Seat) (f : FuncId) (l l' A : List D) (R : D) (E z n : Nat) (el : Nat → List D) : Prop where
  pureA : PureL A
  purel : PureL l
  purel' : PureL l'
  cell' : allCell l' = true
  poR : PO R
  pureE : ∀ i, i < n → PureL (el i)
  body : HasBody Z.P f
  calls : ∀ (w : World) (κ : Nat → Nat → Option Value) (args : List Value) (b : Nat) (T : TypeId) (cs : List Value), Fits κ w → (∀ o, κ b o = none) → w.heap[b]? = some (.cells (List.toArray cs) T (0, 0)) → RepL κ γ0 sv0 l cs → GlobOk Z κ w → RepL κ γ0 sv0 A args →
    Calls Z.P f (Value.pointer (some ⟨b, 0, none⟩) :: args).toArray w fun e w' => ∃ v sl κ' cs' T', e = .returned v ∧ w'.heap[b]? = some (.cells (List.toArray cs') T' (0, 0)) ∧ RepL κ' γ0 sv0 l' cs' ∧
      Rep κ' (fun _ => 1) (fun _ => sl) (renO 0 1 R) v ∧ (∀ b o u, κ b o = some u → κ' b o = some u) ∧ (∀ b o u, b < w.heap.size → κ' b o = some u → κ b o = some u) ∧
      (∀ b o u, κ' b o = some u → w'.cell? ⟨b, o, none⟩ = some u) ∧ Owns w.heap.size κ' (fun _ => 1) (fun _ => sl) w' 0 (.arr E z n el) ∧ (∀ b, blk (.arr E z n el) sl = some b → ∀ o, κ' b o = none) ∧ Frame (some b) w w'
section
variable {X : Ctx} {Q : Exit → St → Prop} {S : St} {ops : Array Oper} {o : Oper} {rest : List Oper}
theorem WL_callRO (p : Nat) {f : FuncId} {x0 : Operand} {xs : List Operand} {ts : Array TypeId} {l l' A : List D} {R : D} {E z n : Nat} {el : Nat → List D} {s g : Nat} (hps : p ≠ s) (hg : o.guard = none) (ho : o.op = .call { callee := .value (.func f), args := (x0 :: xs).toArray, argTypes := ts }) (hx : S.ev X x0 = .bx s g 0) (hγ : S.γ s = g) (hσ : S.σ s = .box l)
    (hc : ContractRO X.Z f l l' A R E z n el) (hA : xs.map (S.ev X) = A) {t : Nat} (hd : o.dst = some t) {R' : D} (hR : renO p (S.γ p + 1) R = R')
    (hk : WL X ops rest Q ⟨upd S.ρ t R', upd S.γ p (S.γ p + 1), upd (upd S.σ s (.box l')) p (.arr E z n el)⟩) : WL X ops (o :: rest) Q S := fun κ sv a w hs => by
  subst hR
  obtain ⟨b, T, cs, he, hsv, hh, hrep, hac⟩ := box_cells hs hx hγ hσ
  have hblk : blk (S.σ s) (sv s) = some b := by rw [hσ, hsv]; rfl
  have hr := evs_rep hs xs
  rw [hA] at hr
  have hrun := run_call (P := X.Z.P) (a := a) (w := w) hc.body ho
  simp only [List.map_cons, he] at hrun
  have hcall := hc.calls w κ (xs.map a.eval) b T cs (Sim.fits hs.wld) (fun o => hs.wld.sep s b o hblk) hh (hrep.pure (fun _ _ _ h => h) hc.purel) (Sim.globOk hs.wld) (hr.pure (fun _ _ _ h => h) hc.pureA)
  refine wpListIn_plain hg fun K hK => op_call hrun hcall ?_
  rintro e w' ⟨v, sl, κ', cs', T', rfl, hh', hl', hv, k1, k2, k3, hown, hsep, hfr⟩
  have hgr : w.grownBy w' (some b) := ⟨hfr.os, hfr.tape, hfr.output, hfr.size, fun k hk hne => hfr.block k hk hne⟩
  have hle : Le κ κ' S.γ (upd S.γ p (S.γ p + 1)) sv (upd sv p sl) := by
    obtain ⟨a, b, c⟩ := le_renew κ S.γ sv p sl
    exact ⟨k1, b, c⟩
  have hnew : ∀ b', blk (.arr E z n el) sl = some b' → w.heap.size ≤ b' ∧ b' < w'.heap.size ∧ ∀ o, κ' b' o = none := fun b' hbk => by
    obtain ⟨xs, e1, _⟩ := hown
    rcases e1.2 with ⟨hv, _⟩ | ⟨b'', off, cap, cur, hv, hbase, hh, _⟩
    · simp only at hv; rw [hv] at hbk; cases hbk
    · simp only at hv
      rw [hv] at hbk; simp only [blk, Option.some.injEq] at hbk; subst hbk
      exact ⟨hbase, (Array.getElem?_eq_some_iff.1 hh).1, hsep b'' (by rw [hv]; rfl)⟩
  have hbt : ∀ t, t ≠ s → ∀ b', blk (S.σ t) (sv t) = some b' → w'.heap[b']? = w.heap[b']? := fun t ht b' hb' =>
    hgr.block b' (owns_lt (hs.wld.own t) hb') (fun e => ht (hs.wld.inj t s b' hb' (by rw [hblk]; exact e.symm)))
  have hbk : ∀ t b', blk (upd (upd S.σ s (.box l')) p (.arr E z n el) t) (upd sv p sl t) = some b' → (t = p ∧ blk (.arr E z n el) sl = some b') ∨ (t ≠ p ∧ blk (S.σ t) (sv t) = some b') := by
    intro t b' hb'
    by_cases e : t = p
    · subst e; rw [upd_same, upd_same] at hb'; exact .inl ⟨rfl, hb'⟩
    · rw [upd_ne _ _ _ _ e, upd_ne _ _ _ _ e] at hb'
      refine .inr ⟨e, ?_⟩
      by_cases e2 : t = s
      · subst e2; rw [upd_same, hsv] at hb'; rw [hblk]; exact hb'
      · rw [upd_ne _ _ _ _ e2] at hb'; exact hb'
  have hκb : ∀ o, κ' b o = none := fun o => by
    cases hk : κ' b o with
    | none => rfl
    | some u =>
      have h2 := k2 b o u (owns_lt (hs.wld.own s) hblk) hk
      rw [hs.wld.sep s b o hblk] at h2; cases h2
  have hW : SimW X κ' (upd sv p sl) ⟨S.ρ, upd S.γ p (S.γ p + 1), upd (upd S.σ s (.box l')) p (.arr E z n el)⟩ w' := by
    have h0 := hs.wld
    obtain ⟨h1, h2, h3, h4, h5, _, h7, h8, h9, h10, h11, h12, h13, h14, h15⟩ := hs.wld
    refine ⟨k3, fun t => ?_, fun t u b' ht hu => ?_, fun t b' o ht => ?_, fun t b' ht => ?_, frame_step h0 hgr (fun b' e => ⟨s, by rw [hblk]; exact e⟩) (fun t b' ht => ?_), fun g l hgl => ?_, fun b' o v hlt hk => k2 b' o v (Nat.lt_of_lt_of_le hlt h10) hk |> h8 b' o v hlt, fun b' hb' => ?_, Nat.le_trans h10 hgr.size, h11.trans hle, fun b' o v hk hT => ?_, fun t b' ht hT => ?_, fun b' h => Nat.lt_of_lt_of_le (h14 b' h) hgr.size, h15⟩
    · by_cases e : t = p
      · subst e
        simp only [upd_same]
        obtain ⟨xs, e1, e2, e3, e4⟩ := hown
        exact ⟨xs, by rw [upd_same]; exact owns_base e1 (Nat.le_trans (X.base_le _) h10), e2, e3, fun i hi => (e4 i hi).pure (fun _ _ _ h => h) (hc.pureE i hi)⟩
      · simp only [upd_ne _ _ _ _ e]
        by_cases e2 : t = s
        · subst e2; simp only [upd_same]
          exact ⟨b, T', cs', by rw [upd_ne _ _ _ _ e]; exact hsv, hh', hl'.pure (fun _ _ _ h => h) hc.purel', .pure hc.cell' hc.purel'⟩
        · simp only [upd_ne _ _ _ _ e2]
          exact owns_mono hle (upd_ne _ _ _ _ e) (hbt t e2) (h2 t)
    · simp only at ht hu
      rcases hbk t b' ht with ⟨rfl, a1⟩ | ⟨e1, a1⟩ <;> rcases hbk u b' hu with ⟨rfl, a2⟩ | ⟨e2, a2⟩
      · rfl
      · have := owns_lt (h2 u) a2; have := (hnew b' a1).1; omega
      · have := owns_lt (h2 t) a1; have := (hnew b' a2).1; omega
      · exact h3 t u b' a1 a2
    · simp only at ht
      rcases hbk t b' ht with ⟨rfl, a1⟩ | ⟨e1, a1⟩
      · exact (hnew b' a1).2.2 o
      · cases hk : κ' b' o with
        | none => rfl
        | some v => have h20 := k2 b' o v (owns_lt (h2 t) a1) hk; rw [h4 t b' o a1] at h20; cases h20
    · simp only at ht
      rcases hbk t b' ht with ⟨rfl, a1⟩ | ⟨e1, a1⟩
      · exact .inl (Nat.le_trans h10 (hnew b' a1).1)
      · exact h5 t b' a1
    · rcases hbk t b' ht with ⟨rfl, a1⟩ | ⟨e1, a1⟩
      · exact .inl (hnew b' a1).1
      · exact .inr ⟨t, a1⟩
    · obtain ⟨hc2, u, hu, hk⟩ := h7 g l hgl
      exact ⟨hc2, u, hu.mono hle, fun j v hj => k1 _ _ _ (hk j v hj)⟩
    · obtain ⟨e1, e2⟩ := h9 b' hb'
      by_cases e : 0 = p
      · subst e; simp only [upd_same]; exact ⟨by omega, fun e => by omega⟩
      · simp only [upd_ne _ _ _ _ e]; exact ⟨e1, e2⟩
    · by_cases e : b' < w.heap.size
      · exact h12 b' o v (k2 b' o v e hk) hT
      · have := h14 b' hT; omega
    · simp only at ht
      rcases hbk t b' ht with ⟨rfl, a1⟩ | ⟨e1, a1⟩
      · have := h14 b' hT; have := (hnew b' a1).1; omega
      · exact h13 t b' a1 hT
  have hs' : Sim X κ' (upd sv p sl) ⟨S.ρ, upd S.γ p (S.γ p + 1), upd (upd S.σ s (.box l')) p (.arr E z n el)⟩ a w' := ⟨hs.size, dfr_own hs s (by rw [hblk]; exact hgr), fun i hi => (hs.slot i hi).mono hle, hW⟩
  refine ⟨v, rfl, ?_⟩
  rw [hd]
  exact hK _ _ (hk κ' _ _ w' (hs'.put (some t) (rep_ren (p := 0) (g := 1) (fun _ _ _ h => h) rfl (upd_same _ _ _) (upd_same _ _ _) hc.poR hv)))
end
end Go.Ab
namespace Go.Ab
open Go Go.RowKit
set_option linter.all false
section
variable {X : Ctx} {o : Oper} {S : St} {x : Operand}
theorem q_slV {T E : TypeId} {r q : TRow} {s g z n i j : Nat} {f : Nat → List D} {lo hi : Option Operand} (ho : o.op = .slice T x lo hi none) (hx : S.ev X x = .os s g) (hg : S.γ s = g) (hσ : S.σ s = .arr E z n f)
    (hlo : bndd X S lo i 0) (hhi : bndd X S hi j n) (hij : i ≤ j) (hjn : j ≤ n)
    (hr : nth X.Z.tab T = some r) (hk : Nat.beq r.k 3 = true) (hq : nth X.Z.tab r.el = some q) (hq9 : Nat.beq q.k 9 = false) (hz : q.sz = z) :
    QOp X o S (.ow s g z i (j - i)) := fun κ sv a w hs => by
  subst hz
  have hokr := X.Z.tabOk _ _ hr (by intro e; rw [e] at hk; cases hk)
  have hokq := X.Z.tabOk _ _ hq (by intro e; rw [e] at hq9; cases hq9)
  have hu := slice_row hokr hk
  have hown0 := hs.wld.own s
  rw [hσ] at hown0
  obtain ⟨xs, hown, _⟩ := hown0
  have hxv := hs.ev x
  rw [hx] at hxv
  have hxe : a.eval x = sv s := by
    generalize a.eval x = v at hxv
    cases hxv with
    | os _ _ _ _ hh _ => exact hh hg.symm
  have fin : ∀ (ad : Option Addr) (cap : Nat), sv s = .slice ad n cap → n ≤ cap → (Value.slice (if cap = i then ad else ad.map (·.add (i * q.sz))) (j - i) (cap - i)).oneCell' = true →
      ∃ v, Rep κ S.γ sv (.ow s g q.sz i (j - i)) v ∧ ∀ w', Below w.heap.size w w' → (execOp a.eval o).run X.Z.P w' = .ok (.value v) w' := fun ad cap he hnc h1c => by
    refine ⟨_, .ow s g q.sz i (j - i) _ (by omega) (fun _ => ⟨ad, n, cap, he, rfl⟩) h1c, fun w' _ => ?_⟩
    have := run_sliceAt (P := X.Z.P) (w := w') (a := ad) (len := n) (cap := cap) hu hokq (hlo.v hs) (hhi.v hs) hij (by omega)
    simp only [execOp, ho, hxe, he, Option.map_none]
    simp [this]
  rcases hown.2 with ⟨hv, hn⟩ | ⟨b, off, cap, cur, hv, _, _, hnc, _⟩
  · refine fin none 0 (by rw [hv, hn]) (by omega) ?_
    split <;> rfl
  · refine fin _ cap hv hnc ?_
    split <;> rfl
theorem n_appV {T E : TypeId} {r q : TRow} {x y : Operand} {s g z n k c m t n' : Nat} {f f' : Nat → List D} {ts : Array TypeId} (ho : o.op = .call { callee := .builtin .append, args := #[x, y], argTypes := ts }) (hts : ts = #[T, T]) (hd : o.dst = some t)
    (hx : S.ev X x = .ow s g z 0 k) (hy : S.ev X y = .ow s g z c m) (hg : S.γ s = g) (hσ : S.σ s = .arr E z n f) (hkn : k ≤ n) (hcn : c + m ≤ n) (hkm : k + m ≤ n)
    (hr : nth X.Z.tab T = some r) (hk : Nat.beq r.k 3 = true) (hE : r.el = E) (hq : nth X.Z.tab E = some q) (hq9 : Nat.beq q.k 9 = false) (hz : q.sz = z) (hzs : Nat.beq q.zs.length z = true) (hz0 : Nat.beq z 0 = false)
    (hb : (k + m) * q.bytes ≤ 140737488355328) (hm : k + m ≤ 140737488355328) (hn' : n' = k + m) (h1 : ∀ i, i < k → f' i = f i) (h2 : ∀ i, i < m → f' (k + i) = f (c + i)) :
    NOp X o S (S.owned t s (.arr E z n' f')) := fun κ sv a w hs => by
  subst hts hn'
  have hokr := X.Z.tabOk _ _ hr (by intro e; rw [e] at hk; cases hk)
  have hokq := X.Z.tabOk _ _ hq (by intro e; rw [e] at hq9; cases hq9)
  obtain ⟨iq, dq, hiq, hdq, hsq, hbq, ⟨zv, hzv, hzf⟩, _⟩ := row_info hokq
  have hu := slice_row hokr hk
  rw [hE] at hu
  have hown0 := hs.wld.own s
  rw [hσ] at hown0
  obtain ⟨xs, hown, hfl, hfc, hfr⟩ := hown0
  have hxv := hs.ev x
  have hyv := hs.ev y
  rw [hx] at hxv
  rw [hy] at hyv
  have hzl : zv.cells.size = z := by have := zr_len hzf; have h2 := Nat.eq_of_beq_eq_true hzs; simp at this; omega
  have hz1 : 0 < z := by
    cases z with
    | zero => cases hz0
    | succ z => omega
  have hle : ∀ pv, Le κ κ S.γ (upd S.γ s (S.γ s + 1)) sv (upd sv s pv) := le_renew κ S.γ sv s
  have hxl : xs.length = n * z := hown.1
  rw [hd]
  have hxe : ∃ ad N cap, sv s = .slice ad N cap ∧ a.eval x = .slice (if cap = 0 then ad else ad.map (·.add (0 * z))) k (cap - 0) := by
    generalize a.eval x = v at hxv
    cases hxv with
    | ow _ _ _ _ _ _ _ hh _ => exact hh hg.symm
  have hye : ∃ ad N cap, sv s = .slice ad N cap ∧ a.eval y = .slice (if cap = c then ad else ad.map (·.add (c * z))) m (cap - c) := by
    generalize a.eval y = v at hyv
    cases hyv with
    | ow _ _ _ _ _ _ _ hh _ => exact hh hg.symm
  obtain ⟨ad, N, cap, hv, hxe⟩ := hxe
  obtain ⟨ad2, N2, cap2, hv2, hye⟩ := hye
  rw [hv] at hv2
  simp only [Value.slice.injEq] at hv2
  obtain ⟨rfl, rfl, rfl⟩ := hv2
  rcases hown.2 with ⟨hv0, hn0⟩ | ⟨b, off, cap', cur, hv', hbase, hh, hnc, hcm, hcs, htake⟩
  · rw [hv0] at hv
    simp only [Value.slice.injEq] at hv
    obtain ⟨rfl, rfl, rfl⟩ := hv
    have hk0 : k = 0 := by omega
    have hm0 : m = 0 := by omega
    have hc0 : c = 0 := by omega
    subst hk0 hm0 hc0
    have hxe' : a.eval x = .slice none 0 0 := by rw [hxe]; rfl
    have hye' : a.eval y = .slice none 0 0 := by rw [hye]; rfl
    have hrun := run_append_none (P := X.Z.P) (w := w) (X.base s) T o.type E iq z hu hiq (.slice none 0 0) 0 [] ⟨by simp, .inl ⟨rfl, rfl⟩⟩
    refine ⟨.slice none 0 0, w, κ, _, .inl ?_, sim_owned hs t s (pv := .slice none 0 0) rfl (below_grown (Below.refl _ _) _) (fun b hb => by cases hb) ?_⟩
    · simp [execOp, ho, resolve, invoke, builtin, hxe', hye', hrun]
    · exact ⟨[], by rw [upd_same]; exact ⟨by simp, .inl ⟨rfl, rfl⟩⟩, fun i hi => by omega, fun i hi => by omega, fun i hi => by omega⟩
  · rw [hv'] at hv
    simp only [Value.slice.injEq] at hv
    obtain ⟨rfl, rfl, rfl⟩ := hv
    have hkz : k * z ≤ n * z := Nat.mul_le_mul_right _ hkn
    have hcz : c * z + m * z ≤ n * z := by rw [← Nat.add_mul]; exact Nat.mul_le_mul_right _ hcn
    have hxe' : a.eval x = .slice (some ⟨b, off, none⟩) k cap' := by
      rw [hxe]
      by_cases h0 : cap' = 0
      · rw [if_pos h0]; simp
      · rw [if_neg h0]; simp [addr_add]
    have hownk : ownsAt w (X.base s) E z (.slice (some ⟨b, off, none⟩) k cap') k (xs.take (k * z)) := by
      refine ⟨by simp; omega, .inr ⟨b, off, cap', cur, rfl, hbase, hh, by omega, hcm, hcs, ?_⟩⟩
      rw [← htake, List.take_take, Nat.min_eq_left hkz]
    have hcells : ∀ j u, xs[j]? = some u → w.cell? ⟨b, off + j, none⟩ = some u := fun j u hj => by
      have := (show ownsAt w (X.base s) E z (.slice (some ⟨b, off, none⟩) n cap') n xs from ⟨hown.1, .inr ⟨b, off, cap', cur, rfl, hbase, hh, hnc, hcm, hcs, htake⟩⟩).cells j u hj
      rwa [addr_add] at this
    obtain ⟨news, hnews⟩ : ∃ l, (xs.drop (c * z)).take (m * z) = l := ⟨_, rfl⟩
    have hnl : news.length = m * z := by rw [← hnews]; simp; omega
    have hng : ∀ j u, news[j]? = some u → xs[c * z + j]? = some u := fun j u hj => by
      have hjl := (List.getElem?_eq_some_iff.1 hj).1
      rw [← hnews, List.getElem?_take, if_pos (by omega), List.getElem?_drop] at hj
      exact hj
    have hone : ∀ (j : Nat) (u : Value), xs[j]? = some u → u.oneCell' = true := fun j u hj => by
      have hjl := (List.getElem?_eq_some_iff.1 hj).1
      have hkk : j % z < z := Nat.mod_lt _ hz1
      have hi : j / z < n := (Nat.div_lt_iff_lt_mul hz1).2 (by omega)
      have e : j = j / z * z + j % z := by rw [Nat.mul_comm]; exact (Nat.div_add_mod j z).symm
      refine RepL.oneCells (hfr _ hi) (hfc _ hi) u ?_
      refine List.mem_of_getElem? (i := j % z) ?_
      rw [List.getElem?_take, if_pos hkk, List.getElem?_drop, ← e]; exact hj
    have hchunk : ∀ i, i < m → (news.drop (i * z)).take z = (xs.drop ((c + i) * z)).take z := fun i hi => by
      have h1 : i * z + z ≤ m * z := by have := Nat.mul_le_mul_right z (show i + 1 ≤ m by omega); rw [Nat.add_mul] at this; omega
      rw [← hnews, List.drop_take, List.take_take, Nat.min_eq_left (by omega), List.drop_drop, Nat.add_mul]
    obtain ⟨ya, yc, hye', hycell⟩ : ∃ ya yc, a.eval y = .slice (some ya) m yc ∧ ∀ j u, news[j]? = some u → w.cell? (ya.add j) = some u := by
      by_cases h0 : cap' = c
      · have hm0 : m = 0 := by omega
        refine ⟨⟨b, off, none⟩, cap' - c, by rw [hye, if_pos h0], fun j u hj => ?_⟩
        have := (List.getElem?_eq_some_iff.1 hj).1
        rw [hnl, hm0] at this; omega
      · refine ⟨⟨b, off + c * z, none⟩, cap' - c, by rw [hye, if_neg h0]; simp [addr_add], fun j u hj => ?_⟩
        rw [addr_add, Nat.add_assoc]
        exact hcells _ _ (hng j u hj)
    obtain ⟨v', w', hrun, hown', hgr, hwh⟩ := run_append_where (P := X.Z.P) (w := w) (X.base s) T o.type E iq zv z q.bytes hu hiq hzv (by rw [hsq, hz]) (by rw [hbq]) hzl hz1 (.slice (some ⟨b, off, none⟩) k cap') k (xs.take (k * z)) hownk ya m yc news hnl
      hycell (fun v hv => by
        obtain ⟨j, hj⟩ := List.getElem?_of_mem hv
        exact hone _ _ (hng j v hj)) (by unfold maxLen; omega) hb (hs.wld.baseS _)
    have hob : (Value.slice (some (⟨b, off, none⟩ : Addr)) k cap').ownBlock = blk (S.σ s) (sv s) := by rw [hσ, hv']; rfl
    rw [hob] at hgr
    have hxk : (xs.take (k * z)).length = k * z := by simp; omega
    refine ⟨v', w', κ, _, .inl ?_, sim_owned hs t s (pv := v') ?_ hgr (fun b' hb' => ?_) ?_⟩
    · simp [execOp, ho, resolve, invoke, builtin, hxe', hye', hrun]
    · rcases hown'.2 with ⟨e, _⟩ | ⟨_, _, _, _, e, _⟩ <;> rw [e] <;> rfl
    · rw [← hob]
      refine hwh b' ?_
      rcases hown'.2 with ⟨e, _⟩ | ⟨_, _, _, _, e, _⟩ <;> (rw [e] at hb' ⊢; exact hb')
    · refine ⟨_, by rw [upd_same]; exact hown', fun i hi => ?_, fun i hi => ?_, fun i hi => ?_⟩
      · by_cases hin : i < k
        · rw [h1 i hin]; exact hfl i (by omega)
        · obtain ⟨p, rfl⟩ : ∃ p, i = k + p := ⟨i - k, by omega⟩
          rw [h2 p (by omega)]; exact hfl _ (by omega)
      · by_cases hin : i < k
        · rw [h1 i hin]; exact hfc i (by omega)
        · obtain ⟨p, rfl⟩ : ∃ p, i = k + p := ⟨i - k, by omega⟩
          rw [h2 p (by omega)]; exact hfc _ (by omega)
      · by_cases hin : i < k
        · rw [h1 i hin, append_chunkL hxk hin]
          have hiz : i * z + z ≤ k * z := by have := Nat.mul_le_mul_right z (show i + 1 ≤ k by omega); rw [Nat.add_mul] at this; omega
          rw [List.drop_take, List.take_take, Nat.min_eq_left (by omega)]
          exact (hfr i (by omega)).mono (hle _)
        · obtain ⟨p, rfl⟩ : ∃ p, i = k + p := ⟨i - k, by omega⟩
          rw [h2 p (by omega), append_chunkR hxk, hchunk p (by omega)]
          exact (hfr _ (by omega)).mono (hle _)
end
end Go.Ab
namespace Go.Ab
open Go Go.RowKit
set_option linter.all false
section
variable {X : Ctx} {S : St} {o : Oper} {T : TypeId} {r q : TRow}
theorem n_appOO {x y : Operand} {s g s2 g2 z n m t n' : Nat} {E E2 : TypeId} {f h f' : Nat → List D} {ts : Array TypeId} (ho : o.op = .call { callee := .builtin .append, args := #[x, y], argTypes := ts }) (hts : ts = #[T, T]) (hd : o.dst = some t)
    (hx : (S.ev X x = .os s g ∧ S.γ s = g ∧ S.σ s = .arr E z n f) ∨ (S.ev X x = .nil ∧ n = 0 ∧ s = t)) (hy : S.ev X y = .os s2 g2) (hg2 : S.γ s2 = g2) (hσ2 : S.σ s2 = .arr E2 z m h)
    (hr : nth X.Z.tab T = some r) (hk : Nat.beq r.k 3 = true) (hE : r.el = E) (hq : nth X.Z.tab E = some q) (hq9 : Nat.beq q.k 9 = false) (hz : q.sz = z) (hzs : Nat.beq q.zs.length z = true) (hz0 : Nat.beq z 0 = false)
    (hb : (n + m) * q.bytes ≤ 140737488355328) (hm : n + m ≤ 140737488355328) (hn' : n' = n + m) (h1 : ∀ i, i < n → f' i = f i) (h2 : ∀ i, i < m → f' (n + i) = h i) :
    NOp X o S (S.owned t s (.arr E z n' f')) := fun κ sv a w hs => by
  subst hts hn'
  have hokr := X.Z.tabOk _ _ hr (by intro e; rw [e] at hk; cases hk)
  have hokq := X.Z.tabOk _ _ hq (by intro e; rw [e] at hq9; cases hq9)
  obtain ⟨iq, dq, hiq, hdq, hsq, hbq, ⟨zv, hzv, hzf⟩, _⟩ := row_info hokq
  have hu := slice_row hokr hk
  rw [hE] at hu
  -- the first one
  obtain ⟨xv, xs, hxe, hown, hfl, hfc, hfr, hbx⟩ : ∃ xv xs, a.eval x = xv ∧ ownsAt w (X.base s) E z xv n xs ∧ (∀ i, i < n → (f i).length = z) ∧ (∀ i, i < n → allCell (f i) = true) ∧ (∀ i, i < n → RepL κ S.γ sv (f i) ((xs.drop (i * z)).take z)) ∧ (xv = .slice none 0 0 ∨ blk (S.σ s) (sv s) = xv.ownBlock) := by
    rcases hx with ⟨hx, hg, hσ⟩ | ⟨hx, rfl, _⟩
    · have hown0 := hs.wld.own s
      rw [hσ] at hown0
      obtain ⟨xs, hown, hfl, hfc, hfr⟩ := hown0
      have hxv := hs.ev x
      rw [hx] at hxv
      refine ⟨sv s, xs, ?_, hown, hfl, hfc, hfr, .inr ?_⟩
      · generalize a.eval x = v at hxv
        cases hxv with
        | os _ _ _ _ hh _ => exact hh hg.symm
      · rw [hσ]
        rcases hown.2 with ⟨e, _⟩ | ⟨_, _, _, _, e, _⟩ <;> rw [e] <;> rfl
    · have hxv := hs.ev x
      rw [hx] at hxv
      refine ⟨.slice none 0 0, [], ?_, ownsAt_nil _ _ _ _, fun i hi => by omega, fun i hi => by omega, fun i hi => by omega, .inl rfl⟩
      generalize a.eval x = v at hxv
      cases hxv; rfl
  -- the second one
  have hown2 := hs.wld.own s2
  rw [hσ2] at hown2
  obtain ⟨ys, hownY, hyl, hyc, hyr⟩ := hown2
  have hyv := hs.ev y
  rw [hy] at hyv
  have hye : a.eval y = sv s2 := by
    generalize a.eval y = v at hyv
    cases hyv with
    | os _ _ _ _ hh _ => exact hh hg2.symm
  have hzl : zv.cells.size = z := by have := zr_len hzf; have h2 := Nat.eq_of_beq_eq_true hzs; simp at this; omega
  have hz1 : 0 < z := by
    cases z with
    | zero => cases hz0
    | succ z => omega
  have hle : ∀ pv, Le κ κ S.γ (upd S.γ s (S.γ s + 1)) sv (upd sv s pv) := le_renew κ S.γ sv s
  have hxl : xs.length = n * z := hown.1
  have hys : ys.length = m * z := hownY.1
  have hrow : ∀ b, xv.ownBlock = some b → blk (S.σ s) (sv s) = some b := fun b hb => by
    rcases hbx with e | e
    · rw [e] at hb; cases hb
    · rw [e]; exact hb
  have hgrow : ∀ {w' : World}, w.grownBy w' xv.ownBlock → w.grownBy w' (blk (S.σ s) (sv s)) := fun {w'} hgr => by
    rcases hbx with e | e
    · rw [e] at hgr
      exact ⟨hgr.os, hgr.tape, hgr.output, hgr.size, fun k hk _ => hgr.block k hk (by simp [Value.ownBlock])⟩
    · rw [e]; exact hgr
  rw [hd]
  have fin : ∀ (v' : Value) (w' : World), (Builtin.append_ #[T, T] o.type #[xv, sv s2]).run X.Z.P w = .ok v' w' → ownsAt w' (X.base s) E z v' (n + m) (xs ++ ys) → w.grownBy w' xv.ownBlock → (∀ b', v'.ownBlock = some b' → w.heap.size ≤ b' ∨ xv.ownBlock = some b') →
      ∃ v w' κ' sv', ((execOp a.eval o).run X.Z.P w = .ok (.value v) w' ∨ ((execOp a.eval o).run X.Z.P w = .ok .skip w' ∧ v = Go.undef)) ∧ Sim X κ' sv' (S.owned t s (.arr E z (n + m) f')) (a.put (some t) v) w' := fun v' w' hrun hown' hgr hwh => by
    refine ⟨v', w', κ, _, .inl ?_, sim_owned hs t s (pv := v') ?_ (hgrow hgr) (fun b' hb' => ?_) ?_⟩
    · simp [execOp, ho, resolve, invoke, builtin, hxe, hye, hrun]
    · rcases hown'.2 with ⟨e, _⟩ | ⟨_, _, _, _, e, _⟩ <;> rw [e] <;> rfl
    · have hb2 : v'.ownBlock = some b' := by
        rcases hown'.2 with ⟨e, _⟩ | ⟨_, _, _, _, e, _⟩ <;> (rw [e] at hb' ⊢; exact hb')
      rcases hwh b' hb2 with h | h
      · exact .inl h
      · exact .inr (hrow b' h)
    · refine ⟨_, by rw [upd_same]; exact hown', fun i hi => ?_, fun i hi => ?_, fun i hi => ?_⟩
      · by_cases hin : i < n
        · rw [h1 i hin]; exact hfl i hin
        · obtain ⟨k, rfl⟩ : ∃ k, i = n + k := ⟨i - n, by omega⟩
          rw [h2 k (by omega)]; exact hyl k (by omega)
      · by_cases hin : i < n
        · rw [h1 i hin]; exact hfc i hin
        · obtain ⟨k, rfl⟩ : ∃ k, i = n + k := ⟨i - n, by omega⟩
          rw [h2 k (by omega)]; exact hyc k (by omega)
      · by_cases hin : i < n
        · rw [h1 i hin, append_chunkL hxl hin]; exact (hfr i hin).mono (hle _)
        · obtain ⟨k, rfl⟩ : ∃ k, i = n + k := ⟨i - n, by omega⟩
          rw [h2 k (by omega), append_chunkR hxl]
          exact (hyr k (by omega)).mono (hle _)
  rcases hownY.2 with ⟨ev, rfl⟩ | ⟨g3, off, cap, cur, ev, q1, q2, q3, q4, q5, q6⟩
  · have hy0 : ys = [] := List.eq_nil_of_length_eq_zero (by simpa using hys)
    subst hy0
    have hrun := run_append_none (P := X.Z.P) (w := w) (X.base s) T o.type E iq z hu hiq xv n xs hown
    rw [← ev] at hrun
    exact fin xv w hrun (by simpa using hown) (below_grown (Below.refl _ _) _) (fun b hb => .inr hb)
  · rw [ev] at hownY
    obtain ⟨v', w', hrun, hown', hgr, hwh⟩ := run_append_where (P := X.Z.P) (w := w) (X.base s) T o.type E iq zv z q.bytes hu hiq hzv (by rw [hsq, hz]) (by rw [hbq]) hzl hz1 xv n xs hown ⟨g3, off, none⟩ m cap ys hys
      (fun j v hj => hownY.cells j v hj)
      (fun v hv => by
        obtain ⟨j, hj⟩ := List.getElem?_of_mem hv
        have hjl := (List.getElem?_eq_some_iff.1 hj).1
        rw [hys] at hjl
        have hk : j % z < z := Nat.mod_lt _ hz1
        have hi : j / z < m := (Nat.div_lt_iff_lt_mul hz1).2 hjl
        have e : j = j / z * z + j % z := by rw [Nat.mul_comm]; exact (Nat.div_add_mod j z).symm
        refine RepL.oneCells (hyr _ hi) (hyc _ hi) v ?_
        refine List.mem_of_getElem? (i := j % z) ?_
        rw [List.getElem?_take, if_pos hk, List.getElem?_drop, ← e]
        exact hj)
      (by unfold maxLen; omega) hb (hs.wld.baseS _)
    rw [← ev] at hrun
    exact fin v' w' hrun hown' hgr hwh
theorem run_clear_own {P : Program} {w : World} {ty E e : TypeId} {q : TRow} {kz : IntKind} (hu : P.underlying T = some (.slice E)) (hq : rowOk P E q = true) (hz : q.zs = [.i kz]) {g off m c : Nat} {cur : Array Value}
    (hg : w.heap[g]? = some (.cells cur e (0, 0))) (hm : 0 < m) (hfit : off + m ≤ cur.size) :
    (Builtin.clear_ #[T] ty #[.slice (some ⟨g, off, none⟩) m c]).run P w = .ok (.tuple #[]) (w.setRow g (cur.toList.take off ++ List.replicate m (Value.int kz 0) ++ cur.toList.drop (off + m)).toArray) := by
  obtain ⟨iq, dq, hiq, hdq, hsq, hbq, ⟨zv, hzv, hzf⟩, _⟩ := row_info hq
  rw [hz] at hzf
  have hcells : zv.cells = #[.int kz 0] := by
    cases hc : zv.cells.toList with
    | nil => rw [hc] at hzf; cases hzf
    | cons u us =>
      rw [hc] at hzf
      cases us with
      | cons u2 us => simp [Zr.fitsL] at hzf
      | nil =>
        have h1 : Zr.fits (.i kz) u = true := by simpa [Zr.fitsL] using hzf
        cases u <;> simp only [Zr.fits] at h1 <;> try (cases h1; done)
        rename_i k' n
        simp only [Bool.and_eq_true, beq_iff_eq] at h1
        obtain ⟨rfl, rfl⟩ := h1
        have : zv.cells = zv.cells.toList.toArray := by simp
        rw [this, hc]
  have hzc : (Builtin.zeroCells zv.cells m).toList = List.replicate m (Value.int kz 0) := by
    rw [hcells]
    simp [Builtin.zeroCells]
    apply List.ext_getElem
    · simp
    · intro i h1 h2
      simp [Nat.mod_one]
  have hst := run_storeCells_at P g off e (List.replicate m (Value.int kz 0)) 0 cur w hg (by simpa using hfit) (by intro v hv; rw [List.eq_of_mem_replicate hv]; rfl)
  simp only [Nat.add_zero, List.length_replicate] at hst
  cases m with
  | zero => omega
  | succ m => simp [Builtin.clear_, run_underlying hu, zeroValue, typeInfo, hiq, hzv, hzc, hst]
theorem n_clear {x : Operand} {s g a0 m n : Nat} {E : TypeId} {kz : IntKind} {f f' : Nat → List D} {ts : Array TypeId} (ho : o.op = .call { callee := .builtin .clear, args := #[x], argTypes := ts }) (hts : ts = #[T]) (hd : o.dst = none)
    (hx : S.ev X x = .ow s g 1 a0 m) (hg : S.γ s = g) (hσ : S.σ s = .arr E 1 n f) (ham : a0 + m ≤ n)
    (hr : nth X.Z.tab T = some r) (hk : Nat.beq r.k 3 = true) (hE : r.el = E) (hq : nth X.Z.tab E = some q) (hq9 : Nat.beq q.k 9 = false) (hzs : q.zs = [.i kz])
    (h1 : ∀ i, i < n → a0 ≤ i ∧ i < a0 + m → f' i = [.int kz 0]) (h2 : ∀ i, i < n → ¬(a0 ≤ i ∧ i < a0 + m) → f' i = f i) :
    NOp X o S ⟨S.ρ, S.γ, upd S.σ s (.arr E 1 n f')⟩ := fun κ sv a w hs => by
  subst hts hE
  have hokr := X.Z.tabOk _ _ hr (by intro e; rw [e] at hk; cases hk)
  have hokq := X.Z.tabOk _ _ hq (by intro e; rw [e] at hq9; cases hq9)
  have hu := slice_row hokr hk
  have hown0 := hs.wld.own s
  rw [hσ] at hown0
  obtain ⟨xs, hown, hfl, hfc, hfr⟩ := hown0
  have hxv := hs.ev x
  rw [hx] at hxv
  have hfin : ∀ (w' : World) (xs' : List Value), (Builtin.clear_ #[T] o.type #[a.eval x]).run X.Z.P w = .ok (.tuple #[]) w' → w.grownBy w' (blk (S.σ s) (sv s)) → ownsAt w' (X.base s) r.el 1 (sv s) n xs' →
      (∀ i, i < n → RepL κ S.γ sv (f' i) ((xs'.drop (i * 1)).take 1)) →
      ∃ v w' κ' sv', ((execOp a.eval o).run X.Z.P w = .ok (.value v) w' ∨ ((execOp a.eval o).run X.Z.P w = .ok .skip w' ∧ v = Go.undef)) ∧ Sim X κ' sv' ⟨S.ρ, S.γ, upd S.σ s (.arr r.el 1 n f')⟩ (a.put o.dst v) w' := fun w' xs' hrun hgr ho' e4 => by
    have hlc : ∀ i, i < n → (f' i).length = 1 ∧ allCell (f' i) = true := fun i hi => by
      by_cases h : a0 ≤ i ∧ i < a0 + m
      · rw [h1 i hi h]; exact ⟨rfl, rfl⟩
      · rw [h2 i hi h]; exact ⟨hfl i hi, hfc i hi⟩
    have hW := hs.wld.rewrite s (.arr r.el 1 n f') hgr (by rw [hσ]; exact blk_arr _) ⟨xs', ho', fun i hi => (hlc i hi).1, fun i hi => (hlc i hi).2, e4⟩ S.ρ
    have hS : Sim X κ sv ⟨S.ρ, S.γ, upd S.σ s (.arr r.el 1 n f')⟩ a w' := ⟨hs.size, dfr_own hs s hgr, hs.slot, hW⟩
    rw [hd]
    refine ⟨.tuple #[], w', κ, sv, .inl ?_, hS⟩
    simp [execOp, ho, resolve, invoke, builtin, hrun]
  have hzero : m = 0 → ∀ i, i < n → f' i = f i := fun h0 i hi => h2 i hi (by omega)
  obtain ⟨ad, N, cap, hsv, hv⟩ : ∃ ad N cap, sv s = .slice ad N cap ∧ a.eval x = .slice (if cap = a0 then ad else ad.map (·.add (a0 * 1))) m (cap - a0) := by
    generalize a.eval x = v at hxv
    cases hxv with
    | ow _ _ _ _ _ _ _ hh _ => exact hh hg.symm
  by_cases hm0 : m = 0
  · refine hfin w xs ?_ (below_grown (Below.refl _ _) _) hown (fun i hi => by rw [hzero hm0 i hi]; exact hfr i hi)
    rw [hv, hm0]
    cases (if cap = a0 then ad else ad.map (·.add (a0 * 1))) <;> simp [Builtin.clear_, run_underlying hu]
  rcases hown.2 with ⟨hv0, hn0⟩ | ⟨g', off, cap', cur, hv0, hbase, hheap, hnc, hcm, hsz, htake⟩
  · omega
  rw [hv0] at hsv
  simp only [Value.slice.injEq] at hsv
  obtain ⟨rfl, rfl, rfl⟩ := hsv
  rw [if_neg (by omega)] at hv
  simp only [Option.map_some, Nat.mul_one, addr_add] at hv
  have hrun := run_clear_own (w := w) (T := T) (ty := o.type) (c := cap' - a0) hu hokq hzs hheap (off := off + a0) (m := m) (by omega) (by omega)
  rw [← hv] at hrun
  have hxl := hown.1
  refine hfin _ (xs.take a0 ++ List.replicate m (Value.int kz 0) ++ xs.drop (a0 + m)) hrun (by rw [hσ, hv0]; exact grown_setRow _ _ _) ?_ (fun i hi => ?_)
  · refine ⟨by simp; omega, .inr ⟨g', off, cap', _, hv0, hbase, setRow_heap w g' cur _ _ (0, 0) hheap, hnc, hcm, ?_, ?_⟩⟩
    · simp; omega
    · have := splice_off (cur := cur.toList) (ds := List.replicate m (Value.int kz 0)) (off := off) (p := a0) (N := n * 1) (by simp; omega) (by simp; omega)
      simp only [List.length_replicate] at this
      rw [this, htake]
  · have e0 : (((xs.take a0 ++ List.replicate m (Value.int kz 0) ++ xs.drop (a0 + m)).drop (i * 1)).take 1) = if a0 ≤ i ∧ i < a0 + m then [.int kz 0] else (xs.drop (i * 1)).take 1 := by
      simp only [Nat.mul_one] at hxl ⊢
      have hlen : (xs.take a0 ++ List.replicate m (Value.int kz 0) ++ xs.drop (a0 + m)).length = n := by simp; omega
      have key : ∀ (l : List Value) (hl : l.length = n), (l.drop i).take 1 = [l[i]'(by omega)] := fun l hl => by
        rw [List.drop_eq_getElem_cons (by omega)]; rfl
      rw [key _ hlen, key _ hxl]
      split
      · rename_i h
        rw [List.getElem_append_left (by simp; omega), List.getElem_append_right (by simp; omega)]
        simp
      · rename_i h
        by_cases h3 : i < a0
        · rw [List.getElem_append_left (by simp; omega), List.getElem_append_left (by simp; omega)]
          simp
        · rw [List.getElem_append_right (by simp; omega)]
          simp only [List.length_append, List.length_take, List.length_replicate, List.getElem_drop]
          congr 2
          congr 1
          omega
    rw [e0]
    split
    · rename_i h; rw [h1 i hi h]; exact .cons _ _ _ _ (.int _ _) .nil
    · rename_i h; rw [h2 i hi h]; exact hfr i hi
def PostO (κ : Nat → Nat → Option Value) (w : World) (R : D) (E z n : Nat) (el : Nat → List D) (e : Ending) (w' : World) : Prop := ∃ v sl κ', e = .returned v ∧ Rep κ' (fun _ => 1) (fun _ => sl) (renO 0 1 R) v ∧ (∀ b o u, κ b o = some u → κ' b o = some u) ∧ (∀ b o u, b < w.heap.size → κ' b o = some u → κ b o = some u) ∧
  (∀ b o u, κ' b o = some u → w'.cell? ⟨b, o, none⟩ = some u) ∧ sl.oneCell' = true ∧ Owns w.heap.size κ' (fun _ => 1) (fun _ => sl) w' 0 (.arr E z n el) ∧ (∀ b, blk (.arr E z n el) sl = some b → ∀ o, κ' b o = none) ∧ Below w.heap.size w w'
theorem rep_scal1 {κ κ' : Nat → Nat → Option Value} {γ γ' : Nat → Nat} {sv sv' : Nat → Value} {d : D} {v v0 : Value} (h : scal1 d = some v0) (hr : Rep κ γ sv d v) : Rep κ' γ' sv' d v := by
  cases d <;> simp [scal1] at h
  · cases hr; exact .int _ _
  · cases hr; exact .bool _
  · cases hr; exact .str _
theorem owns_ge' {base : Nat} {κ : Nat → Nat → Option Value} {γ : Nat → Nat} {sv : Nat → Value} {w : World} {s : Nat} {E z m : Nat} {f : Nat → List D} (h : Owns base κ γ sv w s (.arr E z m f)) : ∀ b, blk (.arr E z m f) (sv s) = some b → base ≤ b := fun b hb => by
  obtain ⟨xs, e1, _⟩ := h
  rcases e1.2 with ⟨hv, _⟩ | ⟨g, off, cap, cur, hv, hbase, _⟩
  · rw [hv] at hb; cases hb
  · rw [hv] at hb; simp only [blk, Option.some.injEq] at hb; subst hb; exact hbase
theorem callO_lend {κ : Nat → Nat → Option Value} {sv : Nat → Value} {a : Act} {w : World} (hs : Sim X κ sv S a w) {f : FuncId} {L A : List D} {vs : List Value} {E z n : Nat} {el : Nat → List D} {s1 g1 : Nat} (hc : ContractO X.Z f A (.os s1 g1) E z n el) (hr : RepL κ S.γ sv L vs) (hA : FzL S L A) (hel : ∀ i, i < n → ∀ d ∈ el i, ∃ v0, scal1 d = some v0) :
    Calls X.Z.P f vs.toArray w (PostO κ w (.os s1 g1) E z n el) := by
  let κ1 : Nat → Nat → Option Value := fun b o => w.cell? ⟨b, o, none⟩
  have hle : Le κ κ1 S.γ S.γ sv sv := ⟨fun b o v hk => hs.wld.imm b o v hk, fun _ => Nat.le_refl _, fun _ _ => rfl⟩
  have hr2 := hA.rep hs.wld hle (fun b o v h => h) hr
  refine (hc.calls w κ1 _ (fun b o v h => h) ⟨fun g l hg => ?_, (Sim.globOk hs.wld).2⟩ (hr2.pure (fun _ _ _ h => h) hc.pureA)).mono ?_
  · obtain ⟨h1, u, h2, h3⟩ := (Sim.globOk hs.wld).1 g l hg
    exact ⟨h1, u, h2.mono ⟨fun b o v hk => hs.wld.imm b o v hk, fun _ => Nat.le_refl _, fun _ _ => rfl⟩, fun j v hj => hs.wld.imm _ _ _ (h3 j v hj)⟩
  · rintro e w' ⟨v, sl, κ', rfl, hv, k1, k2, k3, hsl, hown, hsep, hb⟩
    have hlt : ∀ b o u, κ b o = some u → b < w.heap.size := fun b o u hk => by simpa using World.block_lt_of_cell? w _ (hs.wld.imm b o u hk)
    refine ⟨v, sl, κ, rfl, ?_, fun _ _ _ h => h, fun _ _ _ _ h => h, fun b o u hk => (hb.cell (World.block_lt_of_cell? w _ (hs.wld.imm b o u hk))).trans (hs.wld.imm b o u hk), hsl, ?_, fun b hbk o => ?_, hb⟩
    · simp only [renO] at hv ⊢
      cases hv with
      | os _ _ _ h1 h2 h3 => exact .os _ _ _ h1 h2 h3
    · obtain ⟨xs, e1, e2, e3, e4⟩ := hown
      refine ⟨xs, e1, e2, e3, fun i hi => ?_⟩
      have key : ∀ {l : List D} {us : List Value}, (∀ d ∈ l, ∃ v0, scal1 d = some v0) → RepL κ' (fun _ => 1) (fun _ => sl) l us → RepL κ (fun _ => 1) (fun _ => sl) l us := by
        intro l
        induction l with
        | nil => intro us _ h; cases h; exact .nil
        | cons d l ih =>
          intro us hd h
          cases h with
          | cons _ _ _ _ h1 h2 =>
            obtain ⟨v0, hv0⟩ := hd d (List.mem_cons_self ..)
            exact .cons _ _ _ _ (rep_scal1 hv0 h1) (ih (fun x hx => hd x (List.mem_cons_of_mem _ hx)) h2)
      exact key (hel i hi) (e4 i hi)
    · cases hk : κ b o with
      | none => rfl
      | some u =>
        have h1 := hlt b o u hk
        have h2 := owns_ge' hown b hbk
        omega
end
end Go.Ab
namespace Go.Ab
open Go Go.RowKit
set_option linter.all false
theorem wk_mv {X : Ctx} {S : St} {t p q g E z n : Nat} {f : Nat → List D} (hne : p ≠ q) (hρ : S.ρ t = .os p g) (hg : S.γ p = g) (hσ : S.σ p = .arr E z n f) (hp : X.xa p = false) (hq : X.xa q = false) :
    Wk X S ⟨upd S.ρ t (.os q (S.γ q + 1)), upd S.γ q (S.γ q + 1), upd (upd S.σ q (.arr E z n f)) p .none⟩ := fun κ sv a w hs => by
  have hle : Le κ κ S.γ (upd S.γ q (S.γ q + 1)) sv (upd sv q (sv p)) := by
    refine ⟨fun _ _ _ h => h, fun s => ?_, fun s h => ?_⟩
    · by_cases e : s = q
      · subst e; rw [upd_same]; omega
      · rw [upd_ne _ _ _ _ e]; exact Nat.le_refl _
    · by_cases e : s = q
      · subst e; rw [upd_same] at h; omega
      · rw [upd_ne _ _ _ _ e]
  have hb : X.base q = X.base p := by unfold Ctx.base; rw [hp, hq]
  have key : ∀ s b, blk ((upd (upd S.σ q (.arr E z n f)) p .none) s) ((upd sv q (sv p)) s) = some b → ∃ s0, blk (S.σ s0) (sv s0) = some b ∧ (s = q ∧ s0 = p ∨ s ≠ q ∧ s ≠ p ∧ s0 = s) := fun s b h => by
    by_cases e : s = p
    · subst e; rw [upd_same] at h; cases h
    · rw [upd_ne _ _ _ _ e] at h
      by_cases e2 : s = q
      · subst e2; rw [upd_same, upd_same] at h
        exact ⟨p, by rw [hσ]; exact h, .inl ⟨rfl, rfl⟩⟩
      · rw [upd_ne _ _ _ _ e2, upd_ne _ _ _ _ e2] at h
        exact ⟨s, h, .inr ⟨e2, e, rfl⟩⟩
  refine ⟨κ, upd sv q (sv p), hs.size, hs.defers, fun j hj => ?_, ?_⟩
  · by_cases e : j = t
    · subst e
      have := hs.slot j hj
      rw [hρ] at this
      show Rep _ _ _ (upd S.ρ j (.os q (S.γ q + 1)) j) _
      rw [upd_same]
      cases this with
      | os _ _ _ a b c => exact .os _ _ _ (Nat.le_of_eq (upd_same _ _ _).symm) (fun _ => by rw [upd_same]; exact b hg.symm) c
    · show Rep _ _ _ (upd S.ρ t (.os q (S.γ q + 1)) j) _
      rw [upd_ne _ _ _ _ e]
      exact (hs.slot j hj).mono hle
  · obtain ⟨h1, h2, h3, h4, h5, h6, h7, h8, h9, h10, h11, h12, h13, h14, h15⟩ := hs.wld
    refine ⟨h1, fun s => ?_, fun s t b hs1 ht1 => ?_, fun s b o h => ?_, fun s b h => ?_, ?_, fun g l hl => ?_, h8, fun b hb1 => ?_, h10, h11.trans hle, h12, fun s b h => ?_, h14, h15⟩
    · show Owns _ _ _ _ _ _ (upd (upd S.σ q (.arr E z n f)) p .none s)
      by_cases e : s = p
      · subst e; rw [upd_same]; trivial
      · rw [upd_ne _ _ _ _ e]
        by_cases e2 : s = q
        · subst e2
          rw [upd_same, hb]
          have := h2 p
          rw [hσ] at this
          obtain ⟨xs, o1, o2, o3, o4⟩ := this
          exact ⟨xs, by rw [upd_same]; exact o1, o2, o3, fun i hi => (o4 i hi).mono hle⟩
        · rw [upd_ne _ _ _ _ e2]
          have := h2 s
          cases ho : S.σ s with
          | none => trivial
          | box l =>
            rw [ho] at this
            obtain ⟨b, T, cs, o1, o2, o3, o4⟩ := this
            exact ⟨b, T, cs, by rw [upd_ne _ _ _ _ e2]; exact o1, o2, o3.mono hle, o4⟩
          | arr E2 z2 n2 f2 =>
            rw [ho] at this
            obtain ⟨xs, o1, o2, o3, o4⟩ := this
            exact ⟨xs, by rw [upd_ne _ _ _ _ e2]; exact o1, o2, o3, fun i hi => (o4 i hi).mono hle⟩
          | mp l =>
            rw [ho] at this
            obtain ⟨b, es, c, o1, o2, o3⟩ := this
            exact ⟨b, es, c, by rw [upd_ne _ _ _ _ e2]; exact o1, o2, o3⟩
    · obtain ⟨s0, k1, k2⟩ := key s b hs1
      obtain ⟨t0, k3, k4⟩ := key t b ht1
      have e := h3 s0 t0 b k1 k3
      omega
    · obtain ⟨s0, k1, _⟩ := key s b h; exact h4 s0 b o k1
    · obtain ⟨s0, k1, _⟩ := key s b h; exact h5 s0 b k1
    · obtain ⟨M, m1, m2⟩ := h6
      exact ⟨M, m1, fun s b h => by obtain ⟨s0, k1, _⟩ := key s b h; exact m2 s0 b k1⟩
    · obtain ⟨u1, u, u2, u3⟩ := h7 g l hl
      exact ⟨u1, u, u2.mono hle, u3⟩
    · obtain ⟨p1, p2⟩ := h9 b hb1
      by_cases e : 0 = q
      · subst e; show 1 ≤ upd S.γ 0 (S.γ 0 + 1) 0 ∧ (upd S.γ 0 (S.γ 0 + 1) 0 = 1 → _)
        rw [upd_same]; exact ⟨by omega, fun h => by omega⟩
      · show 1 ≤ upd S.γ q (S.γ q + 1) 0 ∧ (upd S.γ q (S.γ q + 1) 0 = 1 → upd sv q (sv p) 0 = _)
        rw [upd_ne _ _ _ _ e, upd_ne _ _ _ _ e]; exact ⟨p1, p2⟩
    · obtain ⟨s0, k1, _⟩ := key s b h; exact h13 s0 b k1
end Go.Ab
namespace Go.Ab
open Go Go.RowKit
set_option linter.all false
def XB : Nat := 900000000
def gM (q : Nat → Nat) : Nat → Nat → Nat
  | 0 => fun _ => 0
  | n + 1 => fun s => bif Nat.beq s (q n) then 1 else gM q n s
theorem gM_lt {q : Nat → Nat} : ∀ {n i : Nat}, i < n → gM q n (q i) = 1
  | n + 1, i, h => by
    simp only [gM]
    cases hb : Nat.beq (q i) (q n) with
    | true => rfl
    | false =>
      have hne : i ≠ n := fun e => by rw [e, Nat.beq_refl] at hb; cases hb
      exact gM_lt (by omega)
def ownF (q : Nat → Nat) (os : Nat → Own) : Nat → Nat → Own
  | 0 => fun _ => .none
  | n + 1 => fun s => bif Nat.beq s (q n) then os n else ownF q os n s
mutual
inductive Rn (n : Nat) (p g p' g' : Nat → Nat) : D → D → Prop
  | pure (d : D) : Pure d → Rn n p g p' g' d d
  | bx (i o : Nat) : i < n → Rn n p g p' g' (.bx (p i) (g i) o) (.bx (p' i) (g' i) o)
  | os (i : Nat) : i < n → Rn n p g p' g' (.os (p i) (g i)) (.os (p' i) (g' i))
  | mb (i : Nat) (T : TypeId) : i < n → Rn n p g p' g' (.mb (p i) (g i) T) (.mb (p' i) (g' i) T)
  | agg (l l' : List D) : RnL n p g p' g' l l' → Rn n p g p' g' (.agg l) (.agg l')
  | fn (f : FuncId) (c c' : List D) : RnL n p g p' g' c c' → Rn n p g p' g' (.fn f c) (.fn f c')
inductive RnL (n : Nat) (p g p' g' : Nat → Nat) : List D → List D → Prop
  | nil : RnL n p g p' g' [] []
  | cons (d d' : D) (l l' : List D) : Rn n p g p' g' d d' → RnL n p g p' g' l l' → RnL n p g p' g' (d :: l) (d' :: l')
end
section
variable {κ κ' : Nat → Nat → Option Value} {γ γ' : Nat → Nat} {sv sv' : Nat → Value} {n : Nat} {p g p' g' : Nat → Nat}
mutual
theorem Rn.rep (hκ : ∀ b o v, κ b o = some v → κ' b o = some v) (h1 : ∀ i, i < n → γ (p i) = g i) (h2 : ∀ i, i < n → γ' (p' i) = g' i) (h3 : ∀ i, i < n → sv (p i) = sv' (p' i)) : ∀ {d d' : D} {v : Value}, Rn n p g p' g' d d' → Rep κ γ sv d v → Rep κ' γ' sv' d' v
  | _, _, _, .pure d hd, hr => hr.pure hκ hd
  | _, _, _, .bx i o hi, hr => by
    cases hr with
    | bx _ _ _ _ a b c =>
      obtain ⟨b1, e1, e2⟩ := b (h1 i hi).symm
      exact .bx _ _ _ _ (Nat.le_of_eq (h2 i hi).symm) (fun _ => ⟨b1, by rw [← h3 i hi]; exact e1, e2⟩) c
  | _, _, _, .os i hi, hr => by
    cases hr with
    | os _ _ _ a b c => exact .os _ _ _ (Nat.le_of_eq (h2 i hi).symm) (fun _ => by rw [← h3 i hi]; exact b (h1 i hi).symm) c
  | _, _, _, .mb i T hi, hr => by
    cases hr with
    | mbn => exact .mbn _ _ _
    | mb _ _ _ _ a b c => exact .mb _ _ _ _ (Nat.le_of_eq (h2 i hi).symm) (fun _ => by rw [← h3 i hi]; exact b (h1 i hi).symm) c
  | _, _, _, .agg l l' hl, hr => by
    cases hr with
    | agg _ vs hv => exact .agg _ _ (RnL.rep hκ h1 h2 h3 hl hv)
  | _, _, _, .fn f c c' hl, hr => by
    cases hr with
    | fn _ _ vs hv => exact .fn _ _ _ (RnL.rep hκ h1 h2 h3 hl hv)
theorem RnL.rep (hκ : ∀ b o v, κ b o = some v → κ' b o = some v) (h1 : ∀ i, i < n → γ (p i) = g i) (h2 : ∀ i, i < n → γ' (p' i) = g' i) (h3 : ∀ i, i < n → sv (p i) = sv' (p' i)) : ∀ {l l' : List D} {vs : List Value}, RnL n p g p' g' l l' → RepL κ γ sv l vs → RepL κ' γ' sv' l' vs
  | _, _, _, .nil, hr => by cases hr; exact .nil
  | _, _, _, .cons d d' l l' a b, hr => by
    cases hr with
    | cons _ _ _ _ r1 r2 => exact .cons _ _ _ _ (Rn.rep hκ h1 h2 h3 a r1) (RnL.rep hκ h1 h2 h3 b r2)
end
end
theorem rn_cell {n : Nat} {p g p' g' : Nat → Nat} {d d' : D} (h : Rn n p g p' g' d d') : d'.isCell = d.isCell := by cases h <;> rfl
theorem rnL_cell {n : Nat} {p g p' g' : Nat → Nat} : ∀ {l l' : List D}, RnL n p g p' g' l l' → allCell l = true → allCell l' = true
  | _, _, .nil, h => h
  | _, _, .cons d d' l l' a b, h => by
    simp only [allCell, Bool.and_eq_true] at h ⊢
    exact ⟨by rw [rn_cell a]; exact h.1, rnL_cell b h.2⟩
theorem rn_mb {n : Nat} {p g p' g' : Nat → Nat} {l l' : List D} (h : RnL n p g p' g' l l') : mbT l' = mbT l := by
  cases h with
  | nil => rfl
  | cons d d' l l' a b => cases a with
    | pure _ hd => cases hd <;> rfl
    | _ => rfl
theorem rnL_okB {n : Nat} {p g p' g' : Nat → Nat} {l l' : List D} {T : TypeId} (h : RnL n p g p' g' l l') (e : OkB l T) : OkB l' T := ⟨rnL_cell h e.1, fun T0 e0 => e.2 T0 ((rn_mb h).symm.trans e0)⟩
inductive OwRn (n : Nat) (p g p' g' : Nat → Nat) : Own → Own → Prop
  | box (l l' : List D) : RnL n p g p' g' l l' → OwRn n p g p' g' (.box l) (.box l')
  | arr (E z m : Nat) (f : Nat → List D) : (∀ i, i < m → PureL (f i)) → OwRn n p g p' g' (.arr E z m f) (.arr E z m f)
  | none : OwRn n p g p' g' .none .none
theorem OwRn.owns {κ κ' : Nat → Nat → Option Value} {γ γ' : Nat → Nat} {sv sv' : Nat → Value} {n : Nat} {p g p' g' : Nat → Nat} {w : World} (hκ : ∀ b o v, κ b o = some v → κ' b o = some v) (h1 : ∀ i, i < n → γ (p i) = g i) (h2 : ∀ i, i < n → γ' (p' i) = g' i) (h3 : ∀ i, i < n → sv (p i) = sv' (p' i)) {s s' : Nat} (hs : sv s = sv' s') {base base' : Nat} {o o' : Own} (hb : ∀ E z m f b, o = .arr E z m f → blk o (sv s) = some b → base' ≤ b) (h : OwRn n p g p' g' o o') (ho : Owns base κ γ sv w s o) : Owns base' κ' γ' sv' w s' o' := by
  cases h with
  | box l l' hl =>
    obtain ⟨b, T, cs, e1, e2, e3, e4⟩ := ho
    exact ⟨b, T, cs, by rw [← hs]; exact e1, e2, hl.rep hκ h1 h2 h3 e3, rnL_okB hl e4⟩
  | arr E z m f hf =>
    obtain ⟨xs, e1, e2, e3, e4⟩ := ho
    refine ⟨xs, ?_, e2, e3, fun i hi => (e4 i hi).pure hκ (hf i hi)⟩
    rw [← hs]
    refine ⟨e1.1, ?_⟩
    rcases e1.2 with hn | ⟨g, off, cap, cur, q1, q2, rest⟩
    · exact .inl hn
    · exact .inr ⟨g, off, cap, cur, q1, hb E z m f g rfl (by rw [q1]; rfl), rest⟩
  | none => trivial
theorem OwRn.blk {n : Nat} {p g p' g' : Nat → Nat} {o o' : Own} (h : OwRn n p g p' g' o o') (v : Value) : Ab.blk o' v = Ab.blk o v := by
  cases h with
  | box => cases v with
    | pointer a => cases a <;> rfl
    | slice a _ _ => cases a <;> rfl
    | map a => cases a <;> rfl
    | _ => rfl
  | arr => rfl
  | none => rfl
theorem owns_ge {base : Nat} {κ : Nat → Nat → Option Value} {γ : Nat → Nat} {sv : Nat → Value} {w : World} {s : Nat} {E z m : Nat} {f : Nat → List D} (h : Owns base κ γ sv w s (.arr E z m f)) : ∀ b, blk (.arr E z m f) (sv s) = some b → base ≤ b := fun b hb => by
  obtain ⟨xs, e1, _⟩ := h
  rcases e1.2 with ⟨hv, _⟩ | ⟨g, off, cap, cur, hv, hbase, _⟩
  · rw [hv] at hb; cases hb
  · rw [hv] at hb; simp only [blk, Option.some.injEq] at hb; subst hb; exact hbase
inductive OwK : Own → Own → Prop
  | box (l l' : List D) : OwK (.box l) (.box l')
  | arr (E z m : Nat) (f : Nat → List D) (E' z' m' : Nat) (f' : Nat → List D) : OwK (.arr E z m f) (.arr E' z' m' f')
  | gone (o : Own) : OwK o .none
theorem OwK.blk {o o' : Own} (h : OwK o o') {v : Value} {b : Nat} (hb : Ab.blk o' v = some b) : Ab.blk o v = some b := by
  cases h with
  | gone => cases hb
  | _ =>
    rw [← hb]
    cases v with
    | pointer a => cases a <;> rfl
    | slice a _ _ => cases a <;> rfl
    | map a => cases a <;> rfl
    | _ => rfl
structure FrameM (n : Nat) (bs : Nat → Option Nat) (w w' : World) : Prop where
  os : w'.os = w.os
  tape : w'.tape = w.tape
  output : w'.output = w.output
  size : w.heap.size ≤ w'.heap.size
  block : ∀ k, k < w.heap.size → (∀ i, i < n → bs i ≠ some k) → w'.heap[k]? = w.heap[k]?
theorem FrameM.refl (n : Nat) (bs : Nat → Option Nat) (w : World) : FrameM n bs w w := ⟨rfl, rfl, rfl, Nat.le_refl _, fun _ _ _ => rfl⟩
def one : Nat → Nat := fun _ => 1
structure ContractM (Z : Seat) (f : FuncId) (n : Nat) (q : Nat → Nat) (os os' : Nat → Own) (A : List D) (R : D) : Prop where
  refR : Rn n q one q one R R
  kind : ∀ i, i < n → OwK (os i) (os' i)
  body : HasBody Z.P f
  calls : ∀ (w : World) (κ : Nat → Nat → Option Value) (sv : Nat → Value) (args : List Value), (∀ i j b, i < n → j < n → blk (os i) (sv (q i)) = some b → blk (os j) (sv (q j)) = some b → i = j) → Fits κ w → (∀ i b, i < n → blk (os i) (sv (q i)) = some b → ∀ o, κ b o = none) → GlobOk Z κ w →
    (∀ i, i < n → Owns 0 κ (gM q n) sv w (q i) (os i)) → RepL κ (gM q n) sv A args →
    Calls Z.P f args.toArray w fun e w' => ∃ v, e = .returned v ∧ Rep (growK κ w w') (gM q n) sv R v ∧ (∀ i, i < n → Owns 0 (growK κ w w') (gM q n) sv w' (q i) (os' i)) ∧ FrameM n (fun i => blk (os i) (sv (q i))) w w'
section
variable {X : Ctx} {Q : Exit → St → Prop} {S : St} {ops : Array Oper} {o : Oper} {rest : List Oper}
end
end Go.Ab
namespace Go.Ab
open Go Go.RowKit
set_option linter.all false
section
variable {X : Ctx} {Q : Exit → St → Prop} {S S' S0 : St} {ops : Array Oper} {o : Oper}
def lastB (M : List Nat) (m : Nat) : Bool := (List.range m).all fun j => ((M[m]?).getD 0).testBit j
def okBL (ops : List Oper) (E : List Ent) : Bool := backB ops && pairsB (masks [] ops) E && Nat.beq ops.length (E.length + 1) && lastB (masks [] ops) E.length
theorem reg_last {E : List Ent} {V : List Vl} (hok : okBL ops.toList E = true) (hs : ∀ k, k < E.length → Snd X Q ops k (stt S0 E V top k) (lcF E k) (wrF E k) (vlF V k))
    (hQ : ∀ κ sv a w, Sim X κ sv (stt S0 E V top E.length) a w → wpOpIn X.F 0 X.Z.P ops (lift X Q) E.length (lift X Q .normal) a w) : Reg X Q ops S0 := by
  simp only [okBL, Bool.and_eq_true] at hok
  obtain ⟨⟨⟨hback, hpairs⟩, hlen⟩, hlast⟩ := hok
  have hlen : ops.size = E.length + 1 := by simpa using Nat.eq_of_beq_eq_true hlen
  have back : ∀ {i : Nat} {o : Oper}, ops[i]? = some o → ∀ j ∈ dirB o, j < i := by
    intro i o ho j hj
    have h1 := List.all_eq_true.1 hback (o, i) (List.mk_mem_zipIdx_iff_getElem?.2 (by simpa using ho))
    have h2 := List.all_eq_true.1 h1 j hj
    simpa [Nat.blt_eq] using h2
  have ent : ∀ {i : Nat}, i < E.length → ∃ a, E[i]? = some a := fun h => ⟨_, List.getElem?_eq_getElem h⟩
  have bits : ∀ {L : Nat → Bool}, Closed ops.toList L → ∀ (i : Nat) (o : Oper) (b : Nat), ops[i]? = some o → (((masks [] ops.toList)[i]?).getD 0).testBit b = true → (∀ j ∈ dirB o, L j = true) → L b = true := fun hc i o b ho =>
    masks_bit hc ops.toList [] [] (by simp) rfl (by simp) i o b (by simpa using ho)
  have main : ∀ n (L : Array Bool) (a : Act) (w : World) κ sv, L.size = ops.size → L.toList.count false ≤ n → Closed ops.toList (fun i => L.getD i false) → L.getD E.length false = false →
      Sim X κ sv (stt S0 E V (fun i => L.getD i false) E.length) a w → wpAnyIn X.F 0 X.Z.P .any ops (lift X Q) n L a w := by
    intro n
    have done : ∀ n (L : Array Bool) (a : Act) (w : World), L.size = ops.size → (∀ i, i < ops.size → L.getD i false = true) → lift X Q .normal a w → wpAnyIn X.F 0 X.Z.P .any ops (lift X Q) n L a w := by
      intro n L a w hsz hall hl
      have hno : ∀ i, i ∉ Region.ready .any ops L := by
        intro i hi
        obtain ⟨h1, o, h2, _⟩ := mem_ready.1 hi
        have h3 : i < ops.size := (Array.getElem?_eq_some_iff.1 h2).1
        have := hall i h3
        have h4 : i < L.size := by omega
        simp [Array.getD, h4] at h1 this
        rw [this] at h1; cases h1
      cases n with
      | zero => exact ⟨List.eq_nil_iff_forall_not_mem.2 hno, hl⟩
      | succ n => exact ⟨fun _ => hl, fun i hi => absurd hi (hno i)⟩
    have rdy : ∀ (L : Array Bool), L.size = ops.size → Region.ready .any ops L = [] → ∀ i, i < ops.size → L.getD i false = true := by
      intro L hsz hr i
      induction i using Nat.strongRecOn with
      | ind i ih =>
        intro hi
        cases hL : L.getD i false with
        | true => rfl
        | false =>
          exfalso
          have : i ∈ Region.ready .any ops L := by
            refine mem_ready.2 ⟨?_, ops[i], Array.getElem?_eq_getElem hi, fun e he hb => ?_⟩
            · have h1 : i < L.size := by omega
              simp [Array.getD, h1] at hL ⊢; exact hL
            · have hj : e.on ∈ dirB ops[i] := List.mem_map.2 ⟨e, List.mem_filter.2 ⟨by simpa using he, hb⟩, rfl⟩
              have := back (Array.getElem?_eq_getElem hi) _ hj
              exact ih _ this (by omega)
          rw [hr] at this; cases this
    induction n with
    | zero =>
      intro L a w κ sv hsz hcnt hcl hm hsim
      exfalso
      have h0 : L.toList.count false = 0 := by omega
      have h2 := List.count_eq_zero.1 h0
      have h1 : E.length < L.size := by omega
      apply h2
      simp [Array.getD, h1] at hm
      rw [← hm]; exact List.getElem_mem (by simpa using h1)
    | succ n ih =>
      intro L a w κ sv hsz hcnt hcl hm hsim
      refine ⟨fun h0 => (by have := rdy L hsz h0 E.length (by omega); rw [hm] at this; cases this), fun i hi => ?_⟩
      obtain ⟨h1, o, h2, h3⟩ := mem_ready.1 hi
      have hio : i < ops.size := (Array.getElem?_eq_some_iff.1 h2).1
      have hiL : i < L.size := by omega
      have hLi : L.getD i false = false := by simp [Array.getD, hiL] at h1 ⊢; exact h1
      have hdir : ∀ j ∈ dirB o, L.getD j false = true := by
        intro j hj
        obtain ⟨e, he, rfl⟩ := List.mem_map.1 hj
        obtain ⟨he1, he2⟩ := List.mem_filter.1 he
        exact h3 e (by simpa using he1) he2
      by_cases him : i = E.length
      · subst him
        have hall : ∀ j, j < E.length → L.getD j false = true := fun j hj => by
          have hb : (((masks [] ops.toList)[E.length]?).getD 0).testBit j = true := List.all_eq_true.1 hlast j (List.mem_range.2 hj)
          exact bits hcl E.length o j h2 hb hdir
        have hst : stt S0 E V (fun i => L.getD i false) E.length = stt S0 E V top E.length := by
          unfold stt
          rw [val_congr (L' := top) _ fun j hj => hall j hj, val_congr (L' := top) _ fun j hj => hall j hj, val_congr (L' := top) _ fun j hj => hall j hj]
        rw [hst] at hsim
        refine wpOpIn_mono ?_ (hQ κ sv a w hsim)
        intro a' w' hl
        refine done n (L.setIfInBounds E.length true) a' w' (by simp [hsz]) (fun k hk => ?_) hl
        simp only [Array.getD_eq_getD_getElem?]
        rw [Array.getElem?_setIfInBounds]
        by_cases e : E.length = k
        · subst e; simp [hiL]
        · rw [if_neg e]
          have := hall k (by omega)
          simpa [Array.getD_eq_getD_getElem?] using this
      have hilt : i < E.length := by omega
      obtain ⟨ei, hei⟩ := ent (i := i) hilt
      -- what number i reads is as in the text's order
      have order : ∀ j, j < E.length → j ≠ i → ∀ ej, E[j]? = some ej → clash ei ej = true → (L.getD j false = true ↔ j < i) := by
        intro j hj hne ej hej hc
        have hp := pairs_spec hpairs hei hej (Ne.symm hne) (by rw [hc]; rfl)
        constructor
        · intro hLj
          refine Nat.lt_of_le_of_ne (Nat.le_of_not_lt fun hlt => ?_) hne
          rw [if_neg (by omega)] at hp
          obtain ⟨oj, hoj⟩ : ∃ oj, ops[j]? = some oj := ⟨_, Array.getElem?_eq_getElem (by omega)⟩
          have := bits hcl j oj i hoj hp (hcl j oj (by simpa using hoj) hLj)
          rw [hLi] at this; cases this
        · intro hlt
          rw [if_pos hlt] at hp
          exact bits hcl i o j h2 hp hdir
      have agree : Agree (lcF E i) (stt S0 E V top i) (stt S0 E V (fun i => L.getD i false) E.length) := by
        rw [lcF_of hei]
        have hmin : min E.length i = i := by omega
        have key : ∀ (j t : Nat), j < E.length → ((t ∈ ei.1.rr ∧ (wrF E j).t = some t) ∨ (t ∈ ei.1.rg ∧ (wrF E j).g = some t) ∨ (t ∈ ei.1.ro ∧ (wrF E j).o = some t)) → (L.getD j false = true ↔ j < i) := by
          intro j t hj hc
          by_cases e : j = i
          · subst e; rw [hLi]; simp
          · obtain ⟨ej, hej⟩ := ent hj
            rw [wrF_of hej] at hc
            exact order j hj e ej hej (clash_of hc)
        refine ⟨fun t ht => ?_, fun t ht => ?_, fun t ht => ?_⟩
        · have := val_at (w := fun j => (wrF E j).t) (v := fun j => (vlF V j).d) (L := fun i => L.getD i false) (f0 := S0.ρ) (i := i) (l := t) E.length (fun j hj hw => key j t hj (.inl ⟨ht, hw⟩))
          rw [hmin] at this; exact this
        · have := val_at (w := fun j => (wrF E j).g) (v := fun j => (vlF V j).g) (L := fun i => L.getD i false) (f0 := S0.γ) (i := i) (l := t) E.length (fun j hj hw => key j t hj (.inr (.inl ⟨ht, hw⟩)))
          rw [hmin] at this; exact this
        · have := val_at (w := fun j => (wrF E j).o) (v := fun j => (vlF V j).o) (L := fun i => L.getD i false) (f0 := S0.σ) (i := i) (l := t) E.length (fun j hj hw => key j t hj (.inr (.inr ⟨ht, hw⟩)))
          rw [hmin] at this; exact this
      refine wpOpIn_mono ?_ (hs i hilt _ agree κ sv a w hsim)
      rintro a' w' ⟨κ', sv', hsim'⟩
      have hLset : (fun k => (L.setIfInBounds i true).getD k false) = fun k => bif Nat.beq k i then true else L.getD k false := by
        funext k
        by_cases e : k = i
        · subst e; rw [Nat.beq_refl]; simp [Array.getD, hiL]
        · have : Nat.beq k i = false := by
            cases hb : Nat.beq k i
            · rfl
            · exact absurd (Nat.eq_of_beq_eq_true hb) e
          rw [this]
          simp only [Array.getD_eq_getD_getElem?, cond_false]
          rw [Array.getElem?_setIfInBounds, if_neg (fun h => e h.symm)]
      refine ih (L.setIfInBounds i true) a' w' κ' sv' (by simp [hsz]) ?_ ?_ (by refine (congrFun hLset E.length).trans ?_; have hb : Nat.beq E.length i = false := (by cases hb : Nat.beq E.length i with | false => rfl | true => exact absurd (Nat.eq_of_beq_eq_true hb).symm him); rw [hb]; exact hm) ?_
      · rw [Array.toList_setIfInBounds]
        have hget : L.toList[i]'(by simpa using hiL) = false := by simp [Array.getD, hiL] at hLi; simpa using hLi
        have hmem : false ∈ L.toList := hget ▸ List.getElem_mem (by simpa using hiL)
        have hpos := List.count_pos_iff.2 hmem
        rw [List.count_set (by simpa using hiL), hget, if_pos (show (false == false) = true from rfl), if_neg (by decide)]
        omega
      · intro j oj hoj hLj d hd
        have hcong : ∀ k, (L.setIfInBounds i true).getD k false = bif Nat.beq k i then true else L.getD k false := fun k => congrFun hLset k
        simp only [hcong] at hLj ⊢
        by_cases e : d = i
        · subst e; rw [Nat.beq_refl]; rfl
        · have hb : Nat.beq d i = false := by
            cases hb : Nat.beq d i
            · rfl
            · exact absurd (Nat.eq_of_beq_eq_true hb) e
          rw [hb]
          show L.getD d false = true
          by_cases e2 : j = i
          · subst e2
            have : ops[j]? = some oj := by simpa using hoj
            rw [h2] at this
            cases this
            exact hdir d hd
          · have hb2 : Nat.beq j i = false := by
              cases hb : Nat.beq j i
              · rfl
              · exact absurd (Nat.eq_of_beq_eq_true hb) e2
            rw [hb2] at hLj
            exact hcl j oj hoj hLj d hd
      · rw [hLset]
        have hww : ∀ j, i < j → j < E.length → L.getD j false = true → ∀ ej, E[j]? = some ej → clashW ei ej = false := by
          intro j hij hj hLj ej hej
          cases hc : clashW ei ej with
          | false => rfl
          | true =>
            exfalso
            have hp := pairs_spec hpairs hei hej (by omega) (by rw [hc]; simp)
            rw [if_neg (by omega)] at hp
            obtain ⟨oj, hoj⟩ : ∃ oj, ops[j]? = some oj := ⟨_, Array.getElem?_eq_getElem (by omega)⟩
            have := bits hcl j oj i hoj hp (hcl j oj (by simpa using hoj) hLj)
            rw [hLi] at this; cases this
        have kw : ∀ (f : Wr → Option Nat) j, i < j → j < E.length → L.getD j false = true → (∀ a b : Ent, f a.2 = f b.2 → f a.2 ≠ none → clashW a b = true) → f (wrF E i) ≠ f (wrF E j) ∨ f (wrF E i) = none := by
          intro f j h1 h2 h3 h4
          obtain ⟨ej, hej⟩ := ent h2
          have := hww j h1 h2 h3 ej hej
          rw [wrF_of hei, wrF_of hej]
          by_cases e : f ei.2 = none
          · exact .inr e
          · refine .inl fun e2 => ?_
            rw [h4 ei ej e2 e] at this; cases this
        have : stt S0 E V (fun k => bif Nat.beq k i then true else L.getD k false) E.length = (stt S0 E V (fun i => L.getD i false) E.length).app (wrF E i) (vlF V i) := by
          unfold stt St.app
          simp only
          rw [val_add (L := fun i => L.getD i false) hLi E.length (by omega) fun j a b c => kw Wr.t j a b c fun a b h1 h2 => clashW_of (.inl ⟨h1, h2⟩),
            val_add (L := fun i => L.getD i false) hLi E.length (by omega) fun j a b c => kw Wr.g j a b c fun a b h1 h2 => clashW_of (.inr (.inl ⟨h1, h2⟩)),
            val_add (L := fun i => L.getD i false) hLi E.length (by omega) fun j a b c => kw Wr.o j a b c fun a b h1 h2 => clashW_of (.inr (.inr ⟨h1, h2⟩))]
        rw [this]; exact hsim'
  intro κ sv a w hsim
  refine main ops.size (Array.replicate ops.size false) a w κ sv (by simp) (by simp) ?_ (by simp [Array.getD]) ?_
  · intro i o ho hL
    exfalso
    by_cases h : i < ops.size <;> simp [Array.getD, h] at hL
  · have : stt S0 E V (fun i => (Array.replicate ops.size false).getD i false) E.length = S0 := by
      have e : (fun i => (Array.replicate ops.size false).getD i false) = fun _ => false := by
        funext i
        by_cases h : i < ops.size <;> simp [Array.getD, h]
      rw [e]
      have k : ∀ {α : Type} (w : Nat → Option Nat) (v : Nat → α) (f0 : Nat → α) n, val w v (fun _ => false) f0 n = f0 := by
        intro α w v f0 n
        induction n with
        | zero => rfl
        | succ n ih => simp only [val, ih]; rfl
      unfold stt
      rw [k, k, k]
    rw [this]; exact hsim
theorem WG_last {E : List Ent} {V : List Vl} (hok : okBL ops.toList E = true) (hg : o.guard = none) (hk : WL X ops [o] Q S) : WG X Q ops S0 E V [o] S := by
  rintro ⟨pre, hp1, hp2⟩ hl hsnd hst
  have hoi : ops[E.length]? = some o := by rw [hp1, ← hp2]; simp
  refine reg_last hok hsnd fun κ sv a w hs => ?_
  rw [hst] at hs
  have h := hk κ sv a w hs
  unfold wpListIn at h
  unfold wpOpIn
  rw [hoi]
  simp only
  have hw : Region.wanted o (yielded ops a.tmps) = true := by unfold Region.wanted; rw [hg]
  rw [if_pos hw] at h ⊢
  exact Oper.wpIn_mono (fun a' w' h2 => by unfold wpListIn at h2; exact h2) h
end
end Go.Ab
namespace Go.Ab
open Go Go.RowKit
set_option linter.all false
def mFind : List (Int × Int) → Int → Option Int
  | [], _ => none
  | p :: l, n => bif decide (p.1 = n) then some p.2 else mFind l n
def mSet : List (Int × Int) → Int → Int → List (Int × Int)
  | [], n, v => [(n, v)]
  | p :: l, n, v => bif decide (p.1 = n) then (n, v) :: l else p :: mSet l n v
def mGet (l : List (Int × Int)) (n : Int) : Int := (mFind l n).getD 0
def mHas (l : List (Int × Int)) (n : Int) : Bool := (mFind l n).isSome
def mIdx : List (Int × Int) → Int → Nat
  | [], _ => 0
  | p :: l, n => bif decide (p.1 = n) then 0 else mIdx l n + 1
abbrev kvP (p : Int × Int) : Value × Value := (Value.int .i64 p.1, Value.int .i64 p.2)
theorem findNow_is : ∀ {es : List MapEntry} {l : List (Int × Int)}, es.map (fun e => (e.key, e.val)) = l.map kvP → ∀ (n : Int) (i : Nat),
    Instr.findNow (.int .i64) (.int .i64 n) es i = some (match mFind l n with | some v => some (i + mIdx l n, .int .i64 v) | none => none)
  | [], [], _, n, i => rfl
  | [], _ :: _, h, n, i => by cases h
  | _ :: _, [], h, n, i => by cases h
  | e :: es, p :: l, h, n, i => by
    simp only [List.map_cons, List.cons.injEq, Prod.mk.injEq] at h
    obtain ⟨⟨h1, h2⟩, h3⟩ := h
    have ih := findNow_is h3 n (i + 1)
    simp only [Instr.findNow, h1, h2, Instr.sameNow, mFind, mIdx]
    by_cases hp : p.1 = n
    · simp [hp]
    · have : (n == p.1) = false := by simpa using fun e => hp e.symm
      simp only [this, hp, decide_false, cond_false, if_true]
      rw [ih]
      cases mFind l n with
      | none => rfl
      | some v => simp; omega
theorem mIdx_at : ∀ {es : List MapEntry} {l : List (Int × Int)}, es.map (fun e => (e.key, e.val)) = l.map kvP → ∀ {n v : Int}, mFind l n = some v → ∃ e, es[mIdx l n]? = some e ∧ e.key = .int .i64 n
  | [], [], _, n, v, h => by cases h
  | [], _ :: _, h, n, v, _ => by cases h
  | _ :: _, [], h, n, v, _ => by cases h
  | e :: es, p :: l, h, n, v, hf => by
    simp only [List.map_cons, List.cons.injEq, Prod.mk.injEq] at h
    obtain ⟨⟨h1, h2⟩, h3⟩ := h
    simp only [mFind, mIdx] at hf ⊢
    by_cases hp : p.1 = n
    · simp only [hp, decide_true, cond_true]
      exact ⟨e, by simp, by rw [h1, hp]⟩
    · simp only [hp, decide_false, cond_false] at hf ⊢
      obtain ⟨e', q1, q2⟩ := mIdx_at h3 hf
      exact ⟨e', by simpa using q1, q2⟩
theorem mSet_mod : ∀ {es : List MapEntry} {l : List (Int × Int)}, es.map (fun e => (e.key, e.val)) = l.map kvP → ∀ {n v : Int} (x : Int), mFind l n = some v →
    (es.modify (mIdx l n) fun e => { e with key := .int .i64 n, val := .int .i64 x }).map (fun e => (e.key, e.val)) = (mSet l n x).map kvP
  | [], [], _, n, v, x, h => by cases h
  | [], _ :: _, h, n, v, x, _ => by cases h
  | _ :: _, [], h, n, v, x, _ => by cases h
  | e :: es, p :: l, h, n, v, x, hf => by
    have h' := h
    simp only [List.map_cons, List.cons.injEq, Prod.mk.injEq] at h
    obtain ⟨⟨h1, h2⟩, h3⟩ := h
    simp only [mFind, mIdx, mSet] at hf ⊢
    by_cases hp : p.1 = n
    · simp only [hp, decide_true, cond_true, List.modify_zero_cons, List.map_cons]
      rw [h3]
    · simp only [hp, decide_false, cond_false, List.modify_succ_cons, List.map_cons] at hf ⊢
      rw [mSet_mod h3 x hf, h1, h2]
theorem mSet_push : ∀ {es : List MapEntry} {l : List (Int × Int)}, es.map (fun e => (e.key, e.val)) = l.map kvP → ∀ {n x : Int} (b : Nat), mFind l n = none →
    (es ++ [({ key := .int .i64 n, val := .int .i64 x, born := b } : MapEntry)]).map (fun e : MapEntry => (e.key, e.val)) = (mSet l n x).map kvP
  | [], [], _, n, x, b, _ => rfl
  | [], _ :: _, h, n, x, b, _ => by cases h
  | _ :: _, [], h, n, x, b, _ => by cases h
  | e :: es, p :: l, h, n, x, b, hf => by
    simp only [List.map_cons, List.cons.injEq, Prod.mk.injEq] at h
    obtain ⟨⟨h1, h2⟩, h3⟩ := h
    simp only [mFind, mSet] at hf ⊢
    by_cases hp : p.1 = n
    · simp only [hp, decide_true, cond_true] at hf; cases hf
    · simp only [hp, decide_false, cond_false, List.cons_append, List.map_cons] at hf ⊢
      rw [mSet_push h3 b hf, h1, h2]
structure MapTy (P : Program) (t : TypeId) : Prop where
  ty : ∃ k e i, P.underlying t = some (.map k e) ∧ P.underlying k = some (.int .i64) ∧ P.info? e = some i ∧ i.zero = some (.int .i64 0)
section
variable {P : Program} {w : World} {t : TypeId} {b : Nat} {es : Array MapEntry} {c : Nat} {l : List (Int × Int)}
theorem run_lookupI (ht : MapTy P t) (hb : w.heap[b]? = some (.map es c)) (hm : mapIs es l) (n : Int) : (Instr.lookup t (.map (some b)) (.int .i64 n) true).run P w = .ok (.tuple #[.int .i64 (mGet l n), .bool (mHas l n)]) w := by
  obtain ⟨k, e, i, h1, h2, h3, h4⟩ := ht
  have hk : MapKept.IsKey (.int .i64) (.int .i64 n) := rfl
  have hf := findNow_is (es := es.toList) (l := l) hm n 0
  cases hq : mFind l n with
  | none =>
    rw [hq] at hf
    simp [Instr.lookup, run_underlying h1, MapKept.run_getObj_map hb, MapKept.run_checkKey h2 hk, MapKept.run_findKey h2 hf, Result.andThen, zeroValue, typeInfo, h3, h4, mGet, mHas, hq]
  | some v =>
    rw [hq] at hf
    simp [Instr.lookup, run_underlying h1, MapKept.run_getObj_map hb, MapKept.run_checkKey h2 hk, MapKept.run_findKey h2 hf, Result.andThen, mGet, mHas, hq]
theorem run_updateI (ht : MapTy P t) (hb : w.heap[b]? = some (.map es c)) (hm : mapIs es l) (n x : Int) : ∃ es' c', (Instr.mapUpdate t (.map (some b)) (.int .i64 n) (.int .i64 x)).run P w = .ok () { w with heap := w.heap.setIfInBounds b (.map es' c') } ∧ mapIs es' (mSet l n x) := by
  obtain ⟨k, e, i, h1, h2, h3, h4⟩ := ht
  have hk : MapKept.IsKey (.int .i64) (.int .i64 n) := rfl
  have hf := findNow_is (es := es.toList) (l := l) hm n 0
  cases hq : mFind l n with
  | none =>
    rw [hq] at hf
    refine ⟨es.push { key := .int .i64 n, val := .int .i64 x, born := c }, c + 1, ?_, ?_⟩
    · simp [Instr.mapUpdate, run_underlying h1, MapKept.run_getObj_map hb, MapKept.run_checkKey h2 hk, MapKept.run_findKey h2 hf, Result.andThen, MapKept.run_setObj_map _ hb]
    · have := mSet_push (es := es.toList) (l := l) hm (x := x) c hq
      unfold mapIs
      rw [Array.toList_push]; exact this
  | some v =>
    rw [hq] at hf
    obtain ⟨e0, q1, q2⟩ := mIdx_at (es := es.toList) (l := l) hm hq
    have hj : es[mIdx l n]? = some e0 := by simpa using q1
    refine ⟨es.modify (mIdx l n) fun e => { e with key := .int .i64 n, val := .int .i64 x }, c, ?_, ?_⟩
    · simp [Instr.mapUpdate, run_underlying h1, MapKept.run_getObj_map hb, MapKept.run_checkKey h2 hk, MapKept.run_findKey h2 hf, hj, q2, MapKept.run_keyThatStays hk, Result.andThen, MapKept.run_setObj_map _ hb]
    · have := mSet_mod (es := es.toList) (l := l) hm x hq
      unfold mapIs
      rw [Array.toList_modify]; exact this
end
section
variable {X : Ctx} {S : St} {o : Oper}
theorem map_own {κ : Nat → Nat → Option Value} {sv : Nat → Value} {a : Act} {w : World} (hs : Sim X κ sv S a w) {x : Operand} {s g : Nat} {l : List (Int × Int)} (hx : S.ev X x = .os s g) (hγ : S.γ s = g) (hσ : S.σ s = .mp l) :
    ∃ b es c, a.eval x = .map (some b) ∧ sv s = .map (some b) ∧ w.heap[b]? = some (.map es c) ∧ mapIs es l := by
  have h1 := hs.ev x
  rw [hx] at h1
  have h2 := hs.wld.own s
  rw [hσ] at h2
  obtain ⟨b, es, c, e1, e2, e3⟩ := h2
  generalize a.eval x = v at h1
  cases h1 with
  | os _ _ _ _ hh _ => exact ⟨b, es, c, by rw [hh hγ.symm, e1], e1, e2, e3⟩
theorem q_lookup {T : TypeId} {x y : Operand} {s g : Nat} {l : List (Int × Int)} {n : Int} (ht : MapTy X.Z.P T) (ho : o.op = .lookup T x y true) (hx : S.ev X x = .os s g) (hγ : S.γ s = g) (hσ : S.σ s = .mp l) (hy : S.ev X y = .int .i64 n) :
    QOp X o S (.tup [.int .i64 (mGet l n), .bool (mHas l n)]) := fun κ sv a w hs => by
  obtain ⟨b, es, c, h1, h2, h3, h4⟩ := map_own hs hx hγ hσ
  have hyv := hs.ev y
  rw [hy] at hyv
  generalize hye : a.eval y = v at hyv
  cases hyv
  refine ⟨_, .tup _ _ (.cons _ _ _ _ (.int _ _) (.cons _ _ _ _ (.bool _) .nil)), fun w' hb => ?_⟩
  have hb' : w'.heap[b]? = some (.map es c) := by rw [hb.block b (Array.getElem?_eq_some_iff.1 h3).1]; exact h3
  simp [execOp, ho, h1, hye, run_lookupI ht hb' h4]
theorem n_mapUpdate {T : TypeId} {x y z : Operand} {s g : Nat} {l : List (Int × Int)} {n v : Int} (ht : MapTy X.Z.P T) (ho : o.op = .mapUpdate T x y z ∨ o.op = .insert T x y z) (hd : o.dst = none) (hx : S.ev X x = .os s g) (hγ : S.γ s = g) (hσ : S.σ s = .mp l) (hy : S.ev X y = .int .i64 n) (hz : S.ev X z = .int .i64 v) :
    NOp X o S ⟨S.ρ, S.γ, upd S.σ s (.mp (mSet l n v))⟩ := fun κ sv a w hs => by
  obtain ⟨b, es, c, h1, h2, h3, h4⟩ := map_own hs hx hγ hσ
  have hyv := hs.ev y
  rw [hy] at hyv
  generalize hye : a.eval y = yv at hyv
  cases hyv
  have hzv := hs.ev z
  rw [hz] at hzv
  generalize hze : a.eval z = zv at hzv
  cases hzv
  obtain ⟨es', c', r1, r2⟩ := run_updateI ht h3 h4 n v
  have hgr : w.grownBy { w with heap := w.heap.setIfInBounds b (.map es' c') } (some b) := by
    refine ⟨rfl, rfl, rfl, by simp, fun k hk hne => ?_⟩
    have : k ≠ b := fun e => hne (by rw [e])
    exact (MapKept.heap_set h3).2 k this
  have hblk : blk (S.σ s) (sv s) = some b := by rw [hσ, h2]; rfl
  rw [hd]
  refine ⟨Go.undef, _, κ, sv, .inr ⟨?_, rfl⟩, ⟨hs.size, dfr_own hs s (by rw [hblk]; exact hgr), hs.slot, ?_⟩⟩
  · rcases ho with ho | ho <;> simp [execOp, ho, h1, hye, hze, r1, Result.andThen]
  · refine hs.wld.rewrite s (.mp _) (by rw [hblk]; exact hgr) (by rw [hσ, h2]; rfl) ⟨b, es', c', h2, (MapKept.heap_set h3).1, r2⟩ _
theorem run_eqnil {P : Program} {w : World} {T e : TypeId} (hu : P.underlying T = some (.slice e)) (a : Option Addr) (n c : Nat) : (binOp .eql T (.slice a n c) (.slice none 0 0)).run P w = .ok (.bool a.isNone) w := by
  have h : (Op.equal T (.slice a n c) (.slice none 0 0)).run P w = .ok a.isNone w := by
    unfold Op.equal
    have : Op.maxDepth = 9999 + 1 := rfl
    rw [this]
    unfold Op.equalIn
    simp only [Sem.run_bind, run_underlying hu, Result.andThen_ok]
    cases a <;> rfl
  have h2 : binOp .eql T (.slice a n c) (.slice none 0 0) = (do pure (.bool (← Op.equal T (.slice a n c) (.slice none 0 0)))) := rfl
  rw [h2]
  simp [h]
theorem WL_eqnil {Q : Exit → St → Prop} {ops : Array Oper} {rest : List Oper} {T T2 : TypeId} {x y : Operand} {t : Nat} {z n : Nat} {f : Nat → List D} {r : TRow} (hg : o.guard = none) (ho : o.op = .binOp .eql T x y T2) (hd : o.dst = some t) (hr : nth X.Z.tab T = some r) (hk : Nat.beq r.k 3 = true) (hx : S.ev X x = .sl z n f) (hy : S.ev X y = .nil)
    (ht : n = 0 → WL X ops rest Q (S.set t (.bool true))) (hf : WL X ops rest Q (S.set t (.bool false))) : WL X ops (o :: rest) Q S := fun κ sv a w hs => by
  have hu := slice_row (X.Z.tabOk _ _ hr (by intro e; rw [e] at hk; cases hk)) hk
  have h1 := hs.ev x
  rw [hx] at h1
  have h2 := hs.ev y
  rw [hy] at h2
  generalize hxe : a.eval x = xv at h1
  generalize hye : a.eval y = yv at h2
  cases h2
  cases h1 with
  | sl _ _ _ b off cap u q1 q2 q3 q4 q5 =>
    refine wpListIn_plain hg fun K hK => op_val (v := .bool false) (w' := w) ?_ ?_
    · simp [execOp, ho, hxe, hye, eqGuard, run_eqnil hu]
    · rw [hd]; exact hK _ _ (hf κ sv _ _ (hs.put (some t) (.bool _)))
  | sl0 =>
    refine wpListIn_plain hg fun K hK => op_val (v := .bool true) (w' := w) ?_ ?_
    · simp [execOp, ho, hxe, hye, eqGuard, run_eqnil hu]
    · rw [hd]; exact hK _ _ (ht rfl κ sv _ _ (hs.put (some t) (.bool _)))
  | slE _ _ ad cap =>
    refine wpListIn_plain hg fun K hK => op_val (v := .bool false) (w' := w) ?_ ?_
    · simp [execOp, ho, hxe, hye, eqGuard, run_eqnil hu]
    · rw [hd]; exact hK _ _ (hf κ sv _ _ (hs.put (some t) (.bool _)))
theorem n_makeMap {T : TypeId} {t : Nat} (ho : o.op = .makeMap T none) (hd : o.dst = some t) : NOp X o S ⟨upd S.ρ t (.os t (S.γ t + 1)), upd S.γ t (S.γ t + 1), upd S.σ t (.mp [])⟩ := fun κ sv a w hs => by
  have hle := le_renew κ S.γ sv t (.map (some w.heap.size))
  rw [hd]
  refine ⟨.map (some w.heap.size), w.alloc (.map #[] 0), κ, upd sv t (.map (some w.heap.size)), .inl ?_, ?_⟩
  · simp [execOp, ho, run_makeMap]
  · refine ⟨by rw [put_size]; exact hs.size, (dfr_own hs t (World.grownBy_alloc w _ _)).put _ _, ?_, ?_⟩
    · exact hs.slotsR hle (some t) (.os _ _ _ (by rw [upd_same]; exact Nat.le_refl _) (fun _ => (upd_same _ _ _).symm) rfl)
    · refine hs.wld.renew t (.mp []) _ (World.grownBy_alloc w _ _) (fun b hb => ?_) ⟨w.heap.size, #[], 0, upd_same _ _ _, (MapKept.heap_alloc w _).1, rfl⟩ _
      simp only [blk, Option.some.injEq] at hb
      exact .inl (by omega)
end
section
variable {F : Fence} {n : Nat} {P : Program} {Q : Exit → Act → World → Prop} {a : Act} {w : World} {b : Go.Frame} {k : List Item} {cs : List Go.Frame}
theorem stepR_scope {c : Code} : step P (lone (b.atR a (.code (.scope c) :: k)) cs w) = .next (lone (b.atR a (.code c :: .inScope c :: k)) cs w) :=
  step_lone_go (by simp [stepG, stepG.exec, Frame.atR])
theorem stepR_inScope {c : Code} : step P (lone (b.atR a (.inScope c :: k)) cs w) = .next (lone (b.atR a k) cs w) :=
  step_lone_go (by simp [stepG, stepG.exec, Frame.atR])
theorem wpIn_scope {c : Code} (h : c.wpIn F n P (Exit.noGoto Q) a w) : (Code.scope c).wpIn F n P Q a w := by
  intro b k cs hro hb hr
  have h0 : (lone (b.atR a (.code (.scope c) :: k)) cs w).fenced P F := fenced_calm hb hr rfl
  obtain ⟨e, a₁, w₁, hq, harr⟩ := h b (.inScope c :: k) cs hro hb hr
  cases e with
  | normal => exact ⟨.normal, a₁, w₁, hq, .head h0 stepR_scope (StepsIn.trans harr (.one (fenced_calm hb hr rfl) stepR_inScope))⟩
  | exit id =>
    have hx : exitTo id (.inScope c :: k) = exitTo id k := by simp [exitTo]
    exact ⟨.exit id, a₁, w₁, hq, fun k' hk => .head h0 stepR_scope (harr.1 k' (by rw [hx]; exact hk)),
      fun hr' hk => let ⟨k₁, h1, h2⟩ := harr.2 hr' (by rw [hx]; exact hk); ⟨k₁, h1, .head h0 stepR_scope h2⟩⟩
  | goto l => exact hq.elim
  | ret => exact ⟨_, a₁, w₁, hq, .of_steps (.one h0 stepR_scope) harr⟩
  | panic ch => exact ⟨_, a₁, w₁, hq, .of_steps (.one h0 stepR_scope) harr⟩
  | outgrown => exact ⟨_, a₁, w₁, hq, .of_steps (.one h0 stepR_scope) harr⟩
end
theorem W_scope {X : Ctx} {Q : Exit → St → Prop} {S : St} {c : Code} (h : W X c (fun e T => match e with | .goto _ => False | e => Q e T) S) : W X (.scope c) Q S := fun κ sv a w hs => by
  refine wpIn_scope (wpIn_mono (h κ sv a w hs) ?_)
  rintro e a' w' ⟨κ', sv', S', h1, h2⟩
  cases e <;> first | exact h2.elim | exact ⟨κ', sv', S', h1, h2⟩
theorem W_label {X : Ctx} {Q : Exit → St → Prop} {S : St} {l : Nat} (h : Q .normal S) : W X (.label l) Q S := fun κ sv _ _ hs => wpIn_label ⟨κ, sv, S, hs, h⟩
end Go.Ab
namespace Go.Ab
open Go Go.RowKit
set_option linter.all false
mutual
def renM (f : Nat → Nat × Nat) : D → D
  | .os s _ => .os (f s).1 (f s).2
  | .agg l => .agg (renLM f l)
  | d => d
def renLM (f : Nat → Nat × Nat) : List D → List D
  | [] => []
  | d :: l => renM f d :: renLM f l
end
mutual
inductive POk (k : Nat) : D → Prop
  | pure (d : D) : Pure d → POk k d
  | os (s g : Nat) : s < k → POk k (.os s g)
  | agg (l : List D) : POkL k l → POk k (.agg l)
inductive POkL (k : Nat) : List D → Prop
  | nil : POkL k []
  | cons (d : D) (l : List D) : POk k d → POkL k l → POkL k (d :: l)
end
section
variable {κ κ' : Nat → Nat → Option Value} {γ γ' : Nat → Nat} {sv sv' : Nat → Value} {k : Nat} {f f' : Nat → Nat × Nat}
theorem pokl_of : ∀ {l : List D}, (∀ d ∈ l, Pure d) → POkL k l
  | [], _ => .nil
  | d :: l, h => .cons d l (.pure d (h d (List.mem_cons_self ..))) (pokl_of fun x hx => h x (List.mem_cons_of_mem _ hx))
mutual
theorem rep_renM (hκ : ∀ b o v, κ b o = some v → κ' b o = some v) (hg : ∀ i, i < k → γ (f i).1 = (f i).2) (hg' : ∀ i, i < k → γ' (f' i).1 = (f' i).2) (hv : ∀ i, i < k → sv' (f' i).1 = sv (f i).1) : ∀ {d : D} {v : Value}, POk k d → Rep κ γ sv (renM f d) v → Rep κ' γ' sv' (renM f' d) v
  | .os s0 g0, v, hp, hr => by
    have hs : s0 < k := by
      cases hp with
      | pure _ hp => cases hp
      | os _ _ h => exact h
    simp only [renM] at hr ⊢
    cases hr with
    | os _ _ _ h1 h2 h3 => exact .os _ _ _ (Nat.le_of_eq (hg' s0 hs).symm) (fun _ => by rw [hv s0 hs]; exact h2 (hg s0 hs).symm) h3
  | .agg l, v, hp, hr => by
    simp only [renM] at hr ⊢
    cases hr with
    | agg _ vs hl => exact .agg _ _ (repL_renM hκ hg hg' hv (by
        cases hp with
        | pure _ hp => exact pokl_of (by cases hp; assumption)
        | agg _ hp => exact hp) hl)
  | .int k n, v, hp, hr => by cases hr; exact .int _ _
  | .bool b, v, hp, hr => by cases hr; exact .bool _
  | .str s, v, hp, hr => by cases hr; exact .str _
  | .tup l, v, hp, hr => by cases hp with | pure _ hp => exact Rep.pure hκ hr hp
  | .sl z n f, v, hp, hr => by cases hp with | pure _ hp => exact Rep.pure hκ hr hp
  | .nil, v, hp, hr => by cases hr; exact .nil
  | .rp l o, v, hp, hr => by cases hp with | pure _ hp => exact Rep.pure hκ hr hp
  | .bx s g o, v, hp, hr => by cases hp with | pure _ hp => cases hp
  | .mb s g T, v, hp, hr => by cases hp with | pure _ hp => cases hp
  | .op s g z i o, v, hp, hr => by cases hp with | pure _ hp => cases hp
  | .ow s g z a m, v, hp, hr => by cases hp with | pure _ hp => cases hp
  | .fn f c, v, hp, hr => by cases hp with | pure _ hp => exact Rep.pure hκ hr hp
  | .yl l, v, hp, hr => by cases hr; exact .yl _
  | .mf f c, v, hp, hr => by cases hp with | pure _ hp => exact Rep.pure hκ hr hp
  | .one, v, _, hr => by cases hr; exact .one _ (by assumption)
  | .lk c, v, _, hr => by cases hr; exact .lk _ _ (by assumption)
  | .undef, v, _, _ => .undef v
theorem repL_renM (hκ : ∀ b o v, κ b o = some v → κ' b o = some v) (hg : ∀ i, i < k → γ (f i).1 = (f i).2) (hg' : ∀ i, i < k → γ' (f' i).1 = (f' i).2) (hv : ∀ i, i < k → sv' (f' i).1 = sv (f i).1) : ∀ {l : List D} {vs : List Value}, POkL k l → RepL κ γ sv (renLM f l) vs → RepL κ' γ' sv' (renLM f' l) vs
  | [], vs, _, hr => by simp only [renLM] at hr ⊢; cases hr; exact .nil
  | d :: l, vs, hp, hr => by
    simp only [renLM] at hr ⊢
    cases hr with
    | cons _ v _ vs h1 h2 =>
      cases hp with
      | cons _ _ p1 p2 => exact .cons _ _ _ _ (rep_renM hκ hg hg' hv p1 h1) (repL_renM hκ hg hg' hv p2 h2)
end
end
structure OwA where
  E : Nat
  z : Nat
  n : Nat
  el : Nat → List D
def OwA.own (q : OwA) : Own := .arr q.E q.z q.n q.el
structure OwnsM (base : Nat) (κ : Nat → Nat → Option Value) (sl : Nat → Value) (w : World) (k : Nat) (os : Nat → OwA) : Prop where
  own : ∀ i, i < k → Owns base κ (fun _ => 1) sl w i (os i).own
  sep : ∀ i, i < k → ∀ b, blk (os i).own (sl i) = some b → ∀ o, κ b o = none
  inj : ∀ i j b, i < k → j < k → blk (os i).own (sl i) = some b → blk (os j).own (sl j) = some b → i = j
structure ContractOM (Z : Seat) (f : FuncId) (A : List D) (R : D) (k : Nat) (os : Nat → OwA) : Prop where
  pureA : PureL A
  poR : POk k R
  pureE : ∀ j, j < k → ∀ i, i < (os j).n → PureL ((os j).el i)
  body : HasBody Z.P f
  calls : ∀ (w : World) (κ : Nat → Nat → Option Value) (args : List Value), Fits κ w → GlobOk Z κ w → RepL κ γ0 sv0 A args →
    Calls Z.P f args.toArray w fun e w' => ∃ v sl κ', e = .returned v ∧ Rep κ' (fun _ => 1) sl (renM (fun i => (i, 1)) R) v ∧ (∀ b o u, κ b o = some u → κ' b o = some u) ∧ (∀ b o u, b < w.heap.size → κ' b o = some u → κ b o = some u) ∧
      (∀ b o u, κ' b o = some u → w'.cell? ⟨b, o, none⟩ = some u) ∧ OwnsM w.heap.size κ' sl w' k os ∧ Below w.heap.size w w'
def mrg {α : Type} (p : Nat → Bool) (f g : Nat → α) : Nat → α := fun s => bif p s then f s else g s
theorem mrg_t {α : Type} {p : Nat → Bool} {f g : Nat → α} {s : Nat} (h : p s = true) : mrg p f g s = f s := by unfold mrg; rw [h]; rfl
theorem mrg_f {α : Type} {p : Nat → Bool} {f g : Nat → α} {s : Nat} (h : p s = false) : mrg p f g s = g s := by unfold mrg; rw [h]; rfl
section
variable {X : Ctx} {κ κ' : Nat → Nat → Option Value} {sv : Nat → Value} {S : St} {w w' : World}
theorem le_mrg (k1 : ∀ b o u, κ b o = some u → κ' b o = some u) (p : Nat → Bool) (sl : Nat → Value) : Le κ κ' S.γ (mrg p (fun s => S.γ s + 1) S.γ) sv (mrg p sl sv) := by
  refine ⟨k1, fun s => ?_, fun s e => ?_⟩
  · cases h : p s with
    | true => rw [mrg_t h]; omega
    | false => rw [mrg_f h]; exact Nat.le_refl _
  · cases h : p s with
    | true => rw [mrg_t h] at e; omega
    | false => rw [mrg_f h]
theorem SimW.adoptM (h : SimW X κ sv S w) {row : Option Nat} (hg : w.grownBy w' row) (hrow : ∀ b, row = some b → ∃ s, blk (S.σ s) (sv s) = some b) (k1 : ∀ b o u, κ b o = some u → κ' b o = some u) (k2 : ∀ b o u, b < w.heap.size → κ' b o = some u → κ b o = some u) (k3 : ∀ b o u, κ' b o = some u → w'.cell? ⟨b, o, none⟩ = some u)
    (p : Nat → Bool) (σ0 ow : Nat → Own) (sl : Nat → Value) (hnew : ∀ s, p s = true → ∀ b, blk (ow s) (sl s) = some b → w.heap.size ≤ b ∧ b < w'.heap.size ∧ ∀ o, κ' b o = none) (hinj : ∀ s t b, p s = true → p t = true → blk (ow s) (sl s) = some b → blk (ow t) (sl t) = some b → s = t)
    (ho : ∀ s, p s = true → Owns (X.base s) κ' (mrg p (fun s => S.γ s + 1) S.γ) (mrg p sl sv) w' s (ow s)) (hold : ∀ s, p s = false → blk (σ0 s) (sv s) = blk (S.σ s) (sv s) ∧ Owns (X.base s) κ' (mrg p (fun s => S.γ s + 1) S.γ) (mrg p sl sv) w' s (σ0 s)) (ρ' : Nat → D) :
    SimW X κ' (mrg p sl sv) ⟨ρ', mrg p (fun s => S.γ s + 1) S.γ, mrg p ow σ0⟩ w' := by
  have hle : Le κ κ' S.γ (mrg p (fun s => S.γ s + 1) S.γ) sv (mrg p sl sv) := le_mrg k1 p sl
  have hbk : ∀ t b, blk (mrg p ow σ0 t) (mrg p sl sv t) = some b → (p t = true ∧ blk (ow t) (sl t) = some b) ∨ (p t = false ∧ blk (S.σ t) (sv t) = some b) := by
    intro t b hb
    cases hp : p t with
    | true => rw [mrg_t hp, mrg_t hp] at hb; exact .inl ⟨rfl, hb⟩
    | false => rw [mrg_f hp, mrg_f hp, (hold t hp).1] at hb; exact .inr ⟨rfl, hb⟩
  have h0 := h
  obtain ⟨h1, h2, h3, h4, h5, _, h7, h8, h9, h10, h11, h12, h13, h14, h15⟩ := h
  refine ⟨k3, fun t => ?_, fun t u b ht hu => ?_, fun t b o ht => ?_, fun t b ht => ?_, frame_step h0 hg hrow (fun t b ht => ?_), fun g l hgl => ?_, fun b o v hlt hk => h8 b o v hlt (k2 b o v (Nat.lt_of_lt_of_le hlt h10) hk), fun b hb' => ?_, Nat.le_trans h10 hg.size, h11.trans hle, fun b o v hk hT => ?_, fun t b ht hT => ?_, fun b hT => Nat.lt_of_lt_of_le (h14 b hT) hg.size, h15⟩
  · cases hp : p t with
    | true => simp only [mrg_t (f := ow) (g := σ0) hp]; exact ho t hp
    | false => simp only [mrg_f (f := ow) (g := σ0) hp]; exact (hold t hp).2
  · simp only at ht hu
    rcases hbk t b ht with ⟨e1, a1⟩ | ⟨e1, a1⟩ <;> rcases hbk u b hu with ⟨e2, a2⟩ | ⟨e2, a2⟩
    · exact hinj t u b e1 e2 a1 a2
    · have := owns_lt (h2 u) a2; have := (hnew t e1 b a1).1; omega
    · have := owns_lt (h2 t) a1; have := (hnew u e2 b a2).1; omega
    · exact h3 t u b a1 a2
  · simp only at ht
    rcases hbk t b ht with ⟨e1, a1⟩ | ⟨e1, a1⟩
    · exact (hnew t e1 b a1).2.2 o
    · cases hk : κ' b o with
      | none => rfl
      | some v => have h20 := k2 b o v (owns_lt (h2 t) a1) hk; rw [h4 t b o a1] at h20; cases h20
  · simp only at ht
    rcases hbk t b ht with ⟨e1, a1⟩ | ⟨e1, a1⟩
    · exact .inl (Nat.le_trans h10 (hnew t e1 b a1).1)
    · exact h5 t b a1
  · rcases hbk t b ht with ⟨e1, a1⟩ | ⟨e1, a1⟩
    · exact .inl (hnew t e1 b a1).1
    · exact .inr ⟨t, a1⟩
  · obtain ⟨hc, u, hu, hk⟩ := h7 g l hgl
    exact ⟨hc, u, hu.mono hle, fun j v hj => k1 _ _ _ (hk j v hj)⟩
  · obtain ⟨e1, e2⟩ := h9 b hb'
    cases hp : p 0 with
    | true => simp only [mrg_t (f := fun s => S.γ s + 1) (g := S.γ) hp]; exact ⟨by omega, fun e => by omega⟩
    | false => simp only [mrg_f (f := fun s => S.γ s + 1) (g := S.γ) hp, mrg_f (f := sl) (g := sv) hp]; exact ⟨e1, e2⟩
  · by_cases e : b < w.heap.size
    · exact h12 b o v (k2 b o v e hk) hT
    · have := h14 b hT; omega
  · simp only at ht
    rcases hbk t b ht with ⟨e1, a1⟩ | ⟨e1, a1⟩
    · have := h14 b hT; have := (hnew t e1 b a1).1; omega
    · exact h13 t b a1 hT
end
def idxP : List Nat → Nat → Nat
  | [], _ => 0
  | p :: l, s => bif Nat.beq s p then 0 else idxP l s + 1
def inP : List Nat → Nat → Bool
  | [], _ => false
  | p :: l, s => Nat.beq s p || inP l s
def atP : List Nat → Nat → Nat
  | [], _ => 0
  | p :: _, 0 => p
  | _ :: l, n + 1 => atP l n
def difP : List Nat → Bool
  | [] => true
  | p :: l => !(inP l p) && difP l
theorem idx_in : ∀ {l : List Nat} {s : Nat}, inP l s = true → idxP l s < l.length ∧ atP l (idxP l s) = s
  | [], s, h => by cases h
  | p :: l, s, h => by
    unfold idxP
    cases hb : Nat.beq s p with
    | true => exact ⟨by simp, (Nat.eq_of_beq_eq_true hb).symm⟩
    | false =>
      simp only [inP, hb, Bool.false_or] at h
      obtain ⟨h1, h2⟩ := idx_in h
      exact ⟨by simpa using h1, h2⟩
theorem at_in : ∀ {l : List Nat} {i : Nat}, i < l.length → inP l (atP l i) = true
  | [], i, h => by simp at h
  | p :: l, 0, _ => by simp [inP, atP, Nat.beq_refl]
  | p :: l, i + 1, h => by simp only [inP, atP, at_in (show i < l.length by simpa using h), Bool.or_true]
theorem idx_at : ∀ {l : List Nat} {i : Nat}, difP l = true → i < l.length → idxP l (atP l i) = i
  | [], i, _, h => by simp at h
  | p :: l, 0, _, _ => by simp [idxP, atP, Nat.beq_refl]
  | p :: l, i + 1, hd, h => by
    simp only [difP, Bool.and_eq_true, Bool.not_eq_true'] at hd
    have hi : i < l.length := by simpa using h
    have hne : Nat.beq (atP l i) p = false := by
      cases hb : Nat.beq (atP l i) p with
      | false => rfl
      | true =>
        have := at_in hi
        rw [Nat.eq_of_beq_eq_true hb, hd.1] at this; cases this
    simp only [idxP, atP, hne, cond_false, idx_at hd.2 hi]
section
variable {X : Ctx} {Q : Exit → St → Prop} {S : St} {ops : Array Oper} {o : Oper} {rest : List Oper}
theorem WL_callOM (ps : List Nat) (hps : difP ps = true) {f : FuncId} {xs : Array Operand} {ts : Array TypeId} {A : List D} {R : D} {os : Nat → OwA} (hg : o.guard = none) (ho : o.op = .call { callee := .value (.func f), args := xs, argTypes := ts }) (hc : ContractOM X.Z f A R ps.length os) (hA : xs.toList.map (S.ev X) = A)
    {t : Nat} (hd : o.dst = some t) {R' : D} (hR : renM (fun i => (atP ps i, S.γ (atP ps i) + 1)) R = R')
    (hk : WL X ops rest Q ⟨upd S.ρ t R', mrg (inP ps) (fun s => S.γ s + 1) S.γ, mrg (inP ps) (fun s => (os (idxP ps s)).own) S.σ⟩) : WL X ops (o :: rest) Q S := fun κ sv a w hs => by
  subst hR
  have hr := evs_rep hs xs.toList
  rw [hA] at hr
  refine wpListIn_plain hg fun K hK => op_call (run_call hc.body ho) (hc.calls w κ _ (Sim.fits hs.wld) (Sim.globOk hs.wld) (hr.pure (fun _ _ _ h => h) hc.pureA)) ?_
  rintro e w' ⟨v, sl, κ', rfl, hv, k1, k2, k3, hown, hb⟩
  refine ⟨v, rfl, ?_⟩
  rw [hd]
  have hle : Le κ κ' S.γ (mrg (inP ps) (fun s => S.γ s + 1) S.γ) sv (mrg (inP ps) (fun s => sl (idxP ps s)) sv) := le_mrg k1 _ _
  have hW := hs.wld.adoptM (below_grown hb none) (fun b e => by cases e) k1 k2 k3 (inP ps) S.σ (fun s => (os (idxP ps s)).own) (fun s => sl (idxP ps s)) (fun s hp b hbk => by
    obtain ⟨i1, i2⟩ := idx_in hp
    obtain ⟨xs, e1, _⟩ := hown.own _ i1
    rcases e1.2 with ⟨hv, _⟩ | ⟨b', off, cap, cur, hv, hbase, hh, _⟩
    · rw [hv] at hbk; cases hbk
    · have hsep := hown.sep _ i1 b hbk
      rw [hv] at hbk; simp only [OwA.own, blk, Option.some.injEq] at hbk; subst hbk
      exact ⟨hbase, (Array.getElem?_eq_some_iff.1 hh).1, hsep⟩) (fun s t b hp hq h1 h2 => by
    obtain ⟨i1, i2⟩ := idx_in hp
    obtain ⟨j1, j2⟩ := idx_in hq
    have := hown.inj _ _ b i1 j1 h1 h2
    rw [← i2, ← j2, this]) (fun s hp => by
    obtain ⟨i1, i2⟩ := idx_in hp
    obtain ⟨xs, e1, e2, e3, e4⟩ := hown.own _ i1
    exact ⟨xs, by rw [mrg_t (f := fun s => sl (idxP ps s)) hp]; exact owns_base e1 (hs.wld.baseS _), e2, e3, fun i hi => (e4 i hi).pure (fun _ _ _ h => h) (hc.pureE _ i1 i hi)⟩) (fun s hp => ⟨rfl, owns_mono hle (by rw [mrg_f hp]) (fun b hb' => hb.block b (owns_lt (hs.wld.own s) hb')) (hs.wld.own s)⟩) S.ρ
  have hs' : Sim X κ' (mrg (inP ps) (fun s => sl (idxP ps s)) sv) ⟨S.ρ, mrg (inP ps) (fun s => S.γ s + 1) S.γ, mrg (inP ps) (fun s => (os (idxP ps s)).own) S.σ⟩ a w' := ⟨hs.size, hs.defers.later hb, fun i hi => (hs.slot i hi).mono hle, hW⟩
  exact hK _ _ (hk κ' _ _ w' (hs'.put (some t) (rep_renM (k := ps.length) (f := fun i => (i, 1)) (f' := fun i => (atP ps i, S.γ (atP ps i) + 1)) (fun _ _ _ h => h) (fun _ _ => rfl) (fun i hi => mrg_t (f := fun s => S.γ s + 1) (g := S.γ) (at_in hi)) (fun i hi => (mrg_t (f := fun s => sl (idxP ps s)) (g := sv) (at_in hi)).trans (by rw [idx_at hps hi])) hc.poR hv)))
end
end Go.Ab
namespace Go.Ab
open Go Go.RowKit
set_option linter.all false
abbrev FB : Nat := 50000000
noncomputable def mkF (rs : List (Nat × D)) (os : List (Nat × Own)) (h : Nat → Nat) (bg : Nat → Own) : St := ⟨look .undef rs, h, fun s => bif Nat.ble FB s then bg s else look .none os s⟩
section
variable {X : Ctx} {Q : Exit → St → Prop} {S : St}
def MatchF (S : St) (rs : List (Nat × D)) (os : List (Nat × Own)) (bg : Nat → Own) : Prop := AllE S.ρ rs ∧ AllE S.σ os ∧ ∀ s, FB ≤ s → bg s = .none ∨ bg s = S.σ s
theorem wk_mkF {rs : List (Nat × D)} {os : List (Nat × Own)} {bg : Nat → Own} (h : MatchF S rs os bg) : Wk X S (mkF rs os S.γ bg) :=
  wk_gen (look_ok h.1) (fun _ => Nat.le_refl _) (fun s => by
    show (bif Nat.ble FB s then bg s else look .none os s) = .none ∨ (bif Nat.ble FB s then bg s else look .none os s) = S.σ s
    cases hb : Nat.ble FB s with
    | true => exact h.2.2 s (Nat.le_of_ble_eq_true hb)
    | false => exact look_ok h.2.1 s)
theorem W_loopF {c : Code} {α : Type} (rs : α → (Nat → Nat) → List (Nat × D)) (os : α → (Nat → Nat) → List (Nat × Own)) (bg : α → (Nat → Nat) → Nat → Own) (inv : α → Prop) (μ : α → Nat) (x0 : α) (h0 : inv x0) (hs : MatchF S (rs x0 S.γ) (os x0 S.γ) (bg x0 S.γ))
    (round : ∀ x h, inv x → W X c (thenQ (fun S' => ∃ x' S'', inv x' ∧ μ x' < μ x ∧ Wk X S' S'' ∧ MatchF S'' (rs x' S''.γ) (os x' S''.γ) (bg x' S''.γ)) Q) (mkF (rs x h) (os x h) h (bg x h))) : W X (.loop c) Q S := by
  refine W_loop (α := α × (Nat → Nat)) (fun x => mkF (rs x.1 x.2) (os x.1 x.2) x.2 (bg x.1 x.2)) (fun x => inv x.1) (fun x => μ x.1) (x0, S.γ) h0 (wk_mkF hs) (fun x hi => ?_)
  refine W_mono (round x.1 x.2 hi) (fun e S' hq => ?_)
  cases e with
  | normal =>
    obtain ⟨x', S'', h1, h2, h3, h4⟩ := hq
    exact ⟨(x', S''.γ), h1, h2, h3.trans (wk_mkF h4)⟩
  | _ => exact hq
theorem wk_mv_elem (t i j q : Nat) {s g E z n E2 z2 n2 : Nat} {f f2 f2' : Nat → List D} {l0 l' : List D} (hσt : S.σ t = .arr E2 z2 n2 f2) (hts : t ≠ s) (htq : t ≠ q) (hsq : s ≠ q) (hi : i < n2) (h0 : f2 i = l0) (hl : nth l0 j = some (.os s g)) (hg : S.γ s = g) (hσ : S.σ s = .arr E z n f)
    (hl' : overN l0 j [.os q (S.γ q + 1)] = some l') (hf : ∀ k, k < n2 → f2' k = if k = i then l' else f2 k) (hp : X.xa s = false := by rfl) (hq : X.xa q = false := by rfl) :
    Wk X S ⟨S.ρ, upd S.γ q (S.γ q + 1), upd (upd (upd S.σ q (.arr E z n f)) s .none) t (.arr E2 z2 n2 f2')⟩ := fun κ sv a w hs => by
  subst h0
  obtain ⟨hl'e, hlen⟩ := overN_eq hl'
  have hle : Le κ κ S.γ (upd S.γ q (S.γ q + 1)) sv (upd sv q (sv s)) := by
    refine ⟨fun _ _ _ h => h, fun u => ?_, fun u h => ?_⟩
    · by_cases e : u = q
      · subst e; rw [upd_same]; omega
      · rw [upd_ne _ _ _ _ e]; exact Nat.le_refl _
    · by_cases e : u = q
      · subst e; rw [upd_same] at h; omega
      · rw [upd_ne _ _ _ _ e]
  have hb : X.base q = X.base s := by unfold Ctx.base; rw [hp, hq]
  have key : ∀ u b, blk ((upd (upd (upd S.σ q (.arr E z n f)) s .none) t (.arr E2 z2 n2 f2')) u) ((upd sv q (sv s)) u) = some b → ∃ s0, blk (S.σ s0) (sv s0) = some b ∧ (u = q ∧ s0 = s ∨ u ≠ q ∧ u ≠ s ∧ s0 = u) := fun u b h => by
    by_cases et : u = t
    · subst et
      rw [upd_same, upd_ne _ _ _ _ htq] at h
      refine ⟨u, ?_, .inr ⟨htq, hts, rfl⟩⟩
      rw [hσt]
      cases hv : sv u with
      | pointer a => rw [hv] at h; cases a <;> exact h
      | slice a _ _ => rw [hv] at h; cases a <;> exact h
      | map a => rw [hv] at h; cases a <;> exact h
      | _ => rw [hv] at h; exact h
    · rw [upd_ne _ _ _ _ et] at h
      by_cases e : u = s
      · subst e; rw [upd_same] at h; cases h
      · rw [upd_ne _ _ _ _ e] at h
        by_cases e2 : u = q
        · subst e2; rw [upd_same, upd_same] at h
          exact ⟨s, by rw [hσ]; exact h, .inl ⟨rfl, rfl⟩⟩
        · rw [upd_ne _ _ _ _ e2, upd_ne _ _ _ _ e2] at h
          exact ⟨u, h, .inr ⟨e2, e, rfl⟩⟩
  refine ⟨κ, upd sv q (sv s), hs.size, hs.defers, fun k hk => (hs.slot k hk).mono hle, ?_⟩
  obtain ⟨h1, h2, h3, h4, h5, h6, h7, h8, h9, h10, h11, h12, h13, h14, h15⟩ := hs.wld
  refine ⟨h1, fun u => ?_, fun u v b hs1 ht1 => ?_, fun u b o h => ?_, fun u b h => ?_, ?_, fun g l hl => ?_, h8, fun b hb1 => ?_, h10, h11.trans hle, h12, fun u b h => ?_, h14, h15⟩
  · show Owns _ _ _ _ _ _ (upd (upd (upd S.σ q (.arr E z n f)) s .none) t (.arr E2 z2 n2 f2') u)
    by_cases et : u = t
    · subst et
      rw [upd_same]
      have hown := h2 u
      rw [hσt] at hown
      obtain ⟨xs, e1, e2, e3, e4⟩ := hown
      refine ⟨xs, by rw [upd_ne _ _ _ _ htq]; exact e1, fun k hk => ?_, fun k hk => ?_, fun k hk => ?_⟩
      · rw [hf k hk]
        split
        · rename_i h; subst h; rw [hl'e]; have := e2 k hk; simp at hlen ⊢; omega
        · exact e2 k hk
      · rw [hf k hk]
        split
        · rename_i h; subst h; rw [hl'e]; exact allCell_append (allCell_append (allCell_take (e3 k hk) _) rfl) (allCell_drop (e3 k hk) _)
        · exact e3 k hk
      · rw [hf k hk]
        split
        · rename_i h
          subst h
          rw [hl'e]
          have e4' := e4 k hk
          rw [nth_eq] at hl
          obtain ⟨vj, hvj, hrj⟩ := e4'.get hl
          have e3' := e4'.mono hle
          generalize (xs.drop (k * z2)).take z2 = cs at e3' hvj
          have hjl : j < cs.length := (List.getElem?_eq_some_iff.1 hvj).1
          have hcs : cs = cs.take j ++ [vj] ++ cs.drop (j + 1) := by
            have h3 : cs[j] = vj := by simpa [List.getElem?_eq_getElem hjl] using hvj
            rw [← h3, List.append_assoc, List.singleton_append, List.getElem_cons_drop, List.take_append_drop]
          rw [hcs]
          refine ((e3'.take j).append (.cons _ _ _ _ ?_ .nil)).append (e3'.drop _)
          cases hrj with
          | os _ _ _ _ hh ho => exact .os _ _ _ (Nat.le_of_eq (upd_same _ _ _).symm) (fun _ => by rw [upd_same]; exact hh hg.symm) ho
        · exact (e4 k hk).mono hle
    · rw [upd_ne _ _ _ _ et]
      by_cases e : u = s
      · subst e; rw [upd_same]; trivial
      · rw [upd_ne _ _ _ _ e]
        by_cases e2 : u = q
        · subst e2
          rw [upd_same, hb]
          have := h2 s
          rw [hσ] at this
          obtain ⟨xs, o1, o2, o3, o4⟩ := this
          exact ⟨xs, by rw [upd_same]; exact o1, o2, o3, fun i hi => (o4 i hi).mono hle⟩
        · rw [upd_ne _ _ _ _ e2]
          exact owns_mono hle (by rw [upd_ne _ _ _ _ e2]) (fun _ _ => rfl) (h2 u)
  · obtain ⟨s0, k1, k2⟩ := key u b hs1
    obtain ⟨t0, k3, k4⟩ := key v b ht1
    have e := h3 s0 t0 b k1 k3
    omega
  · obtain ⟨s0, k1, _⟩ := key u b h; exact h4 s0 b o k1
  · obtain ⟨s0, k1, _⟩ := key u b h; exact h5 s0 b k1
  · obtain ⟨M, m1, m2⟩ := h6
    exact ⟨M, m1, fun u b h => by obtain ⟨s0, k1, _⟩ := key u b h; exact m2 s0 b k1⟩
  · obtain ⟨u1, u, u2, u3⟩ := h7 g l hl
    exact ⟨u1, u, u2.mono hle, u3⟩
  · obtain ⟨p1, p2⟩ := h9 b hb1
    by_cases e : 0 = q
    · subst e; show 1 ≤ upd S.γ 0 (S.γ 0 + 1) 0 ∧ (upd S.γ 0 (S.γ 0 + 1) 0 = 1 → _)
      rw [upd_same]; exact ⟨by omega, fun h => by omega⟩
    · show 1 ≤ upd S.γ q (S.γ q + 1) 0 ∧ (upd S.γ q (S.γ q + 1) 0 = 1 → upd sv q (sv s) 0 = _)
      rw [upd_ne _ _ _ _ e, upd_ne _ _ _ _ e]; exact ⟨p1, p2⟩
  · obtain ⟨s0, k1, _⟩ := key u b h; exact h13 s0 b k1
theorem wk_freeze_fam (t j : Nat) {E z E2 z2 n2 : Nat} {n : Nat → Nat} {el : Nat → Nat → List D} {f2 f2' : Nat → List D} (ht : t < FB) (hσt : S.σ t = .arr E2 z2 n2 f2) (hj : ∀ i, i < n2 → nth (f2 i) j = some (.os (FB + i) (S.γ (FB + i)))) (hσ : ∀ i, i < n2 → S.σ (FB + i) = .arr E z (n i) (el i))
    (hl' : ∀ i, i < n2 → overN (f2 i) j [.sl z (n i) (el i)] = some (f2' i)) (hxa : ∀ s, X.xa s = false) : ∀ m, m ≤ n2 →
    ∃ S', Wk X S S' ∧ S'.ρ = S.ρ ∧ S'.γ = S.γ ∧ (∃ f', S'.σ t = .arr E2 z2 n2 f' ∧ ∀ i, i < n2 → f' i = if i < m then f2' i else f2 i) ∧ (∀ s, s ≠ t → s < FB → S'.σ s = S.σ s) ∧ ∀ i, i < n2 → m ≤ i → S'.σ (FB + i) = S.σ (FB + i)
  | 0, _ => ⟨S, Wk.refl _ _, rfl, rfl, ⟨f2, hσt, fun i _ => by rw [if_neg (by omega)]⟩, fun _ _ _ => rfl, fun _ _ _ => rfl⟩
  | m + 1, hm => by
    obtain ⟨S1, w1, r1, g1, ⟨f1, t1, e1⟩, o1, k1⟩ := wk_freeze_fam t j ht hσt hj hσ hl' hxa m (by omega)
    have hm' : m < n2 := by omega
    have hne : t ≠ FB + m := by omega
    have hf1 : f1 m = f2 m := by rw [e1 m hm', if_neg (by omega)]
    have hw := wk_freeze_elem (X := X) (S := S1) t m j (s := FB + m) (g := S.γ (FB + m)) (E := E) (z := z) (n := n m) (f := el m) (f2' := fun i => if i < m + 1 then f2' i else f2 i) t1 (by
        cases hb : Nat.beq t (FB + m) with
        | false => rfl
        | true => exact absurd (Nat.eq_of_beq_eq_true hb) hne) hm' hf1 (hj m hm') (by rw [g1]) (by rw [k1 m hm' (Nat.le_refl _)]; exact hσ m hm') (hl' m hm') (fun i hi => by
        by_cases h : i = m
        · subst h; simp
        · rw [if_neg h, e1 i hi]
          by_cases h2 : i < m
          · rw [if_pos h2, if_pos (by omega)]
          · rw [if_neg h2, if_neg (by omega)]) (hxa _)
    refine ⟨_, w1.trans hw, r1, g1, ⟨_, upd_same _ _ _, fun _ _ => rfl⟩, fun s h1 h2 => ?_, fun i hi h2 => ?_⟩
    · show upd (upd S1.σ (FB + m) .none) t _ s = _
      rw [upd_ne _ _ _ _ h1, upd_ne _ _ _ _ (by omega)]
      exact o1 s h1 h2
    · show upd (upd S1.σ (FB + m) .none) t _ (FB + i) = _
      rw [upd_ne _ _ _ _ (by omega), upd_ne _ _ _ _ (by omega)]
      exact k1 i hi (by omega)
end
def canF (i : Nat) : Nat × Nat := (i, 1)
def OwA.ownF (q : OwA) (f : Nat → Nat × Nat) : Own := .arr q.E q.z q.n (fun j => renLM f (q.el j))
structure OwnsF (base : Nat) (κ : Nat → Nat → Option Value) (sl : Nat → Value) (w : World) (k : Nat) (os : Nat → OwA) : Prop where
  own : ∀ i, i < k → Owns base κ (fun _ => 1) sl w i ((os i).ownF canF)
  sep : ∀ i, i < k → ∀ b, blk (os i).own (sl i) = some b → ∀ o, κ b o = none
  inj : ∀ i j b, i < k → j < k → blk (os i).own (sl i) = some b → blk (os j).own (sl j) = some b → i = j
structure ContractOF (Z : Seat) (f : FuncId) (A : List D) (R : D) (k : Nat) (os : Nat → OwA) : Prop where
  pureA : PureL A
  poR : POk k R
  poE : ∀ j, j < k → ∀ i, i < (os j).n → POkL k ((os j).el i)
  body : HasBody Z.P f
  calls : ∀ (w : World) (κ : Nat → Nat → Option Value) (args : List Value), Fits κ w → GlobOk Z κ w → RepL κ γ0 sv0 A args →
    Calls Z.P f args.toArray w fun e w' => ∃ v sl κ', e = .returned v ∧ Rep κ' (fun _ => 1) sl (renM canF R) v ∧ (∀ b o u, κ b o = some u → κ' b o = some u) ∧ (∀ b o u, b < w.heap.size → κ' b o = some u → κ b o = some u) ∧
      (∀ b o u, κ' b o = some u → w'.cell? ⟨b, o, none⟩ = some u) ∧ OwnsF w.heap.size κ' sl w' k os ∧ Below w.heap.size w w'
def FinOF (X : Ctx) (rs : List ResultVar) (R : D) (k : Nat) (os : Nat → OwA) : Exit → St → Prop
  | .normal, S | .ret, S => ∃ ss : Nat → Nat, (∀ i j, i < k → j < k → ss i = ss j → i = j) ∧ (∀ i, i < k → ∃ f, S.σ (ss i) = .arr (os i).E (os i).z (os i).n f ∧ ∀ j, j < (os i).n → f j = renLM (fun i => (ss i, S.γ (ss i))) ((os i).el j)) ∧ ∃ ds, ResL X S rs ds ∧ tupOf ds = renM (fun i => (ss i, S.γ (ss i))) R
  | _, _ => False
theorem blk_arrs {E z n E' z' n' : Nat} {f f' : Nat → List D} (v : Value) : blk (.arr E z n f) v = blk (.arr E' z' n' f') v := by
  cases v with
  | pointer a => cases a <;> rfl
  | slice a _ _ => cases a <;> rfl
  | map a => cases a <;> rfl
  | _ => rfl
theorem len_renLM (f : Nat → Nat × Nat) : ∀ l : List D, (renLM f l).length = l.length
  | [] => rfl
  | d :: l => by simp only [renLM, List.length_cons, len_renLM f l]
theorem cell_renM (f : Nat → Nat × Nat) (d : D) : (renM f d).isCell = d.isCell := by cases d <;> rfl
theorem allCell_renLM (f : Nat → Nat × Nat) : ∀ l : List D, allCell (renLM f l) = allCell l
  | [] => rfl
  | d :: l => by
    simp only [renLM, allCell, cell_renM, allCell_renLM f l]
theorem contractOF_intro {Z : Seat} {f : FuncId} {fn : Func} {c : Code} {A : List D} {R : D} {k : Nat} {os : Nat → OwA} (hf : Z.P.funcs[f]? = some fn) (hb : fn.body = some c) (hname : (fn.name == "runtime.NumGoroutine") = false) (hn : Nat.ble A.length fn.ntmps = true) (hA : PureL A) (hR : POk k R) (hE : ∀ j, j < k → ∀ i, i < (os j).n → POkL k ((os j).el i))
    (h : ∀ w κ, W (Ctx.plain Z fn.ntmps w κ none) c (FinOF (Ctx.plain Z fn.ntmps w κ none) fn.results.toList R k os) (St.init A)) : ContractOF Z f A R k os := by
  refine ⟨hA, hR, hE, ⟨fn, c, hf, hb, hname⟩, fun w κ args hκ hglob hrep => ?_⟩
  refine (callsIn_wide (n := 0)).1 (callsIn_of_wp_marks hf hb trivial ?_ rfl)
  have hlen : A.length ≤ fn.ntmps := Nat.le_of_ble_eq_true hn
  have hal := hrep.length
  have hsim : Sim (Ctx.plain Z fn.ntmps w κ none) κ sv0 (St.init A) { tmps := args.toArray ++ Array.replicate (fn.ntmps - args.toArray.size) Go.undef, defers := [] } w := by
    refine ⟨by simp [Ctx.plain]; omega, Dfr.nil rfl, fun i _ => slot_init hrep _ i, ?_⟩
    exact ⟨hκ, fun _ => trivial, (fun s t b hs => by cases hs), (fun s b o hs => by cases hs), (fun s b hs => by cases hs), ⟨fun _ => False, ⟨Frame.refl _ _, fun _ h => h.elim⟩, fun s b hs => by cases hs⟩, hglob.1, fun b o v _ hk => hk, (fun b hb => by cases hb), Nat.le_refl _, ⟨fun _ _ _ h => (by cases h), fun _ => Nat.zero_le _, fun _ _ => rfl⟩, fun _ _ _ _ h => h, fun _ _ _ h => h, fun _ h => h.elim, gz_init hglob (fun _ e => by cases e) (fun _ e => e.elim)⟩
  refine wpIn_mono (h w κ κ sv0 _ w hsim) ?_
  rintro e a' w' ⟨κ', sv', S', hs, hq⟩
  cases e <;> first | exact hq.elim | skip
  all_goals
    obtain ⟨ss, hinj, hσ, ds, hd, hren⟩ := hq
    obtain ⟨Ds, d1, d2, d3, _⟩ := hs.defers
    show LeavesInM _ _ _ _ _ _ a'.defers _ _
    rw [d1]
    refine leaves_of rfl plainF_turn hd (fun a w' v hs h2 => ?_) Ds a' w' hs d1 d2 d3
    rw [hren] at h2
    obtain ⟨M, h1, _⟩ := hs.wld.frame
    have hk : ∀ b o u, κ' b o = some u → (fun b o => if b < w.heap.size then κ b o else κ' b o) b o = some u := fun b o u hu => by
      simp only
      split
      · exact hs.wld.old b o u (by assumption) hu
      · exact hu
    have hbk : ∀ i b, i < k → blk (os i).own (sv' (ss i)) = some b → blk (S'.σ (ss i)) (sv' (ss i)) = some b := fun i b hi hb => by
      obtain ⟨f, q1, _⟩ := hσ i hi
      rw [q1, ← hb]; exact blk_arrs _
    refine ⟨v, fun i => sv' (ss i), fun b o => if b < w.heap.size then κ b o else κ' b o, rfl, rep_renM (f := fun i => (ss i, S'.γ (ss i))) (f' := canF) (γ' := fun _ => 1) (sv' := fun i => sv' (ss i)) hk (fun _ _ => rfl) (fun _ _ => rfl) (fun _ _ => rfl) hR h2, fun b o u hu => ?_, fun b o u hb hu => ?_, fun b o u hu => ?_, ⟨fun i hi => ?_, fun i hi b hb o => ?_, fun i j b hi hj h1 h2 => ?_⟩, h1.1.below⟩
    · have : b < w.heap.size := by have := World.block_lt_of_cell? w _ (hκ b o u hu); simpa using this
      simp only; rw [if_pos this]; exact hu
    · simp only at hu; rw [if_pos hb] at hu; exact hu
    · simp only at hu
      split at hu
      · rename_i hb
        have h3 := hκ b o u hu
        rw [h1.1.below.cell (by simpa using hb)]; exact h3
      · exact hs.wld.imm b o u hu
    · have hown := hs.wld.own (ss i)
      obtain ⟨f, q1, q2⟩ := hσ i hi
      rw [q1] at hown
      obtain ⟨xs, e1, e2, e3, e4⟩ := hown
      refine ⟨xs, e1, fun j hj => ?_, fun j hj => ?_, fun j hj => ?_⟩
      · have := e2 j hj
        rw [q2 j hj, len_renLM] at this
        rw [len_renLM]; exact this
      · have := e3 j hj
        rw [q2 j hj, allCell_renLM] at this
        rw [allCell_renLM]; exact this
      · have := e4 j hj
        rw [q2 j hj] at this
        exact repL_renM (f := fun i => (ss i, S'.γ (ss i))) (f' := canF) (γ' := fun _ => 1) (sv' := fun i => sv' (ss i)) hk (fun _ _ => rfl) (fun _ _ => rfl) (fun _ _ => rfl) (hE i hi j hj) this
    · have hbk2 := hbk i b hi hb
      have h3 := hs.wld.frsh (ss i) b hbk2
      have h4 : w.heap.size ≤ b := h3.resolve_right (fun h => by rcases h with h | h <;> cases h)
      show (if b < w.heap.size then κ b o else κ' b o) = none
      rw [if_neg (by omega)]
      exact hs.wld.sep (ss i) b o hbk2
    · exact hinj i j hi hj (hs.wld.inj (ss i) (ss j) b (hbk i b hi h1) (hbk j b hj h2))
section
variable {X : Ctx} {Q : Exit → St → Prop} {S : St} {ops : Array Oper} {o : Oper} {rest : List Oper}
theorem WL_callOF (pl ix : Nat → Nat) (p : Nat → Bool) {k : Nat} (hp : ∀ s, p s = true → ix s < k ∧ pl (ix s) = s) (hpl : ∀ i, i < k → p (pl i) = true ∧ ix (pl i) = i) {f : FuncId} {xs : Array Operand} {ts : Array TypeId} {A : List D} {R : D} {os : Nat → OwA} (hg : o.guard = none) (ho : o.op = .call { callee := .value (.func f), args := xs, argTypes := ts }) (hc : ContractOF X.Z f A R k os) (hA : xs.toList.map (S.ev X) = A)
    {t : Nat} (hd : o.dst = some t) {R' : D} (hR : renM (fun i => (pl i, S.γ (pl i) + 1)) R = R')
    (hk : WL X ops rest Q ⟨upd S.ρ t R', mrg p (fun s => S.γ s + 1) S.γ, mrg p (fun s => (os (ix s)).ownF (fun i => (pl i, S.γ (pl i) + 1))) S.σ⟩) : WL X ops (o :: rest) Q S := fun κ sv a w hs => by
  subst hR
  have hr := evs_rep hs xs.toList
  rw [hA] at hr
  refine wpListIn_plain hg fun K hK => op_call (run_call hc.body ho) (hc.calls w κ _ (Sim.fits hs.wld) (Sim.globOk hs.wld) (hr.pure (fun _ _ _ h => h) hc.pureA)) ?_
  rintro e w' ⟨v, sl, κ', rfl, hv, k1, k2, k3, hown, hb⟩
  refine ⟨v, rfl, ?_⟩
  rw [hd]
  have hle : Le κ κ' S.γ (mrg p (fun s => S.γ s + 1) S.γ) sv (mrg p (fun s => sl (ix s)) sv) := le_mrg k1 _ _
  have hren : ∀ {l : List D} {vs : List Value}, POkL k l → RepL κ' (fun _ => 1) sl (renLM canF l) vs → RepL κ' (mrg p (fun s => S.γ s + 1) S.γ) (mrg p (fun s => sl (ix s)) sv) (renLM (fun i => (pl i, S.γ (pl i) + 1)) l) vs := fun hp2 hr2 =>
    repL_renM (k := k) (f := canF) (f' := fun i => (pl i, S.γ (pl i) + 1)) (fun _ _ _ h => h) (fun _ _ => rfl) (fun i hi => mrg_t (f := fun s => S.γ s + 1) (g := S.γ) (hpl i hi).1) (fun i hi => (mrg_t (f := fun s => sl (ix s)) (g := sv) (hpl i hi).1).trans (by rw [(hpl i hi).2]; rfl)) hp2 hr2
  have hW := hs.wld.adoptM (below_grown hb none) (fun b e => by cases e) k1 k2 k3 p S.σ (fun s => (os (ix s)).ownF (fun i => (pl i, S.γ (pl i) + 1))) (fun s => sl (ix s)) (fun s hps b hbk => by
    obtain ⟨i1, i2⟩ := hp s hps
    have hbk : blk (os (ix s)).own (sl (ix s)) = some b := by rw [← hbk]; exact blk_arrs _
    obtain ⟨xs, e1, _⟩ := hown.own _ i1
    rcases e1.2 with ⟨hv, _⟩ | ⟨b', off, cap, cur, hv, hbase, hh, _⟩
    · rw [hv] at hbk; cases hbk
    · have hsep := hown.sep _ i1 b hbk
      rw [hv] at hbk; simp only [OwA.own, blk, Option.some.injEq] at hbk; subst hbk
      exact ⟨hbase, (Array.getElem?_eq_some_iff.1 hh).1, hsep⟩) (fun s t b hps hpt h1 h2 => by
    obtain ⟨i1, i2⟩ := hp s hps
    obtain ⟨j1, j2⟩ := hp t hpt
    have := hown.inj _ _ b i1 j1 (by rw [← h1]; exact blk_arrs _) (by rw [← h2]; exact blk_arrs _)
    rw [← i2, ← j2, this]) (fun s hps => by
    obtain ⟨i1, i2⟩ := hp s hps
    obtain ⟨xs, e1, e2, e3, e4⟩ := hown.own _ i1
    refine ⟨xs, by rw [mrg_t (f := fun s => sl (ix s)) hps]; exact owns_base e1 (hs.wld.baseS _), fun j hj => ?_, fun j hj => ?_, fun j hj => hren (hc.poE _ i1 j hj) (e4 j hj)⟩
    · have := e2 j hj
      rw [len_renLM] at this ⊢; exact this
    · have := e3 j hj
      rw [allCell_renLM] at this ⊢; exact this) (fun s hps => ⟨rfl, owns_mono hle (by rw [mrg_f hps]) (fun b hb' => hb.block b (owns_lt (hs.wld.own s) hb')) (hs.wld.own s)⟩) S.ρ
  have hs' : Sim X κ' (mrg p (fun s => sl (ix s)) sv) ⟨S.ρ, mrg p (fun s => S.γ s + 1) S.γ, mrg p (fun s => (os (ix s)).ownF (fun i => (pl i, S.γ (pl i) + 1))) S.σ⟩ a w' := ⟨hs.size, hs.defers.later hb, fun i hi => (hs.slot i hi).mono hle, hW⟩
  exact hK _ _ (hk κ' _ _ w' (hs'.put (some t) (rep_renM (k := k) (f := canF) (f' := fun i => (pl i, S.γ (pl i) + 1)) (fun _ _ _ h => h) (fun _ _ => rfl) (fun i hi => mrg_t (f := fun s => S.γ s + 1) (g := S.γ) (hpl i hi).1) (fun i hi => (mrg_t (f := fun s => sl (ix s)) (g := sv) (hpl i hi).1).trans (by rw [(hpl i hi).2]; rfl)) hc.poR hv)))
end
end Go.Ab
