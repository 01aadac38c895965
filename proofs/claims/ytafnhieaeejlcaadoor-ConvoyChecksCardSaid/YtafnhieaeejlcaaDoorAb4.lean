/- The rules of the operations that reckon. -/
import Derived.Test.YtafnhieaeejlcaaDoorAb3
set_option linter.all false
namespace Go.Ab
open Go Go.RowKit

section
variable {X : Ctx} {S : St} {o : Oper} {T T2 : TypeId} {x y : Operand}

theorem ev_int {κ : Nat → Nat → Option Value} {sv : Nat → Value} {a : Act} {w : World} (hs : Sim X κ sv S a w) {k : IntKind} {n : Int} (h : S.ev X x = .int k n) : a.eval x = .int k n := rep_int (h ▸ hs.ev x)
theorem ev_bool {κ : Nat → Nat → Option Value} {sv : Nat → Value} {a : Act} {w : World} (hs : Sim X κ sv S a w) {b : Bool} (h : S.ev X x = .bool b) : a.eval x = .bool b := rep_bool (h ▸ hs.ev x)
theorem ev_str {κ : Nat → Nat → Option Value} {sv : Nat → Value} {a : Act} {w : World} (hs : Sim X κ sv S a w) {s : ByteArray} (h : S.ev X x = .str s) : a.eval x = .string s := rep_str (h ▸ hs.ev x)

theorem wrap_in (n : Int) (h0 : -9223372036854775808 ≤ n) (h1 : n ≤ 9223372036854775807) : IntKind.i64.wrap n = n := by
  have h := IntWalk.i64_in n ⟨h0, h1⟩
  exact h

theorem run_binInt {P : Program} {w : World} (op : BinOp) (k : IntKind) (m n : Int) (hs : op ≠ .shl) (hr : op ≠ .shr) :
    (do eqGuard op T x y (.int k m) (.int k n); binOp op T (.int k m) (.int k n)).run P w =
      (match op with
        | .add | .sub | .mul => Op.intArith op k m n
        | .quo | .rem => Op.intDiv op k m n
        | .and | .or | .xor | .andNot => Op.intBits op k m n
        | _ => Op.intCmp op m n).run P w := by
  cases op <;> simp_all [eqGuard, binOp]

/-- Comparisons of integers. -/
def cmpI : BinOp → Int → Int → Option Bool
  | .eql, a, b => some (a == b)
  | .neq, a, b => some (a != b)
  | .lss, a, b => some (decide (a < b))
  | .leq, a, b => some (decide (a ≤ b))
  | .gtr, a, b => some (decide (a > b))
  | .geq, a, b => some (decide (a ≥ b))
  | _, _, _ => none
theorem q_cmp {op : BinOp} {k : IntKind} {m n : Int} {b : Bool} (ho : o.op = .binOp op T x y T2) (hx : S.ev X x = .int k m) (hy : S.ev X y = .int k n) (hc : cmpI op m n = some b) : QOp X o S (.bool b) := fun κ sv a w hs =>
  ⟨.bool b, .bool b, fun w' _ => by
    simp only [execOp, ho, ev_int hs hx, ev_int hs hy]
    cases op <;> simp_all [cmpI, eqGuard, binOp, Op.intCmp]⟩
def arithI : BinOp → Int → Int → Option Int
  | .add, a, b => some (a + b)
  | .sub, a, b => some (a - b)
  | .mul, a, b => some (a * b)
  | _, _, _ => none
theorem q_arith {op : BinOp} {m n e : Int} (ho : o.op = .binOp op T x y T2) (hx : S.ev X x = .int .i64 m) (hy : S.ev X y = .int .i64 n) (hc : arithI op m n = some e)
    (h0 : -9223372036854775808 ≤ e) (h1 : e ≤ 9223372036854775807) : QOp X o S (.int .i64 e) := fun κ sv a w hs =>
  ⟨.int .i64 e, .int _ _, fun w' _ => by
    simp only [execOp, ho, ev_int hs hx, ev_int hs hy]
    cases op <;> simp_all [arithI, eqGuard, binOp, Op.intArith, wrap_in e h0 h1]⟩
theorem q_arithw {op : BinOp} {k : IntKind} {m n e : Int} (ho : o.op = .binOp op T x y T2) (hx : S.ev X x = .int k m) (hy : S.ev X y = .int k n) (hc : arithI op m n = some e) : QOp X o S (.int k (k.wrap e)) := fun κ sv a w hs =>
  ⟨.int k (k.wrap e), .int _ _, fun w' _ => by
    simp only [execOp, ho, ev_int hs hx, ev_int hs hy]
    cases op <;> simp_all [arithI, eqGuard, binOp, Op.intArith]⟩
theorem q_quo {m n : Int} (ho : o.op = .binOp .quo T x y T2) (hx : S.ev X x = .int .i64 m) (hy : S.ev X y = .int .i64 n) (h0 : 0 ≤ m) (h2 : m ≤ 9223372036854775807) (h1 : 1 ≤ n) : QOp X o S (.int .i64 (m / n)) := fun κ sv a w hs =>
  ⟨.int .i64 (m / n), .int _ _, fun w' _ => by
    have e1 : m.tdiv n = m / n := Int.tdiv_eq_ediv_of_nonneg h0
    have hn : n ≠ 0 := by omega
    have h3 : 0 ≤ m / n := Int.ediv_nonneg h0 (by omega)
    have h4 : m / n ≤ m := Int.ediv_le_self n h0
    simp [execOp, ho, ev_int hs hx, ev_int hs hy, eqGuard, binOp, Op.intDiv, hn, e1, wrap_in (m / n) (by omega) (by omega)]⟩
theorem q_rem {m n : Int} (ho : o.op = .binOp .rem T x y T2) (hx : S.ev X x = .int .i64 m) (hy : S.ev X y = .int .i64 n) (h0 : 0 ≤ m) (h1 : 1 ≤ n) : QOp X o S (.int .i64 (m % n)) := fun κ sv a w hs =>
  ⟨.int .i64 (m % n), .int _ _, fun w' _ => by
    have e1 : m.tmod n = m % n := Int.tmod_eq_emod_of_nonneg h0
    have hn : n ≠ 0 := by omega
    simp [execOp, ho, ev_int hs hx, ev_int hs hy, eqGuard, binOp, Op.intDiv, hn, e1]⟩
theorem q_quot {k : IntKind} {m n : Int} (ho : o.op = .binOp .quo T x y T2) (hx : S.ev X x = .int k m) (hy : S.ev X y = .int k n) (h1 : n ≠ 0) : QOp X o S (.int k (k.wrap (m.tdiv n))) := fun κ sv a w hs =>
  ⟨.int k (k.wrap (m.tdiv n)), .int _ _, fun w' _ => by simp [execOp, ho, ev_int hs hx, ev_int hs hy, eqGuard, binOp, Op.intDiv, h1]⟩
theorem q_remt {k : IntKind} {m n : Int} (ho : o.op = .binOp .rem T x y T2) (hx : S.ev X x = .int k m) (hy : S.ev X y = .int k n) (h1 : n ≠ 0) : QOp X o S (.int k (m.tmod n)) := fun κ sv a w hs =>
  ⟨.int k (m.tmod n), .int _ _, fun w' _ => by simp [execOp, ho, ev_int hs hx, ev_int hs hy, eqGuard, binOp, Op.intDiv, h1]⟩
theorem q_xor {k : IntKind} {m n : Int} (ho : o.op = .binOp .xor T x y T2) (hx : S.ev X x = .int k m) (hy : S.ev X y = .int k n) : QOp X o S (.int k (k.wrap (BitVec.ofInt k.bits m ^^^ BitVec.ofInt k.bits n).toNat)) := fun κ sv a w hs =>
  ⟨.int k (k.wrap (BitVec.ofInt k.bits m ^^^ BitVec.ofInt k.bits n).toNat), .int _ _, fun w' _ => by simp [execOp, ho, ev_int hs hx, ev_int hs hy, eqGuard, binOp, Op.intBits]⟩
theorem q_and {k : IntKind} {m n : Int} (ho : o.op = .binOp .and T x y T2) (hx : S.ev X x = .int k m) (hy : S.ev X y = .int k n) : QOp X o S (.int k (k.wrap (BitVec.ofInt k.bits m &&& BitVec.ofInt k.bits n).toNat)) := fun κ sv a w hs =>
  ⟨.int k (k.wrap (BitVec.ofInt k.bits m &&& BitVec.ofInt k.bits n).toNat), .int _ _, fun w' _ => by simp [execOp, ho, ev_int hs hx, ev_int hs hy, eqGuard, binOp, Op.intBits]⟩
theorem q_shr {k k2 : IntKind} {m n : Int} (ho : o.op = .binOp .shr T x y T2) (hx : S.ev X x = .int k m) (hy : S.ev X y = .int k2 n) (h0 : 0 ≤ n) : QOp X o S (.int k (m.fdiv (2 ^ (min n.toNat k.bits)))) := fun κ sv a w hs =>
  ⟨.int k (m.fdiv (2 ^ (min n.toNat k.bits))), .int _ _, fun w' _ => by
    have : ¬ n < 0 := by omega
    simp [execOp, ho, ev_int hs hx, ev_int hs hy, eqGuard, binOp, Op.shift, this]⟩
theorem q_shl {k k2 : IntKind} {m n : Int} (ho : o.op = .binOp .shl T x y T2) (hx : S.ev X x = .int k m) (hy : S.ev X y = .int k2 n) (h0 : 0 ≤ n) : QOp X o S (.int k (k.wrap (m * 2 ^ (min n.toNat k.bits)))) := fun κ sv a w hs =>
  ⟨.int k (k.wrap (m * 2 ^ (min n.toNat k.bits))), .int _ _, fun w' _ => by
    have : ¬ n < 0 := by omega
    simp [execOp, ho, ev_int hs hx, ev_int hs hy, eqGuard, binOp, Op.shift, this]⟩
theorem q_not {b : Bool} (ho : o.op = .unOp .not T x) (hx : S.ev X x = .bool b) : QOp X o S (.bool (!b)) := fun κ sv a w hs =>
  ⟨.bool !b, .bool _, fun w' _ => by simp [execOp, ho, ev_bool hs hx, Op.unary]⟩
theorem q_neg {n : Int} (ho : o.op = .unOp .neg T x) (hx : S.ev X x = .int .i64 n) (h0 : -9223372036854775807 ≤ n) (h1 : n ≤ 9223372036854775807) : QOp X o S (.int .i64 (-n)) := fun κ sv a w hs =>
  ⟨.int .i64 (-n), .int _ _, fun w' _ => by
    have := wrap_in (-n) (by omega) (by omega)
    simp [execOp, ho, ev_int hs hx, Op.unary, Op.intArith, this]⟩
theorem run_equalIn_bool {P : Program} (w : World) (d : Nat) (b c : Bool) (hT : P.underlying T = some .bool) : (Op.equalIn (d + 1) T (.bool b) (.bool c)).run P w = .ok (b == c) w := by
  simp [Op.equalIn, run_underlying hT]
theorem q_beq {b c : Bool} (ho : o.op = .binOp .eql T x y T2) (hT : X.Z.P.underlying T = some .bool) (hx : S.ev X x = .bool b) (hy : S.ev X y = .bool c) : QOp X o S (.bool (b == c)) := fun κ sv a w hs =>
  ⟨.bool (b == c), .bool _, fun w' _ => by
    simp [execOp, ho, ev_bool hs hx, ev_bool hs hy, eqGuard, binOp, Op.equal, Op.maxDepth, run_equalIn_bool w' 9999 b c hT]⟩
theorem q_bneq {b c : Bool} (ho : o.op = .binOp .neq T x y T2) (hT : X.Z.P.underlying T = some .bool) (hx : S.ev X x = .bool b) (hy : S.ev X y = .bool c) : QOp X o S (.bool (!(b == c))) := fun κ sv a w hs =>
  ⟨.bool (!(b == c)), .bool _, fun w' _ => by
    simp [execOp, ho, ev_bool hs hx, ev_bool hs hy, eqGuard, binOp, Op.equal, Op.maxDepth, run_equalIn_bool w' 9999 b c hT]⟩
theorem q_conv {k k2 : IntKind} {n : Int} (ho : o.op = .convert T T2 x) (hT : (X.Z.P.underlying T).isSome = true) (hT2 : X.Z.P.underlying T2 = some (.int k2)) (hx : S.ev X x = .int k n) : QOp X o S (.int k2 (k2.wrap n)) := fun κ sv a w hs =>
  ⟨.int k2 (k2.wrap n), .int _ _, fun w' _ => by
    obtain ⟨d, hd⟩ := Option.isSome_iff_exists.1 hT
    simp [execOp, ho, ev_int hs hx, convert, run_underlying hd, run_underlying hT2, Conv.intToInt]⟩
def minI (a b : Int) : Int := if b < a then b else a
def maxI (a b : Int) : Int := if b > a then b else a
theorem q_min {m n : Int} {ts : Array TypeId} (ho : o.op = .call { callee := .builtin .min, args := #[x, y], argTypes := ts }) (hx : S.ev X x = .int .i64 m) (hy : S.ev X y = .int .i64 n) : QOp X o S (.int .i64 (min m n)) := fun κ sv a w hs =>
  ⟨.int .i64 (min m n), .int _ _, fun w' _ => by
    have : (if n < m then n else m) = min m n := by omega
    simp [execOp, ho, resolve, invoke, builtin, Builtin.min_, Builtin.min2, ev_int hs hx, ev_int hs hy, this]⟩
theorem q_max {m n : Int} {ts : Array TypeId} (ho : o.op = .call { callee := .builtin .max, args := #[x, y], argTypes := ts }) (hx : S.ev X x = .int .i64 m) (hy : S.ev X y = .int .i64 n) : QOp X o S (.int .i64 (max m n)) := fun κ sv a w hs =>
  ⟨.int .i64 (max m n), .int _ _, fun w' _ => by
    have : (if n > m then n else m) = max m n := by omega
    simp [execOp, ho, resolve, invoke, builtin, Builtin.max_, Builtin.max2, ev_int hs hx, ev_int hs hy, this]⟩
theorem q_ext {i : Nat} {l : List D} {d : D} (ho : o.op = .extract x i) (hx : S.ev X x = .tup l) (hd : nth l i = some d) : QOp X o S d := fun κ sv a w hs => by
  have h1 := hs.ev x
  rw [hx] at h1
  generalize he : a.eval x = v at h1
  cases h1 with
  | tup _ vs hl =>
    rw [nth_eq] at hd
    obtain ⟨u, hu, hr⟩ := hl.get hd
    exact ⟨u, hr, fun w' _ => by simp [execOp, ho, he, Instr.extract, hu]⟩
theorem q_nck {s g j : Nat} (ho : o.op = .nilCheck x) (hx : S.ev X x = .bx s g j) (hg : S.γ s = g) : QOp X o S (.bx s g j) := fun κ sv a w hs => by
  obtain ⟨b, h1, h2⟩ := live_bx hs hx hg
  exact ⟨.pointer (some ⟨b, j, none⟩), .bx _ _ _ _ (by omega) (fun _ => ⟨b, h1, rfl⟩) rfl, fun w' _ => by simp [execOp, ho, h2]⟩
theorem q_nckr {l : List D} {j : Nat} (ho : o.op = .nilCheck x) (hx : S.ev X x = .rp l j) : QOp X o S (.rp l j) := fun κ sv a w hs => by
  have h1 := hs.ev x
  rw [hx] at h1
  refine ⟨a.eval x, h1, fun w' _ => ?_⟩
  generalize he : a.eval x = v at h1
  cases h1 with
  | rp => simp [execOp, ho, he]
theorem q_ncko {s g z i j : Nat} (ho : o.op = .nilCheck x) (hx : S.ev X x = .op s g z i j) (hg : S.γ s = g) : QOp X o S (.op s g z i j) := fun κ sv a w hs => by
  obtain ⟨b, n, cap, h1, h2⟩ := live_op hs hx hg
  exact ⟨.pointer (some ⟨b, i * z + j, none⟩), .op _ _ _ _ _ _ (by omega) (fun _ => ⟨b, n, cap, h1, rfl⟩) rfl, fun w' _ => by simp [execOp, ho, h2]⟩
theorem q_fn {cs : Array Operand} {f : FuncId} (ho : o.op = .makeFunc (.func f) #[] cs) : QOp X o S (.fn f (cs.toList.map (S.ev X))) := fun κ sv a w hs => by
  have hl : ∀ l : List Operand, RepL κ S.γ sv (l.map (S.ev X)) (l.map a.eval) := by
    intro l
    induction l with
    | nil => exact .nil
    | cons c l ih => exact .cons _ _ _ _ (hs.ev c) ih
  refine ⟨.func (.func f) #[] (cs.map a.eval), ?_, fun w' _ => by simp [execOp, ho, Instr.makeFunc]⟩
  have := Rep.fn (κ := κ) (γ := S.γ) (sv := sv) f _ _ (hl cs.toList)
  have e : (cs.toList.map a.eval).toArray = cs.map a.eval := by simp [← Array.toList_map]
  rwa [e] at this

/-- A field of an aggregate at hand. -/
theorem q_field {f off fsz : Nat} {ag : Bool} {l : List D} {d : D} {r : TRow} (ho : o.op = .field T x f) (hx : S.ev X x = .agg l) (hr : nth X.Z.tab T = some r) (hk : Nat.beq r.k 1 = true)
    (hf : nth r.fl f = some (off, fsz, ag)) (ha : ag = false) (hd : nth l off = some d) : QOp X o S d := fun κ sv a w hs => by
  have hok := X.Z.tabOk _ _ hr (by intro e; rw [e] at hk; cases hk)
  obtain ⟨i, dd, hi, hdd, _, _, _, h4⟩ := row_info hok
  have hk1 := Nat.eq_of_beq_eq_true hk
  cases dd <;> try (simp only at h4; omega)
  rename_i fs
  obtain ⟨_, hfl, hall⟩ := h4
  rw [nth_eq, ← hfl, List.getElem?_map] at hf
  have h1 := hs.ev x
  rw [hx] at h1
  generalize he : a.eval x = v at h1
  cases h1 with
  | agg _ vs hl =>
    rw [nth_eq] at hd
    obtain ⟨u, hu, hrep⟩ := hl.get hd
    refine ⟨u, hrep, fun w' _ => ?_⟩
    cases hff : fs.toList[f]? with
    | none => rw [hff] at hf; cases hf
    | some fld =>
      rw [hff] at hf
      simp only [Option.map_some, Option.some.injEq, Prod.mk.injEq] at hf
      obtain ⟨h1, h2, h3⟩ := hf
      have hsome := List.all_eq_true.1 hall fld (List.mem_of_getElem? hff)
      rw [Bool.and_eq_true] at hsome
      obtain ⟨d2, hu2⟩ := Option.isSome_iff_exists.1 hsome.2
      have hff' : fs[f]? = some fld := by simpa using hff
      have hagg : (isAgg fld.type).run X.Z.P w' = .ok false w' := by rw [run_isAgg hu2, h3, ha]
      simp [execOp, ho, he, Instr.field, run_underlying hdd, hff', asAgg, part, hagg, h1, hu]

/- Moves, by what is moved: the slot then holds it written out. -/
theorem q_mvI {k : IntKind} {n : Int} (ho : o.op = .move x) (hd : S.ev X x = .int k n) : QOp X o S (.int k n) := q_move ho hd
theorem q_mvB {b : Bool} (ho : o.op = .move x) (hd : S.ev X x = .bool b) : QOp X o S (.bool b) := q_move ho hd
theorem q_mvS {z n : Nat} {f : Nat → List D} (ho : o.op = .move x) (hd : S.ev X x = .sl z n f) : QOp X o S (.sl z n f) := q_move ho hd
theorem q_mvO {s g : Nat} (ho : o.op = .move x) (hd : S.ev X x = .os s g) : QOp X o S (.os s g) := q_move ho hd
theorem q_mvN (ho : o.op = .move x) (hd : S.ev X x = .nil) : QOp X o S .nil := q_move ho hd
theorem q_mvX {s g j : Nat} (ho : o.op = .move x) (hd : S.ev X x = .bx s g j) : QOp X o S (.bx s g j) := q_move ho hd
theorem q_mvA {l : List D} (ho : o.op = .move x) (hd : S.ev X x = .agg l) : QOp X o S (.agg l) := q_move ho hd
theorem q_asI {k : IntKind} {n : Int} (ho : o.op = .assign x) (hd : S.ev X x = .int k n) : QOp X o S (.int k n) := q_assign ho hd
theorem q_asB {b : Bool} (ho : o.op = .assign x) (hd : S.ev X x = .bool b) : QOp X o S (.bool b) := q_assign ho hd
theorem q_asS {z n : Nat} {f : Nat → List D} (ho : o.op = .assign x) (hd : S.ev X x = .sl z n f) : QOp X o S (.sl z n f) := q_assign ho hd
theorem q_asO {s g : Nat} (ho : o.op = .assign x) (hd : S.ev X x = .os s g) : QOp X o S (.os s g) := q_assign ho hd
theorem q_asN (ho : o.op = .assign x) (hd : S.ev X x = .nil) : QOp X o S .nil := q_assign ho hd
theorem q_asX {s g j : Nat} (ho : o.op = .assign x) (hd : S.ev X x = .bx s g j) : QOp X o S (.bx s g j) := q_assign ho hd
theorem q_asA {l : List D} (ho : o.op = .assign x) (hd : S.ev X x = .agg l) : QOp X o S (.agg l) := q_assign ho hd
theorem q_pkT {c y : Operand} {b : Bool} (ho : o.op = .pick c x y) (hc : S.ev X c = .bool true) (hd : S.ev X x = .bool b) : QOp X o S (.bool b) := q_pickT ho hc hd
theorem q_pkF {c y : Operand} {b : Bool} (ho : o.op = .pick c x y) (hc : S.ev X c = .bool false) (hd : S.ev X y = .bool b) : QOp X o S (.bool b) := q_pickF ho hc hd
end
end Go.Ab
