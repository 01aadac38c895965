/- Walks by computing: what each function of the program that the laws reach gives for what it gets, as plain Lean, and that it is so; without a condition but those that stand in each theorem. -/
import Derived.Test.YtafnhieaeejlcaaDoorW1
import Derived.Test.YtafnhieaeejlcaaDoorW2
set_option linter.all false
namespace Go.Proofs.YtafnhieaeejlcaaDoor
open Go Go.Ab
structure Hold where
  a : Int
  u : Int
  deriving DecidableEq
instance : Inhabited Hold := ⟨⟨0, 0⟩⟩
structure Span where
  lo : Int
  hi : Int
  deriving DecidableEq
instance : Inhabited Span := ⟨⟨0, 0⟩⟩
structure Truck where
  way : Int
  start : Int
  lo : Int
  hi : Int
  holds : List Hold
  deriving DecidableEq
instance : Inhabited Truck := ⟨⟨0, 0, 0, 0, []⟩⟩
structure Convoy where
  len : Int
  gap : Int
  fails : Int
  trucks : List Truck
  deriving DecidableEq
instance : Inhabited Convoy := ⟨⟨0, 0, 0, []⟩⟩
def encHold (h : Hold) : List D := [.int .i64 h.a, .int .i64 h.u]
def encSpan (h : Span) : List D := [.int .i64 h.lo, .int .i64 h.hi]
def encTruck (t : Truck) : List D := [.int .i64 t.way, .int .i64 t.start, .int .i64 t.lo, .int .i64 t.hi, slOf 2 encHold t.holds]
def encConvoy (c : Convoy) : List D := [.int .i64 c.len, .int .i64 c.gap, .int .i64 c.fails, slOf 5 encTruck c.trucks]
theorem pure_hold (h : Hold) : PureL (encHold h) := PureL.cons (.int _ _) (PureL.cons (.int _ _) PureL.nil)
theorem pure_span (h : Span) : PureL (encSpan h) := PureL.cons (.int _ _) (PureL.cons (.int _ _) PureL.nil)
theorem pure_truck (t : Truck) : PureL (encTruck t) := PureL.cons (.int _ _) (PureL.cons (.int _ _) (PureL.cons (.int _ _) (PureL.cons (.int _ _) (PureL.cons (pure_slOf pure_hold) PureL.nil))))
theorem pure_convoy (c : Convoy) : PureL (encConvoy c) := PureL.cons (.int _ _) (PureL.cons (.int _ _) (PureL.cons (.int _ _) (PureL.cons (pure_slOf pure_truck) PureL.nil)))
def encRide (t : Truck) (len : Int) : List D := encTruck t ++ [.int .i64 len]
theorem pure_ride (t : Truck) (len : Int) : PureL (encRide t len) := fun d hd => by
  rcases List.mem_append.1 hd with h | h
  · exact pure_truck t d h
  · simp at h; subst h; exact .int _ _
end Go.Proofs.YtafnhieaeejlcaaDoor
namespace Go.Ab
open Go Go.RowKit
section
variable {X : Ctx} {o : Oper} {S : St} {x y : Operand}
theorem q_iar {T : TypeId} {r q : TRow} {l : List D} {j : Nat} {k : Int} (ho : o.op = .indexAddr T x y) (hx : S.ev X x = .rp l j) (hy : S.ev X y = .int .i64 k) (h0 : 0 ≤ k)
    (hr : nth X.Z.tab T = some r) (hk : Nat.beq r.k 2 = true) (h1 : k < r.ln) (hq : nth X.Z.tab r.el = some q) (hq9 : Nat.beq q.k 9 = false) : QOp X o S (.rp l (j + k.toNat * q.sz)) := fun κ sv a w hs => by
  have hok := X.Z.tabOk _ _ hr (by intro e; rw [e] at hk; cases hk)
  have hokq := X.Z.tabOk _ _ hq (by intro e; rw [e] at hq9; cases hq9)
  have hyv := rep_int (hy ▸ hs.ev y)
  have h1' := hs.ev x
  rw [hx] at h1'
  generalize he : a.eval x = v at h1'
  cases h1' with
  | rp _ _ b bo u hc hu hκ =>
    refine ⟨.pointer (some ⟨b, bo + (j + k.toNat * q.sz), none⟩), .rp l _ b bo u hc hu hκ, fun w' _ => ?_⟩
    simp [execOp, ho, he, hyv, Instr.indexAt, asIntOf, run_underlying (array_row hok hk), Instr.sureAddr, h0, h1, run_size_row hokq, addr_add, Nat.add_assoc]
end
end Go.Ab
namespace Go.Ab
open Go Go.RowKit
section
variable {X : Ctx} {Q : Exit → St → Prop} {S T0 : St} {ops : Array Oper} {o : Oper} {rest : List Oper} {S0 : St} {E : List Ent} {V : List Vl}
end
end Go.Ab
