/- The data of the convoys, as plain Lean; how they stand in memory. -/
import Derived.Test.YtafnhieaeejlcaaDoorCseat
import Derived.Test.YtafnhieaeejlcaaDoorAb20
set_option linter.all false
namespace Go.Proofs.YtafnhieaeejlcaaDoor
open Go Go.Ab
structure Hold where
  a : Int
  u : Int
  deriving DecidableEq
instance : Inhabited Hold := ⟨⟨0, 0⟩⟩
structure Span where
  lo : Int
  hi : Int
  deriving DecidableEq
instance : Inhabited Span := ⟨⟨0, 0⟩⟩
structure Truck where
  way : Int
  start : Int
  lo : Int
  hi : Int
  holds : List Hold
  deriving DecidableEq
instance : Inhabited Truck := ⟨⟨0, 0, 0, 0, []⟩⟩
structure Convoy where
  len : Int
  gap : Int
  fails : Int
  trucks : List Truck
  deriving DecidableEq
instance : Inhabited Convoy := ⟨⟨0, 0, 0, []⟩⟩
def encHold (h : Hold) : List D := [.int .i64 h.a, .int .i64 h.u]
def encSpan (h : Span) : List D := [.int .i64 h.lo, .int .i64 h.hi]
def encTruck (t : Truck) : List D := [.int .i64 t.way, .int .i64 t.start, .int .i64 t.lo, .int .i64 t.hi, slOf 2 encHold t.holds]
def encConvoy (c : Convoy) : List D := [.int .i64 c.len, .int .i64 c.gap, .int .i64 c.fails, slOf 5 encTruck c.trucks]
theorem pure_hold (h : Hold) : PureL (encHold h) := PureL.cons (.int _ _) (PureL.cons (.int _ _) PureL.nil)
theorem pure_span (h : Span) : PureL (encSpan h) := PureL.cons (.int _ _) (PureL.cons (.int _ _) PureL.nil)
theorem pure_truck (t : Truck) : PureL (encTruck t) := PureL.cons (.int _ _) (PureL.cons (.int _ _) (PureL.cons (.int _ _) (PureL.cons (.int _ _) (PureL.cons (pure_slOf pure_hold) PureL.nil))))
theorem pure_convoy (c : Convoy) : PureL (encConvoy c) := PureL.cons (.int _ _) (PureL.cons (.int _ _) (PureL.cons (.int _ _) (PureL.cons (pure_slOf pure_truck) PureL.nil)))
/-- A ride: a truck and the road's length. -/
def encRide (t : Truck) (len : Int) : List D := encTruck t ++ [.int .i64 len]
theorem pure_ride (t : Truck) (len : Int) : PureL (encRide t len) := fun d hd => by
  rcases List.mem_append.1 hd with h | h
  · exact pure_truck t d h
  · simp at h; subst h; exact .int _ _
end Go.Proofs.YtafnhieaeejlcaaDoor
