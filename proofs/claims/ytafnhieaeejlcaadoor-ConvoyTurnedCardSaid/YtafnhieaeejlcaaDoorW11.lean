/- Walks by computing: what each function of the program that the laws reach gives for what it gets, as plain Lean, and that it is so; without a condition but those that stand in each theorem. -/
import Derived.Test.YtafnhieaeejlcaaDoorW1
import Derived.Test.YtafnhieaeejlcaaDoorW2
import Derived.Test.YtafnhieaeejlcaaDoorW3
import Derived.Test.YtafnhieaeejlcaaDoorW4
import Derived.Test.YtafnhieaeejlcaaDoorW5
import Derived.Test.YtafnhieaeejlcaaDoorW6
import Derived.Test.YtafnhieaeejlcaaDoorW7
import Derived.Test.YtafnhieaeejlcaaDoorW8
import Derived.Test.YtafnhieaeejlcaaDoorW9
import Derived.Test.YtafnhieaeejlcaaDoorW10
set_option linter.all false
namespace Go.Proofs.Plain04
open Go Go.Ab
open Go.Proofs.YtafnhieaeejlcaaDoor (iseat seat chkConvoy meetingP optM)
set_option linter.all false
set_option maxRecDepth 100000
noncomputable section
def oH (h : Hold) : Go.Proofs.YtafnhieaeejlcaaDoor.Hold := ⟨h.At, h.Until⟩
def oT (t : Truck) : Go.Proofs.YtafnhieaeejlcaaDoor.Truck := ⟨t.Way, t.Start, t.Pace.Lo, t.Pace.Hi, t.Holds.map oH⟩
def oC (c : Convoy) : Go.Proofs.YtafnhieaeejlcaaDoor.Convoy := ⟨c.Length, c.Gap, c.Fails, c.Trucks.map oT⟩
def nM (m : Go.Proofs.YtafnhieaeejlcaaDoor.Meeting) : Meeting := ⟨m.m, m.i, m.k, m.fi, m.fk, m.p, m.q⟩
theorem getD_map {α β : Type} (f : α → β) (l : List α) (i : Nat) (d : α) : (l.map f).getD i (f d) = f (l.getD i d) := by
  simp only [List.getD_eq_getElem?_getD, List.getElem?_map]
  cases l[i]? <;> rfl
theorem encTruck_o (t : Truck) : Go.Proofs.YtafnhieaeejlcaaDoor.encTruck (oT t) = encDTruck t := by
  unfold Go.Proofs.YtafnhieaeejlcaaDoor.encTruck encDTruck slOf oT
  simp only [List.length_map]
  have : (fun i => Go.Proofs.YtafnhieaeejlcaaDoor.encHold ((t.Holds.map oH).getD i default)) = fun i => encDHold (t.Holds.getD i dfltHold) := by
    funext i
    rw [show (default : Go.Proofs.YtafnhieaeejlcaaDoor.Hold) = oH dfltHold from rfl, getD_map]
    rfl
  rw [this]
theorem encConvoy_o (c : Convoy) : Go.Proofs.YtafnhieaeejlcaaDoor.encConvoy (oC c) = encDConvoy c := by
  unfold Go.Proofs.YtafnhieaeejlcaaDoor.encConvoy encDConvoy slOf oC
  simp only [List.length_map]
  have : (fun i => Go.Proofs.YtafnhieaeejlcaaDoor.encTruck ((c.Trucks.map oT).getD i default)) = fun i => encDTruck (c.Trucks.getD i dfltTruck) := by
    funext i
    rw [show (default : Go.Proofs.YtafnhieaeejlcaaDoor.Truck) = oT dfltTruck from rfl, getD_map, encTruck_o]
  rw [this]
theorem argC (c : Convoy) (h : Nat → Nat) : (encV .Convoy c).toD h = .agg (Go.Proofs.YtafnhieaeejlcaaDoor.encConvoy (oC c)) := by
  rw [encConvoy_o]
  show D.agg (I.toDL h (encC .Convoy c)) = _
  rw [toDL_enc]; rfl
def meetS (c : Convoy) : Meeting × Int := (nM (if chkConvoy (oC c) = 0 then optM (meetingP (oC c)) else default), if chkConvoy (oC c) = 0 then (if (meetingP (oC c)).isSome then 0 else 7) else chkConvoy (oC c))
theorem resM (c : Convoy) (h : Nat → Nat) : (encR [.Meeting, .int .i64] (meetS c)).toD h = .tup [.agg (Go.Proofs.YtafnhieaeejlcaaDoor.encMeeting (if chkConvoy (oC c) = 0 then optM (meetingP (oC c)) else default)), .int .i64 (if chkConvoy (oC c) = 0 then (if (meetingP (oC c)).isSome then 0 else 7) else chkConvoy (oC c))] := rfl
def nS (s : Go.Proofs.YtafnhieaeejlcaaDoor.Span) : Span := ⟨s.lo, s.hi⟩
end
end Go.Proofs.Plain04
