/- Walks by computing: what each function of the program that the laws reach gives for what it gets, as plain Lean, and that it is so; without a condition but those that stand in each theorem. -/
import Derived.Test.YtbhjjkekphpldaaGreatDoorW1
import Derived.Test.YtbhjjkekphpldaaGreatDoorW2
import Derived.Test.YtbhjjkekphpldaaGreatDoorW3
import Derived.Test.YtbhjjkekphpldaaGreatDoorW4
import Derived.Test.YtbhjjkekphpldaaGreatDoorW5
import Derived.Test.YtbhjjkekphpldaaGreatDoorW6
import Derived.Test.YtbhjjkekphpldaaGreatDoorW7
import Derived.Test.YtbhjjkekphpldaaGreatDoorW8
import Derived.Test.YtbhjjkekphpldaaGreatDoorW9
import Derived.Test.YtbhjjkekphpldaaGreatDoorW10
import Derived.Test.YtbhjjkekphpldaaGreatDoorW11
import Derived.Test.YtbhjjkekphpldaaGreatDoorW12
import Derived.Test.YtbhjjkekphpldaaGreatDoorW13
import Derived.Test.YtbhjjkekphpldaaGreatDoorW14
import Derived.Test.YtbhjjkekphpldaaGreatDoorW15
import Derived.Test.YtbhjjkekphpldaaGreatDoorW16
set_option linter.all false
namespace Go.Proofs.Rd10
open Go Go.Ab
open Go.Proofs.YtbhjjkekphpldaaGreatDoor (iseat)
set_option linter.all false
set_option maxRecDepth 100000
noncomputable section
def knT:List KnT:=[⟨(_,_,_),kn0⟩,⟨(_,_,_),kn1⟩,⟨(_,_,_),kn2⟩,⟨(_,_,_),kn3⟩,⟨(_,_,_),kn4⟩,⟨(_,_,_),kn5⟩,⟨(_,_,_),kn6⟩,⟨(_,_,_),kn7⟩,⟨(_,_,_),kn8⟩,⟨(_,_,_),kn9⟩,⟨(_,_,_),kn10⟩,⟨(_,_,_),kn11⟩,⟨(_,_,_),kn12⟩,⟨(_,_,_),kn13⟩,⟨(_,_,_),kn14⟩,⟨(_,_,_),kn15⟩,⟨(_,_,_),kn16⟩,⟨(_,_,_),kn17⟩,⟨(_,_,_),kn18⟩,⟨(_,_,_),kn19⟩,⟨(_,_,_),kn20⟩,⟨(_,_,_),kn21⟩,⟨(_,_,_),kn22⟩,⟨(_,_,_),kn23⟩,⟨(_,_,_),kn24⟩]
def sp124k:FnSpecM iseat.toSeat:=mkSpecK 3 [1] [] [0] E124 124 (bodyOf Tryz.f124) Tryz.f124.results.toList knT (fun ls A y hx=>fn_contractD (E:=E124) (mv:=[1]) (fn:=Tryz.f124) Tryz.func124 (by kernel_rfl) (by kernel_rfl) (by kernel_rfl) rfl rfl hx)
theorem chk10:r10 [.agg regL]=some (.int .i64 0):=by kernel_rfl
def sp10k:FnSpec iseat.toSeat:=mkSpecT iseat 10 [.agg regL] (.int .i64 0) (fun h=>fn_contractU (E:=E10) (fn:=Tryz.f10) Tryz.func10 (by kernel_rfl) (by kernel_rfl) (by kernel_rfl) rfl chk10 rfl h)
end
end Go.Proofs.Rd10
namespace Go.Proofs.Rd10
open Go Go.Ab
open Go.Proofs.YtbhjjkekphpldaaGreatDoor (iseat)
set_option linter.all false
set_option maxRecDepth 100000
noncomputable section
def E99:FEnv iseat:=⟨⟨55,[sp10k,sp120,sp121,sp125,sp126],[],[],[],[],[],[sp124k,sp127,sp128],[],[],[],[sp122,sp123],[it145],[],[],true⟩,[(1000018,⟨⟨[],[]⟩,[34],[10034,20034],[]⟩)]⟩
def r99 (A:List I):Option I:=fnRunU E99 (bodyOf Tryz.f99) Tryz.f99.results.toList A
def sp99:FnSpec iseat.toSeat:=mkSpecU iseat 99 false r99 (fun A d hd hr h=>fn_contractU (E:=E99) (fn:=Tryz.f99) Tryz.func99 (by kernel_rfl) (by kernel_rfl) (by kernel_rfl) rfl hd hr h)
def E52:FEnv iseat:=⟨⟨18,[sp99],[],[],[],[],[],[],[],[],[],[],[],[],[],true⟩,[]⟩
def r52 (A:List I):Option I:=fnRunU E52 (bodyOf Tryz.f52) Tryz.f52.results.toList A
def sp52:FnSpec iseat.toSeat:=mkSpecU iseat 52 true r52 (fun A d hd hr h=>fn_contractU (E:=E52) (fn:=Tryz.f52) Tryz.func52 (by kernel_rfl) (by kernel_rfl) (by kernel_rfl) rfl hd hr h)
def E13:FEnv iseat:=⟨⟨20,[sp12,sp52],[],[],[],[],[],[],[],[],[],[],[],[],[],true⟩,[]⟩
def r13 (A:List I):Option I:=fnRunU E13 (bodyOf Tryz.f13) Tryz.f13.results.toList A
def sp13:FnSpec iseat.toSeat:=mkSpecU iseat 13 true r13 (fun A d hd hr h=>fn_contractU (E:=E13) (fn:=Tryz.f13) Tryz.func13 (by kernel_rfl) (by kernel_rfl) (by kernel_rfl) rfl hd hr h)
def E6:FEnv iseat:=⟨⟨2,[sp13],[],[],[],[],[],[],[],[],[],[],[],[],[],true⟩,[]⟩
def r6 (A:List I):Option I:=fnRunU E6 (bodyOf Tryz.f6) Tryz.f6.results.toList A
def sp6:FnSpec iseat.toSeat:=mkSpecU iseat 6 true r6 (fun A d hd hr h=>fn_contractU (E:=E6) (fn:=Tryz.f6) Tryz.func6 (by kernel_rfl) (by kernel_rfl) (by kernel_rfl) rfl hd hr h)
def E4:FEnv iseat:=⟨⟨14,[sp6,sp12,sp10k,sp13],[],[],[],[],[],[],[],[],[],[],[],[],[],true⟩,[]⟩
def r4 (A:List I):Option I:=fnRunU E4 (bodyOf Tryz.f4) Tryz.f4.results.toList A
end
end Go.Proofs.Rd10
namespace Go.Proofs.Rd10
open Go Go.Ab
set_option maxRecDepth 100000
theorem t4:r4 []=some (.bool true):=by kernel_rfl
end Go.Proofs.Rd10
