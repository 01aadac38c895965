/- Walks by computing: what each function of the program that the laws reach gives for what it gets, as plain Lean, and that it is so; without a condition but those that stand in each theorem. -/
import Derived.Test.YtbhjjkekphpldaaGreatDoorW1
import Derived.Test.YtbhjjkekphpldaaGreatDoorW2
import Derived.Test.YtbhjjkekphpldaaGreatDoorW3
import Derived.Test.YtbhjjkekphpldaaGreatDoorW4
import Derived.Test.YtbhjjkekphpldaaGreatDoorW5
import Derived.Test.YtbhjjkekphpldaaGreatDoorW6
import Derived.Test.YtbhjjkekphpldaaGreatDoorW7
import Derived.Test.YtbhjjkekphpldaaGreatDoorW8
import Derived.Test.YtbhjjkekphpldaaGreatDoorW9
import Derived.Test.YtbhjjkekphpldaaGreatDoorW10
import Derived.Test.YtbhjjkekphpldaaGreatDoorW11
import Derived.Test.YtbhjjkekphpldaaGreatDoorW12
import Derived.Test.YtbhjjkekphpldaaGreatDoorW13
import Derived.Test.YtbhjjkekphpldaaGreatDoorW14
import Derived.Test.YtbhjjkekphpldaaGreatDoorW15
import Derived.Test.YtbhjjkekphpldaaGreatDoorW16
import Derived.Test.YtbhjjkekphpldaaGreatDoorW17
import Derived.Test.YtbhjjkekphpldaaGreatDoorW18
import Derived.Test.YtbhjjkekphpldaaGreatDoorW19
import Derived.Test.YtbhjjkekphpldaaGreatDoorW20
import Derived.Test.YtbhjjkekphpldaaGreatDoorW21
import Derived.Test.YtbhjjkekphpldaaGreatDoorW22
set_option linter.all false
namespace Go.Proofs.YtbhjjkekphpldaaGreatDoor
open Go
set_option maxRecDepth 100000
theorem closed4:joinedFacts Tryz.prog 4 Tryz.f4 (OpenSpec.ofChange Rows.roadKnownSpec).bare Rows.roadKnownRow=true:=by
 unfold joinedFacts
 rw[jf1,jf2,jf3,jf4]
 kernel_rfl
theorem inst4:Func.isInstance Tryz.prog Tryz.f4 Rows.roadKnownRow.origin Rows.roadKnownRow.targs:=of_decide_eq_true (by kernel_rfl)
theorem wrap4:Func.isWrapper Tryz.prog Tryz.f4 Rows.roadKnownRow.wrapper Rows.roadKnownRow.mainSum:=by unfold Func.isWrapper;first|(rw[if_pos (by decide +kernel)];kernel_rfl)|(rw[if_neg (by decide +kernel)];exact⟨rfl,rfl⟩)
end Go.Proofs.YtbhjjkekphpldaaGreatDoor
