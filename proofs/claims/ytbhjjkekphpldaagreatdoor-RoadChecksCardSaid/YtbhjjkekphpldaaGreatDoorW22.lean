/- Walks by computing: what each function of the program that the laws reach gives for what it gets, as plain Lean, and that it is so; without a condition but those that stand in each theorem. -/
import Derived.Test.YtbhjjkekphpldaaGreatDoorW1
import Derived.Test.YtbhjjkekphpldaaGreatDoorW2
import Derived.Test.YtbhjjkekphpldaaGreatDoorW3
import Derived.Test.YtbhjjkekphpldaaGreatDoorW4
import Derived.Test.YtbhjjkekphpldaaGreatDoorW5
import Derived.Test.YtbhjjkekphpldaaGreatDoorW6
import Derived.Test.YtbhjjkekphpldaaGreatDoorW7
import Derived.Test.YtbhjjkekphpldaaGreatDoorW8
import Derived.Test.YtbhjjkekphpldaaGreatDoorW9
import Derived.Test.YtbhjjkekphpldaaGreatDoorW10
import Derived.Test.YtbhjjkekphpldaaGreatDoorW11
import Derived.Test.YtbhjjkekphpldaaGreatDoorW12
import Derived.Test.YtbhjjkekphpldaaGreatDoorW13
import Derived.Test.YtbhjjkekphpldaaGreatDoorW14
import Derived.Test.YtbhjjkekphpldaaGreatDoorW15
import Derived.Test.YtbhjjkekphpldaaGreatDoorW16
import Derived.Test.YtbhjjkekphpldaaGreatDoorW17
import Derived.Test.YtbhjjkekphpldaaGreatDoorW18
import Derived.Test.YtbhjjkekphpldaaGreatDoorW19
import Derived.Test.YtbhjjkekphpldaaGreatDoorW20
import Derived.Test.YtbhjjkekphpldaaGreatDoorW21
set_option linter.all false
namespace Go.Proofs.YtbhjjkekphpldaaGreatDoor
open Go
set_option maxRecDepth 100000
theorem afd:joinedFacts Tryz.prog 3 Tryz.f3 (OpenSpec.ofChange Rows.roadChecksSpec).bare Rows.roadChecksRow=true:=by
 unfold joinedFacts
 rw[jg1,jg2,jg3,jg4]
 kernel_rfl
theorem ans:Func.isInstance Tryz.prog Tryz.f3 Rows.roadChecksRow.origin Rows.roadChecksRow.targs:=of_decide_eq_true (by kernel_rfl)
theorem ap8:Func.isWrapper Tryz.prog Tryz.f3 Rows.roadChecksRow.wrapper Rows.roadChecksRow.mainSum:=by unfold Func.isWrapper;first|(rw[if_pos (by decide +kernel)];kernel_rfl)|(rw[if_neg (by decide +kernel)];exact⟨rfl,rfl⟩)
end Go.Proofs.YtbhjjkekphpldaaGreatDoor
