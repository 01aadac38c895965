/- Walks by computing: what each function of the program that the laws reach gives for what it gets, as plain Lean, and that it is so; without a condition but those that stand in each theorem. -/
import Derived.Test.YtbhjjkekphpldaaGreatDoorW1
import Derived.Test.YtbhjjkekphpldaaGreatDoorW2
import Derived.Test.YtbhjjkekphpldaaGreatDoorW3
import Derived.Test.YtbhjjkekphpldaaGreatDoorW4
import Derived.Test.YtbhjjkekphpldaaGreatDoorW5
import Derived.Test.YtbhjjkekphpldaaGreatDoorW6
import Derived.Test.YtbhjjkekphpldaaGreatDoorW7
import Derived.Test.YtbhjjkekphpldaaGreatDoorW8
import Derived.Test.YtbhjjkekphpldaaGreatDoorW9
import Derived.Test.YtbhjjkekphpldaaGreatDoorW10
import Derived.Test.YtbhjjkekphpldaaGreatDoorW11
set_option linter.all false
namespace Go.Proofs.Rd10
open Go Go.Ab
open Go.Proofs.YtbhjjkekphpldaaGreatDoor (iseat)
set_option linter.all false
set_option maxRecDepth 100000
noncomputable section
theorem kn5:KnP z1 [108,97,115,116,115,32,49,32,50,48,48,48] z1 0 [108,97,115,116,115,32,50,52]:=by unfold KnP;kernel_rfl
end
end Go.Proofs.Rd10
