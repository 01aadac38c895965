/- Walks by computing: what each function of the program that the laws reach gives for what it gets, as plain Lean, and that it is so; without a condition but those that stand in each theorem. -/
import Derived.Test.YtbhjjkekphpldaaGreatDoorW1
import Derived.Test.YtbhjjkekphpldaaGreatDoorW2
import Derived.Test.YtbhjjkekphpldaaGreatDoorW3
import Derived.Test.YtbhjjkekphpldaaGreatDoorW4
import Derived.Test.YtbhjjkekphpldaaGreatDoorW5
import Derived.Test.YtbhjjkekphpldaaGreatDoorW6
import Derived.Test.YtbhjjkekphpldaaGreatDoorW7
import Derived.Test.YtbhjjkekphpldaaGreatDoorW8
import Derived.Test.YtbhjjkekphpldaaGreatDoorW9
import Derived.Test.YtbhjjkekphpldaaGreatDoorW10
import Derived.Test.YtbhjjkekphpldaaGreatDoorW11
import Derived.Test.YtbhjjkekphpldaaGreatDoorW12
import Derived.Test.YtbhjjkekphpldaaGreatDoorW13
set_option linter.all false
namespace Go.Proofs.Rd10
open Go Go.Ab
open Go.Proofs.YtbhjjkekphpldaaGreatDoor (iseat)
set_option linter.all false
set_option maxRecDepth 100000
noncomputable section
theorem kn7:KnP z2 [103,111,32,100,111,119,110,32,98,111,98,32,49,48,48,48] z2 0 [108,97,116,101,114,32,51]:=by unfold KnP;kernel_rfl
theorem kn8:KnP z2 [103,111,32,117,112,32,97,110,110,32,49,48,48,48] z2 12 []:=by unfold KnP;kernel_rfl
theorem kn9:KnP z2 [103,111,32,117,112,32,99,97,116,32,49,48,48,48] z2 7 []:=by unfold KnP;kernel_rfl
theorem kn10:KnP z2 [103,111,32,117,112,32,98,111,98,32,54,48,48,48] z2 14 []:=by unfold KnP;kernel_rfl
theorem kn11:KnP z2 [119,97,105,116,32,51] z3 0 [111,107]:=by unfold KnP;kernel_rfl
end
end Go.Proofs.Rd10
