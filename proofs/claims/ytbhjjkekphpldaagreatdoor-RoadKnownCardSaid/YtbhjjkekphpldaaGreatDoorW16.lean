/- Walks by computing: what each function of the program that the laws reach gives for what it gets, as plain Lean, and that it is so; without a condition but those that stand in each theorem. -/
import Derived.Test.YtbhjjkekphpldaaGreatDoorW1
import Derived.Test.YtbhjjkekphpldaaGreatDoorW2
import Derived.Test.YtbhjjkekphpldaaGreatDoorW3
import Derived.Test.YtbhjjkekphpldaaGreatDoorW4
import Derived.Test.YtbhjjkekphpldaaGreatDoorW5
import Derived.Test.YtbhjjkekphpldaaGreatDoorW6
import Derived.Test.YtbhjjkekphpldaaGreatDoorW7
import Derived.Test.YtbhjjkekphpldaaGreatDoorW8
import Derived.Test.YtbhjjkekphpldaaGreatDoorW9
import Derived.Test.YtbhjjkekphpldaaGreatDoorW10
import Derived.Test.YtbhjjkekphpldaaGreatDoorW11
import Derived.Test.YtbhjjkekphpldaaGreatDoorW12
import Derived.Test.YtbhjjkekphpldaaGreatDoorW13
import Derived.Test.YtbhjjkekphpldaaGreatDoorW14
import Derived.Test.YtbhjjkekphpldaaGreatDoorW15
set_option linter.all false
namespace Go.Proofs.Rd10
open Go Go.Ab
open Go.Proofs.YtbhjjkekphpldaaGreatDoor (iseat)
set_option linter.all false
set_option maxRecDepth 100000
noncomputable section
theorem kn19:KnP z5 [102,117,101,108] z5 0 [108,111,115,116,32,48,32,49,48,48,32,114,97,99,107,32,111,112,101,110,32,99,97,109,112,32,111,112,101,110]:=by unfold KnP;kernel_rfl
theorem kn20:KnP z5 [114,101,97,99,104,32,48] z5 0 [115,117,114,101]:=by unfold KnP;kernel_rfl
theorem kn21:KnP z5 [114,101,97,99,104,32,49] z5 7 []:=by unfold KnP;kernel_rfl
theorem kn22:KnP z5 [114,101,97,99,104] z5 3 []:=by unfold KnP;kernel_rfl
theorem kn23:KnP z5 [99,114,97,99,107,32,50,32,50,32,49] z6 0 [111,107]:=by unfold KnP;kernel_rfl
theorem kn24:KnP z6 [115,104,117,116,32,50,48,48,48] z6 0 [115,104,117,116,32,50,32,50,32,109,97,114,107]:=by unfold KnP;kernel_rfl
end
end Go.Proofs.Rd10
