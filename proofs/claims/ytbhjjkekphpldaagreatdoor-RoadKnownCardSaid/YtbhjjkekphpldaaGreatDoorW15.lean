/- Walks by computing: what each function of the program that the laws reach gives for what it gets, as plain Lean, and that it is so; without a condition but those that stand in each theorem. -/
import Derived.Test.YtbhjjkekphpldaaGreatDoorW1
import Derived.Test.YtbhjjkekphpldaaGreatDoorW2
import Derived.Test.YtbhjjkekphpldaaGreatDoorW3
import Derived.Test.YtbhjjkekphpldaaGreatDoorW4
import Derived.Test.YtbhjjkekphpldaaGreatDoorW5
import Derived.Test.YtbhjjkekphpldaaGreatDoorW6
import Derived.Test.YtbhjjkekphpldaaGreatDoorW7
import Derived.Test.YtbhjjkekphpldaaGreatDoorW8
import Derived.Test.YtbhjjkekphpldaaGreatDoorW9
import Derived.Test.YtbhjjkekphpldaaGreatDoorW10
import Derived.Test.YtbhjjkekphpldaaGreatDoorW11
import Derived.Test.YtbhjjkekphpldaaGreatDoorW12
import Derived.Test.YtbhjjkekphpldaaGreatDoorW13
import Derived.Test.YtbhjjkekphpldaaGreatDoorW14
set_option linter.all false
namespace Go.Proofs.Rd10
open Go Go.Ab
open Go.Proofs.YtbhjjkekphpldaaGreatDoor (iseat)
set_option linter.all false
set_option maxRecDepth 100000
noncomputable section
theorem kn12:KnP z3 [103,111,32,100,111,119,110,32,98,111,98,32,49,48,48,48] z4 0 [103,111,32,49]:=by unfold KnP;kernel_rfl
theorem kn13:KnP z4 [115,116,111,114,109,32,50] z4 0 [99,97,117,103,104,116,32,115,117,114,101]:=by unfold KnP;kernel_rfl
theorem kn14:KnP z4 [98,114,101,97,107,117,112,32,54,32,57] z4 0 [111,112,101,110]:=by unfold KnP;kernel_rfl
theorem kn15:KnP z4 [98,114,101,97,107,117,112,32,55,32,57] z4 0 [115,117,114,101]:=by unfold KnP;kernel_rfl
theorem kn16:KnP z4 [110,101,120,116,32,97,110,110,32,53,56] z4 0 [110,101,120,116,32,51,51]:=by unfold KnP;kernel_rfl
theorem kn17:KnP z4 [110,101,120,116,32,97,110,110,32,53,55] z4 0 [110,101,120,116,32,51]:=by unfold KnP;kernel_rfl
theorem kn18:KnP z4 [109,111,118,101,32,48,32,49,32,53,48,32,54,48] z5 0 [111,107]:=by unfold KnP;kernel_rfl
end
end Go.Proofs.Rd10
