/- Walks by computing: what each function of the program that the laws reach gives for what it gets, as plain Lean, and that it is so; without a condition but those that stand in each theorem. -/
import Derived.Test.YtbhjjkekphpldaaGreatDoorW1
import Derived.Test.YtbhjjkekphpldaaGreatDoorW2
import Derived.Test.YtbhjjkekphpldaaGreatDoorW3
import Derived.Test.YtbhjjkekphpldaaGreatDoorW4
import Derived.Test.YtbhjjkekphpldaaGreatDoorW5
import Derived.Test.YtbhjjkekphpldaaGreatDoorW6
import Derived.Test.YtbhjjkekphpldaaGreatDoorW7
import Derived.Test.YtbhjjkekphpldaaGreatDoorW8
import Derived.Test.YtbhjjkekphpldaaGreatDoorW9
import Derived.Test.YtbhjjkekphpldaaGreatDoorW10
import Derived.Test.YtbhjjkekphpldaaGreatDoorW11
import Derived.Test.YtbhjjkekphpldaaGreatDoorW12
import Derived.Test.YtbhjjkekphpldaaGreatDoorW13
set_option linter.all false
namespace Go.Proofs.cZ
open Go Go.Ab
open Go.Proofs.YtbhjjkekphpldaaGreatDoorN (ae)
set_option linter.all false
set_option maxRecDepth 100000
noncomputable section
theorem kn6:HI z1 [103,111,32,117,112,32,97,110,110,32,49,48,48,48,32,49,48,48,48] z2 0 [103,111,32,49]:=by unfold HI;kernel_rfl
end
end Go.Proofs.cZ
