/- Walks by computing: what each function of the program that the laws reach gives for what it gets, as plain Lean, and that it is so; without a condition but those that stand in each theorem. -/
import Derived.Test.YtbhjjkekphpldaaGreatDoorW1
import Derived.Test.YtbhjjkekphpldaaGreatDoorW2
import Derived.Test.YtbhjjkekphpldaaGreatDoorW3
import Derived.Test.YtbhjjkekphpldaaGreatDoorW4
import Derived.Test.YtbhjjkekphpldaaGreatDoorW5
import Derived.Test.YtbhjjkekphpldaaGreatDoorW6
import Derived.Test.YtbhjjkekphpldaaGreatDoorW7
import Derived.Test.YtbhjjkekphpldaaGreatDoorW8
import Derived.Test.YtbhjjkekphpldaaGreatDoorW9
import Derived.Test.YtbhjjkekphpldaaGreatDoorW10
import Derived.Test.YtbhjjkekphpldaaGreatDoorW11
import Derived.Test.YtbhjjkekphpldaaGreatDoorW12
set_option linter.all false
namespace Go.Proofs.cZ
open Go Go.Ab
open Go.Proofs.YtbhjjkekphpldaaGreatDoorN (ae)
set_option linter.all false
set_option maxRecDepth 100000
noncomputable section
theorem kn0:HI z0 [115,104,117,116,32,50,48,48,48] z0 0 [115,104,117,116,32,48,32,50,32,116,104,105,110]:=by unfold HI;kernel_rfl
theorem kn4:HI z0 [114,97,100,97,114,32,49,32,52,48,48,32,52,50,48] z1 0 [111,107]:=by unfold HI;kernel_rfl
end
end Go.Proofs.cZ
