/- Walks by computing: what each function of the program that the laws reach gives for what it gets, as plain Lean, and that it is so; without a condition but those that stand in each theorem. -/
import Derived.Test.YtbhjjkekphpldaaGreatDoorCards
import Derived.JoinedCond
import Derived.KernelRfl
import Derived.Test.YtbhjjkekphpldaaGreatDoorW1
import Derived.Test.YtbhjjkekphpldaaGreatDoorW2
import Derived.Test.YtbhjjkekphpldaaGreatDoorW3
import Derived.Test.YtbhjjkekphpldaaGreatDoorW4
import Derived.Test.YtbhjjkekphpldaaGreatDoorW5
import Derived.Test.YtbhjjkekphpldaaGreatDoorW6
import Derived.Test.YtbhjjkekphpldaaGreatDoorW7
import Derived.Test.YtbhjjkekphpldaaGreatDoorW8
import Derived.Test.YtbhjjkekphpldaaGreatDoorW9
import Derived.Test.YtbhjjkekphpldaaGreatDoorW10
import Derived.Test.YtbhjjkekphpldaaGreatDoorW11
import Derived.Test.YtbhjjkekphpldaaGreatDoorW12
import Derived.Test.YtbhjjkekphpldaaGreatDoorW13
import Derived.Test.YtbhjjkekphpldaaGreatDoorW14
import Derived.Test.YtbhjjkekphpldaaGreatDoorW15
import Derived.Test.YtbhjjkekphpldaaGreatDoorW16
import Derived.Test.YtbhjjkekphpldaaGreatDoorW17
set_option linter.all false
namespace Go.Proofs.YtbhjjkekphpldaaGreatDoor
open Go
set_option maxRecDepth 100000
theorem jg1 : Tryz.prog.inPlace 3 = ["internal/bytealg.IndexByteString", "internal/bytealg.IndexString", "internal/bytealg.CountString", "internal/abi.NoEscape"] := by kernel_rfl
end Go.Proofs.YtbhjjkekphpldaaGreatDoor
