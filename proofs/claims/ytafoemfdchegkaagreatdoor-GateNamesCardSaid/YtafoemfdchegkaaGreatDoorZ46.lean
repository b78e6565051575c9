/- Part 46 of a proof laid in parts, one behind the other; no condition of its own. -/
import Derived.Test.YtafoemfdchegkaaGreatDoorRows
import Derived.Test.YtafoemfdchegkaaGreatDoorCards
import Derived.SevenTiedAt
import Derived.JoinedCond
import Derived.MakeChecks
import Derived.WalkKit
import Derived.ProofKit
import Derived.OpenShut
import Derived.ChangeOld
import Derived.Below
import Derived.Deep.DeepHandedRow
set_option linter.all false
section
namespace Go.Proofs.YtafoemfdchegkaaGreatDoor.gateNamesDone
open Go.ChangeShapes Go.WideShapes Go.ChangeAt Go.RowKit
set_option linter.unusedVariables false
set_option maxRecDepth 100000
theorem named_ : Tryz.prog.funcNamed "tidewaiter/tidewaiterlaw30.GateNames" = some 3 := by kernel_rfl
end Go.Proofs.YtafoemfdchegkaaGreatDoor.gateNamesDone
end
