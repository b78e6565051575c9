/- Part 45 of a proof laid in parts, one behind the other; no condition of its own. -/
import Derived.Test.YtafoemfdchegkaaGreatDoorZ43
import Derived.Test.YtafoemfdchegkaaGreatDoorCards
import Derived.SevenTiedAt
import Derived.JoinedCond
import Derived.MakeChecks
import Derived.WalkKit
import Derived.ProofKit
import Derived.OpenShut
import Derived.ChangeOld
import Derived.Below
import Derived.Deep.DeepHandedRow
set_option linter.all false
section
namespace Go.Proofs.YtafoemfdchegkaaGreatDoor.gateNamesDone
open Go.ChangeShapes Go.WideShapes Go.ChangeAt Go.RowKit
set_option linter.unusedVariables false
set_option maxRecDepth 100000
theorem vars_named : Rows.gateNamesRow.named = Tryz.prog.varsNamed 3 := by
  unfold Program.varsNamed
  rw [clos_is]
  kernel_rfl
theorem plain_keys : Rows.gateNamesRow.plainKeys = Tryz.prog.plainKeys := by kernel_rfl
end Go.Proofs.YtafoemfdchegkaaGreatDoor.gateNamesDone
end
