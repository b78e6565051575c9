/- Part 44 of a proof laid in parts, one behind the other; no condition of its own. -/
import Derived.Test.YtknjkljigmepjaaGreatDoorZ42
import Derived.Test.YtknjkljigmepjaaGreatDoorCards
import Derived.SevenTiedAt
import Derived.JoinedCond
import Derived.MakeChecks
import Derived.WalkKit
import Derived.ProofKit
import Derived.OpenShut
import Derived.ChangeOld
import Derived.Below
import Derived.Deep.DeepHandedRow
set_option linter.all false
section
namespace Go.Proofs.YtknjkljigmepjaaGreatDoor.taleNamesDone
open Go.ChangeShapes Go.WideShapes Go.ChangeAt Go.RowKit
set_option linter.unusedVariables false
set_option maxRecDepth 100000
theorem vars_named : Rows.taleNamesRow.named = Tryz.prog.varsNamed 3 := by
  unfold Program.varsNamed
  rw [clos_is]
  kernel_rfl
theorem plain_keys : Rows.taleNamesRow.plainKeys = Tryz.prog.plainKeys := by kernel_rfl
end Go.Proofs.YtknjkljigmepjaaGreatDoor.taleNamesDone
end
