/- Part 43 of a proof laid in parts, one behind the other; no condition of its own. -/
import Derived.Test.YtknjkljigmepjaaGreatDoorZ42
import Derived.Test.YtknjkljigmepjaaGreatDoorCards
import Derived.SevenTiedAt
import Derived.JoinedCond
import Derived.MakeChecks
import Derived.WalkKit
import Derived.ProofKit
import Derived.OpenShut
import Derived.ChangeOld
import Derived.Below
import Derived.Deep.DeepHandedRow
set_option linter.all false
section
namespace Go.Proofs.YtknjkljigmepjaaGreatDoor.taleNamesDone
open Go.ChangeShapes Go.WideShapes Go.ChangeAt Go.RowKit
set_option linter.unusedVariables false
set_option maxRecDepth 100000
theorem in_place : Rows.taleNamesRow.inPlace = Tryz.prog.inPlace 3 := by
  unfold Program.inPlace
  rw [clos_is]
  kernel_rfl
theorem unfollowed_ : Rows.taleNamesRow.unfollowed = Tryz.prog.unfollowed 3 := by
  unfold Program.unfollowed
  rw [clos_is]
  kernel_rfl
theorem recurses_ : Rows.taleNamesRow.recurses = Tryz.prog.recurses 3 := by
  unfold Program.recurses
  rw [← unfollowed_]
  rfl
end Go.Proofs.YtknjkljigmepjaaGreatDoor.taleNamesDone
end
