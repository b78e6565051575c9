/- Part 44 of a proof laid in parts, one behind the other; no condition of its own. -/
import Derived.Test.YtafoemfdchegkaaGreatDoorZ43
import Derived.Test.YtafoemfdchegkaaGreatDoorCards
import Derived.SevenTiedAt
import Derived.JoinedCond
import Derived.MakeChecks
import Derived.WalkKit
import Derived.ProofKit
import Derived.OpenShut
import Derived.ChangeOld
import Derived.Below
import Derived.Deep.DeepHandedRow
set_option linter.all false
section
namespace Go.Proofs.YtafoemfdchegkaaGreatDoor.gateNamesDone
open Go.ChangeShapes Go.WideShapes Go.ChangeAt Go.RowKit
set_option linter.unusedVariables false
set_option maxRecDepth 100000
theorem in_place : Rows.gateNamesRow.inPlace = Tryz.prog.inPlace 3 := by
  unfold Program.inPlace
  rw [clos_is]
  kernel_rfl
theorem unfollowed_ : Rows.gateNamesRow.unfollowed = Tryz.prog.unfollowed 3 := by
  unfold Program.unfollowed
  rw [clos_is]
  kernel_rfl
theorem recurses_ : Rows.gateNamesRow.recurses = Tryz.prog.recurses 3 := by
  unfold Program.recurses
  rw [← unfollowed_]
  rfl
end Go.Proofs.YtafoemfdchegkaaGreatDoor.gateNamesDone
end
