/- Part 45 of a proof laid in parts, one behind the other; no condition of its own. -/
import Derived.Test.YtknjkljigmepjaaGreatDoorZ02
import Derived.Test.YtknjkljigmepjaaGreatDoorZ43
import Derived.Test.YtknjkljigmepjaaGreatDoorZ44
import Derived.Test.YtknjkljigmepjaaGreatDoorCards
import Derived.SevenTiedAt
import Derived.JoinedCond
import Derived.MakeChecks
import Derived.WalkKit
import Derived.ProofKit
import Derived.OpenShut
import Derived.ChangeOld
import Derived.Below
import Derived.Deep.DeepHandedRow
set_option linter.all false
section
namespace Go.Proofs.YtknjkljigmepjaaGreatDoor.taleNamesDone
open Go.ChangeShapes Go.WideShapes Go.ChangeAt Go.RowKit
set_option linter.unusedVariables false
set_option maxRecDepth 100000
theorem closed : joinedFacts Tryz.prog 3 Tryz.f3 (OpenSpec.ofChange Rows.taleNamesSpec).bare Rows.taleNamesRow = true := by
  delta joinedFacts
  rewrite [may_enter, lifts_final, make_cut, laidOut, maps_rowed, stops_heard, stops_none, stopKnobs_none, ← in_place, ← unfollowed_, ← recurses_, ← vars_named, ← plain_keys]
  kernel_rfl
end Go.Proofs.YtknjkljigmepjaaGreatDoor.taleNamesDone
end
