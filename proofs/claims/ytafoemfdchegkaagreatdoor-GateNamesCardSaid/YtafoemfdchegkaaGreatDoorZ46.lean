/- Part 46 of a proof laid in parts, one behind the other; no condition of its own. -/
import Derived.Test.YtafoemfdchegkaaGreatDoorZ02
import Derived.Test.YtafoemfdchegkaaGreatDoorZ44
import Derived.Test.YtafoemfdchegkaaGreatDoorZ45
import Derived.Test.YtafoemfdchegkaaGreatDoorCards
import Derived.SevenTiedAt
import Derived.JoinedCond
import Derived.MakeChecks
import Derived.WalkKit
import Derived.ProofKit
import Derived.OpenShut
import Derived.ChangeOld
import Derived.Below
import Derived.Deep.DeepHandedRow
set_option linter.all false
section
namespace Go.Proofs.YtafoemfdchegkaaGreatDoor.gateNamesDone
open Go.ChangeShapes Go.WideShapes Go.ChangeAt Go.RowKit
set_option linter.unusedVariables false
set_option maxRecDepth 100000
theorem closed : joinedFacts Tryz.prog 3 Tryz.f3 (OpenSpec.ofChange Rows.gateNamesSpec).bare Rows.gateNamesRow = true := by
  delta joinedFacts
  rewrite [may_enter, lifts_final, make_cut, laidOut, maps_rowed, stops_heard, stops_none, stopKnobs_none, ← in_place, ← unfollowed_, ← recurses_, ← vars_named, ← plain_keys]
  kernel_rfl
end Go.Proofs.YtafoemfdchegkaaGreatDoor.gateNamesDone
end
