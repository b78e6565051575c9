/- Part 45 of a proof laid in parts, one behind the other; no condition of its own. -/
import Derived.Test.YtafoemfdchegkaaGreatDoorRows
import Derived.Test.YtafoemfdchegkaaGreatDoorCards
import Derived.SevenTiedAt
import Derived.JoinedCond
import Derived.MakeChecks
import Derived.WalkKit
import Derived.ProofKit
import Derived.OpenShut
import Derived.ChangeOld
import Derived.Below
import Derived.Deep.DeepHandedRow
set_option linter.all false
section
namespace Go.Proofs.YtafoemfdchegkaaGreatDoor.gateNamesDone
open Go.ChangeShapes Go.WideShapes Go.ChangeAt Go.RowKit
set_option linter.unusedVariables false
set_option maxRecDepth 100000
theorem inst : Tryz.f3.isInstance Tryz.prog Rows.gateNamesRow.origin Rows.gateNamesRow.targs := of_decide_eq_true (by kernel_rfl)
end Go.Proofs.YtafoemfdchegkaaGreatDoor.gateNamesDone
end
section
namespace Go.Proofs.YtafoemfdchegkaaGreatDoor.gateNamesDone
open Go.ChangeShapes Go.WideShapes Go.ChangeAt Go.RowKit
set_option linter.unusedVariables false
set_option maxRecDepth 100000
theorem wrap : Tryz.f3.isWrapper Tryz.prog Rows.gateNamesRow.wrapper Rows.gateNamesRow.mainSum := by unfold Func.isWrapper; first | (rw [if_pos (by decide +kernel)]; kernel_rfl) | (rw [if_neg (by decide +kernel)]; exact ⟨rfl, rfl⟩)
end Go.Proofs.YtafoemfdchegkaaGreatDoor.gateNamesDone
end
section
namespace Go.Proofs.YtafoemfdchegkaaGreatDoor.gateNamesDone
open Go.ChangeShapes Go.WideShapes Go.ChangeAt Go.RowKit
set_option linter.unusedVariables false
set_option maxRecDepth 100000
theorem wf_ : Rows.gateNamesRow.wfByText (OpenSpec.ofChange Rows.gateNamesSpec) = true := by kernel_rfl
end Go.Proofs.YtafoemfdchegkaaGreatDoor.gateNamesDone
end
section
namespace Go.Proofs.YtafoemfdchegkaaGreatDoor.gateNamesDone
open Go.ChangeShapes Go.WideShapes Go.ChangeAt Go.RowKit
set_option linter.unusedVariables false
set_option maxRecDepth 100000
theorem main_ : Tryz.pinned.checked.prog.mainIs = some (true, "7c0830330b333ed1f679b50cdae349b40b3e06493172178c2633f3673de5209b".toList) := by kernel_rfl
end Go.Proofs.YtafoemfdchegkaaGreatDoor.gateNamesDone
end
