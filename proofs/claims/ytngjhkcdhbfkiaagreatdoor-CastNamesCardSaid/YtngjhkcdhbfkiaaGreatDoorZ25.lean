/- Part 25 of a proof laid in parts, one behind the other; no condition of its own. -/
import Derived.Test.YtngjhkcdhbfkiaaGreatDoorZ24
set_option linter.all false
section
namespace Go.Proofs.YtngjhkcdhbfkiaaGreatDoor
open Go.Proofs.YtngjhkcdhbfkiaaGreatDoor.Clo Go.RowKit
set_option maxRecDepth 100000
set_option maxHeartbeats 0
theorem run_ : runTrue tab21 100 3 = true := by kernel_rfl
theorem closed_any (w : World) (hw : 9 ≤ w.heap.size) : Calls Tryz.prog 3 #[] w fun e w' => e = .returned (.bool true) ∧ Below w.heap.size w w' := calls_true (by kernel_rfl) Tryz.call3 run_ w hw
end Go.Proofs.YtngjhkcdhbfkiaaGreatDoor
end
