/- Part 34 of a proof laid in parts, one behind the other; no condition of its own. -/
import Derived.Test.YtknjkljigmepjaaGreatDoorZ33
set_option linter.all false
section
namespace Go.Proofs.YtknjkljigmepjaaGreatDoor
open Go.Proofs.YtknjkljigmepjaaGreatDoor.Clo Go.RowKit
set_option maxRecDepth 1000000
set_option maxHeartbeats 0
theorem tale_run : runTrue tab7 100 3 = true := by kernel_rfl
theorem tale_closed (w : World) (hw : 9 ≤ w.heap.size) (ht : TabsR w.heap.size w) : Calls Tryz.prog 3 #[] w fun e w' => e = .returned (.bool true) ∧ Below w.heap.size w w' :=
  calls_true (by kernel_rfl) Tryz.call3 tale_run w hw ht
end Go.Proofs.YtknjkljigmepjaaGreatDoor
end
