/- Part 45 of a proof laid in parts, one behind the other; no condition of its own. -/
import Derived.Test.YtobaebpmdimljaaGreatDoorZ44
set_option linter.all false
section
namespace Go.Proofs.YtobaebpmdimljaaGreatDoor
open Go.Proofs.YtobaebpmdimljaaGreatDoor.Clo Go.RowKit
set_option maxRecDepth 1000000
set_option maxHeartbeats 0
theorem prun1 : ((cmL pbm ((pcs.drop 5).take 1)).run ⟨hdM tab25 100, y0⟩ (mkTr pdt st1.slots) (.mk (mkMem st1.mem) (path DB st1.nx)) (stEnd pdt Tryz.f3.ntmps st2)).isSome = true := by kernel_rfl
end Go.Proofs.YtobaebpmdimljaaGreatDoor
end
