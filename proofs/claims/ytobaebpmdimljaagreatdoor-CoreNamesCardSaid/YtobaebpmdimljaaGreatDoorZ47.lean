/- Part 47 of a proof laid in parts, one behind the other; no condition of its own. -/
import Derived.Test.YtobaebpmdimljaaGreatDoorZ46
set_option linter.all false
section
namespace Go.Proofs.YtobaebpmdimljaaGreatDoor
open Go.Proofs.YtobaebpmdimljaaGreatDoor.Clo Go.RowKit
set_option maxRecDepth 1000000
set_option maxHeartbeats 0
theorem prun3 : ((cmL pbm ((pcs.drop 7).take 1)).run ⟨hdM tab25 100, y0⟩ (mkTr pdt st3.slots) (.mk (mkMem st3.mem) (path DB st3.nx)) (stEnd pdt Tryz.f3.ntmps st4)).isSome = true := by kernel_rfl
end Go.Proofs.YtobaebpmdimljaaGreatDoor
end
