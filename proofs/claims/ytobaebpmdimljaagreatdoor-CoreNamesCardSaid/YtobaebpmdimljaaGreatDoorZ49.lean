/- Part 49 of a proof laid in parts, one behind the other; no condition of its own. -/
import Derived.Test.YtobaebpmdimljaaGreatDoorZ48
set_option linter.all false
section
namespace Go.Proofs.YtobaebpmdimljaaGreatDoor
open Go.Proofs.YtobaebpmdimljaaGreatDoor.Clo Go.RowKit
set_option maxRecDepth 1000000
set_option maxHeartbeats 0
theorem prun5 : ((cmL pbm ((pcs.drop 10).take 3)).run ⟨hdM tab25 100, y0⟩ (mkTr pdt st5.slots) (.mk (mkMem st5.mem) (path DB st5.nx)) (stEnd pdt Tryz.f3.ntmps st6)).isSome = true := by kernel_rfl
end Go.Proofs.YtobaebpmdimljaaGreatDoor
end
