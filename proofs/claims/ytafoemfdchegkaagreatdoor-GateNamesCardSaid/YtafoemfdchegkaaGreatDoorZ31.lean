/- Part 31 of a proof laid in parts, one behind the other; no condition of its own. -/
import Derived.Test.YtafoemfdchegkaaGreatDoorZ28
import Derived.Test.YtafoemfdchegkaaGreatDoorZ30
set_option linter.all false
section
namespace Go.Proofs.YtafoemfdchegkaaGreatDoor
open Go.Proofs.YtafoemfdchegkaaGreatDoor.Clo Go.RowKit
set_option maxRecDepth 1000000
set_option maxHeartbeats 0
theorem prun1 : ((cmL pbm ((pcs.drop 9).take 1)).run ⟨hdM tab5 100, y0⟩ (mkTr pdt st1.slots) (.mk (mkMem st1.mem) (path DB st1.nx)) (stEnd pdt Tryz.f13.ntmps st2)).isSome = true := by kernel_rfl
end Go.Proofs.YtafoemfdchegkaaGreatDoor
end
