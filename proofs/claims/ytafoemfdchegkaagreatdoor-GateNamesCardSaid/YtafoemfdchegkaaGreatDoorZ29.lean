/- Part 29 of a proof laid in parts, one behind the other; no condition of its own. -/
import Derived.Test.YtafoemfdchegkaaGreatDoorZ28
set_option linter.all false
section
namespace Go.Proofs.YtafoemfdchegkaaGreatDoor
open Go.Proofs.YtafoemfdchegkaaGreatDoor.Clo Go.RowKit
set_option maxRecDepth 1000000
set_option maxHeartbeats 0
theorem prun0 : ((cmL pbm ((pcs.drop 0).take 9)).run ⟨hdM tab5 100, y0⟩ (mkTr pdt st0.slots) (.mk (mkMem st0.mem) (path DB st0.nx)) (stEnd pdt Tryz.f13.ntmps st1)).isSome = true := by kernel_rfl
end Go.Proofs.YtafoemfdchegkaaGreatDoor
end
