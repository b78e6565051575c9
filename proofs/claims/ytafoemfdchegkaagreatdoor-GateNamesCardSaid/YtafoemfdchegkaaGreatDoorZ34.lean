/- Part 34 of a proof laid in parts, one behind the other; no condition of its own. -/
import Derived.Test.YtafoemfdchegkaaGreatDoorZ32
set_option linter.all false
section
namespace Go.Proofs.YtafoemfdchegkaaGreatDoor
open Go.Proofs.YtafoemfdchegkaaGreatDoor.Clo Go.RowKit
set_option maxRecDepth 1000000
set_option maxHeartbeats 0
theorem prun3 : ((cmL pbm (pcs.drop 11)).run ⟨hdM tab5 100, y0⟩ (mkTr pdt st3.slots) (.mk (mkMem st3.mem) (path DB st3.nx)) (stTrue Tryz.prog pdt Tryz.f13.ntmps Tryz.f13.results.toList)).isSome = true := by kernel_rfl
end Go.Proofs.YtafoemfdchegkaaGreatDoor
end
