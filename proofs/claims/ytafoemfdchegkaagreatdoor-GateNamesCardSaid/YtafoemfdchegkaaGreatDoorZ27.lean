/- Part 27 of a proof laid in parts, one behind the other; no condition of its own. -/
import Derived.Test.YtafoemfdchegkaaGreatDoorZ26
import Derived.Test.YtafoemfdchegkaaGreatDoorZ10
set_option linter.all false
section
namespace Go.Proofs.YtafoemfdchegkaaGreatDoor
open Go.Proofs.YtafoemfdchegkaaGreatDoor.Clo Go.RowKit
set_option maxRecDepth 1000000
set_option maxHeartbeats 0
noncomputable def pbody : Code := match Tryz.f13.body with | some c => c | none => .skip
noncomputable def pcs : List Code := flatC pbody
noncomputable def pmask : Nat := loOf Tryz.f13 pbody
noncomputable def plo (d : Nat) : Bool := !pmask.testBit d
noncomputable def pdt : Nat := digs Tryz.f13.ntmps
noncomputable def pbm (c : Code) : CM := bodyM Tryz.prog 9 100000 Tryz.f13 pdt plo c
noncomputable def pgoal (l : List Code) (S : St) : Prop := Goal Tryz.prog 9 pdt Tryz.f13.ntmps plo (fun a w => (results Tryz.f13 a.tmps).run Tryz.prog w = .ok (.bool true) w) l S
theorem pbm_ok (c : Code) : CMOk Tryz.prog 9 pdt Tryz.f13.ntmps plo c (pbm c) := bodyM_ok mixed_ c
end Go.Proofs.YtafoemfdchegkaaGreatDoor
end
