/- Part 44 of a proof laid in parts, one behind the other; no condition of its own. -/
import Derived.Test.YtobaebpmdimljaaGreatDoorZ43
import Derived.Test.YtobaebpmdimljaaGreatDoorZ16
set_option linter.all false
section
namespace Go.Proofs.YtobaebpmdimljaaGreatDoor
open Go.Proofs.YtobaebpmdimljaaGreatDoor.Clo Go.RowKit
set_option maxRecDepth 1000000
set_option maxHeartbeats 0
noncomputable def pbody : Code := match Tryz.f3.body with | some c => c | none => .skip
noncomputable def pcs : List Code := flatC pbody
noncomputable def pmask : Nat := loOf Tryz.f3 pbody
noncomputable def plo (d : Nat) : Bool := !pmask.testBit d
noncomputable def pdt : Nat := digs Tryz.f3.ntmps
noncomputable def pbm (c : Code) : CM := bodyM Tryz.prog 9 100000 Tryz.f3 pdt plo c
noncomputable def pgoal (l : List Code) (S : St) : Prop := Goal Tryz.prog 9 pdt Tryz.f3.ntmps plo (fun a w => (results Tryz.f3 a.tmps).run Tryz.prog w = .ok (.bool true) w) l S
theorem pbm_ok (c : Code) : CMOk Tryz.prog 9 pdt Tryz.f3.ntmps plo c (pbm c) := bodyM_ok mixed_ c
end Go.Proofs.YtobaebpmdimljaaGreatDoor
end
section
namespace Go.Proofs.YtobaebpmdimljaaGreatDoor
open Go.Proofs.YtobaebpmdimljaaGreatDoor.Clo Go.RowKit
set_option maxRecDepth 1000000
set_option maxHeartbeats 0
noncomputable def st0 : St := ⟨[], [], 9⟩
end Go.Proofs.YtobaebpmdimljaaGreatDoor
end
section
namespace Go.Proofs.YtobaebpmdimljaaGreatDoor
open Go.Proofs.YtobaebpmdimljaaGreatDoor.Clo Go.RowKit
set_option maxRecDepth 1000000
set_option maxHeartbeats 0
noncomputable def st1 : St := ⟨[(0, .b false), (1, .p (path DB 3191) 0), (5, .i .i64 6), (8, .i .i64 220), (9, .p (path DB 4904) 0), (10, .b true)], [(4551, .row 32 false (some 0) false (.nil)), (4547, .row 32 false (some 0) false (.nil)), (4537, .row 49 true (some 0) false (.cons (.s [117,64,97,47,120]) (.cons (.b true) (.cons (.i .i64 0) (.cons (.sl (path DB 4547) 0 0 (some 0)) (.cons (.b true) (.cons (.sn) (.cons (.s [118,64,97,47,121]) (.cons (.b true) (.cons (.i .i64 0) (.cons (.sl (path DB 4551) 0 0 (some 0)) (.cons (.b false) (.cons (.sn) (.nil)))))))))))))), (4535, .row 69 true (some 0) false (.cons (.s [117,64,97]) (.cons (.sn) (.cons (.i .i64 0) (.cons (.s [118,64,97]) (.cons (.sn) (.cons (.i .i64 0) (.nil)))))))), (4904, .row 25 false (some 0) false (.cons (.sg (path DB 4535) 0 2 3) (.cons (.sg (path DB 4537) 0 2 6) (.cons (.i .i64 0) (.nil))))), (3190, .row 32 false (some 0) false (.nil)), (3186, .row 32 false (some 0) false (.nil)), (3176, .row 49 true (some 0) false (.cons (.s [117,64,97,47,120]) (.cons (.b true) (.cons (.i .i64 0) (.cons (.sl (path DB 3186) 0 0 (some 0)) (.cons (.b false) (.cons (.sn) (.cons (.s [118,64,97,47,121]) (.cons (.b true) (.cons (.i .i64 0) (.cons (.sl (path DB 3190) 0 0 (some 0)) (.cons (.b false) (.cons (.sn) (.nil)))))))))))))), (3174, .row 69 true (some 0) false (.cons (.s [117,64,97]) (.cons (.sn) (.cons (.i .i64 0) (.cons (.s [118,64,97]) (.cons (.sn) (.cons (.i .i64 0) (.nil)))))))), (3191, .row 25 false (some 0) false (.cons (.sg (path DB 3174) 0 2 3) (.cons (.sg (path DB 3176) 0 2 6) (.cons (.i .i64 0) (.nil)))))], 4905⟩
end Go.Proofs.YtobaebpmdimljaaGreatDoor
end
section
namespace Go.Proofs.YtobaebpmdimljaaGreatDoor
open Go.Proofs.YtobaebpmdimljaaGreatDoor.Clo Go.RowKit
set_option maxRecDepth 1000000
set_option maxHeartbeats 0
theorem prun0 : ((cmL pbm ((pcs.drop 0).take 5)).run ⟨hdM tab25 100, y0⟩ (mkTr pdt st0.slots) (.mk (mkMem st0.mem) (path DB st0.nx)) (stEnd pdt Tryz.f3.ntmps st1)).isSome = true := by kernel_rfl
end Go.Proofs.YtobaebpmdimljaaGreatDoor
end
section
namespace Go.Proofs.YtobaebpmdimljaaGreatDoor
open Go.Proofs.YtobaebpmdimljaaGreatDoor.Clo Go.RowKit
set_option maxRecDepth 1000000
set_option maxHeartbeats 0
noncomputable def st2 : St := ⟨[(0, .b false), (1, .p (path DB 3191) 0), (5, .i .i64 6), (8, .i .i64 220), (9, .p (path DB 4904) 0), (10, .b true), (11, .b true)], [(6411, .row 32 false (some 0) false (.nil)), (6407, .row 32 false (some 0) false (.nil)), (6392, .row 49 true (some 0) false (.cons (.s [117,64,97,47,120]) (.cons (.b true) (.cons (.i .i64 0) (.cons (.sl (path DB 6407) 0 0 (some 0)) (.cons (.b true) (.cons (.sn) (.cons (.s [118,64,97,47,121]) (.cons (.b true) (.cons (.i .i64 0) (.cons (.sl (path DB 6411) 0 0 (some 0)) (.cons (.b false) (.cons (.sn) (.nil)))))))))))))), (6397, .row 123 true (some 0) false (.cons (.s [118,64,97]) (.cons (.s []) (.cons (.sn) (.cons (.b false) (.cons (.b false) (.cons (.b false) (.cons (.b false) (.cons (.b true) (.nil)))))))))), (6390, .row 69 true (some 0) false (.cons (.s [117,64,97]) (.cons (.sg (path DB 6397) 0 1 8) (.cons (.i .i64 1) (.cons (.s [118,64,97]) (.cons (.sn) (.cons (.i .i64 0) (.nil)))))))), (4904, .row 25 false (some 0) false (.cons (.sg (path DB 6390) 0 2 3) (.cons (.sg (path DB 6392) 0 2 6) (.cons (.i .i64 0) (.nil))))), (3190, .row 32 false (some 0) false (.nil)), (3186, .row 32 false (some 0) false (.nil)), (3176, .row 49 true (some 0) false (.cons (.s [117,64,97,47,120]) (.cons (.b true) (.cons (.i .i64 0) (.cons (.sl (path DB 3186) 0 0 (some 0)) (.cons (.b false) (.cons (.sn) (.cons (.s [118,64,97,47,121]) (.cons (.b true) (.cons (.i .i64 0) (.cons (.sl (path DB 3190) 0 0 (some 0)) (.cons (.b false) (.cons (.sn) (.nil)))))))))))))), (3174, .row 69 true (some 0) false (.cons (.s [117,64,97]) (.cons (.sn) (.cons (.i .i64 0) (.cons (.s [118,64,97]) (.cons (.sn) (.cons (.i .i64 0) (.nil)))))))), (3191, .row 25 false (some 0) false (.cons (.sg (path DB 3174) 0 2 3) (.cons (.sg (path DB 3176) 0 2 6) (.cons (.i .i64 0) (.nil)))))], 7156⟩
end Go.Proofs.YtobaebpmdimljaaGreatDoor
end
