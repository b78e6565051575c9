/- Part 48 of a proof laid in parts, one behind the other; no condition of its own. -/
import Derived.Test.YtobaebpmdimljaaGreatDoorZ44
import Derived.Test.YtobaebpmdimljaaGreatDoorZ46
set_option linter.all false
section
namespace Go.Proofs.YtobaebpmdimljaaGreatDoor
open Go.Proofs.YtobaebpmdimljaaGreatDoor.Clo Go.RowKit
set_option maxRecDepth 1000000
set_option maxHeartbeats 0
noncomputable def st5 : St := ⟨[(0, .b false), (1, .p (path DB 3191) 0), (5, .i .i64 6), (8, .i .i64 220), (10, .b true), (11, .b true), (12, .b true), (13, .b true), (15, .b true), (17, .b true)], [(3190, .row 32 false (some 0) false (.nil)), (3186, .row 32 false (some 0) false (.nil)), (3176, .row 49 true (some 0) false (.cons (.s [117,64,97,47,120]) (.cons (.b true) (.cons (.i .i64 0) (.cons (.sl (path DB 3186) 0 0 (some 0)) (.cons (.b false) (.cons (.sn) (.cons (.s [118,64,97,47,121]) (.cons (.b true) (.cons (.i .i64 0) (.cons (.sl (path DB 3190) 0 0 (some 0)) (.cons (.b false) (.cons (.sn) (.nil)))))))))))))), (3174, .row 69 true (some 0) false (.cons (.s [117,64,97]) (.cons (.sn) (.cons (.i .i64 0) (.cons (.s [118,64,97]) (.cons (.sn) (.cons (.i .i64 0) (.nil)))))))), (3191, .row 25 false (some 0) false (.cons (.sg (path DB 3174) 0 2 3) (.cons (.sg (path DB 3176) 0 2 6) (.cons (.i .i64 0) (.nil)))))], 14712⟩
end Go.Proofs.YtobaebpmdimljaaGreatDoor
end
section
namespace Go.Proofs.YtobaebpmdimljaaGreatDoor
open Go.Proofs.YtobaebpmdimljaaGreatDoor.Clo Go.RowKit
set_option maxRecDepth 1000000
set_option maxHeartbeats 0
theorem prun4 : ((cmL pbm ((pcs.drop 8).take 2)).run ⟨hdM tab25 100, y0⟩ (mkTr pdt st4.slots) (.mk (mkMem st4.mem) (path DB st4.nx)) (stEnd pdt Tryz.f3.ntmps st5)).isSome = true := by kernel_rfl
end Go.Proofs.YtobaebpmdimljaaGreatDoor
end
section
namespace Go.Proofs.YtobaebpmdimljaaGreatDoor
open Go.Proofs.YtobaebpmdimljaaGreatDoor.Clo Go.RowKit
set_option maxRecDepth 1000000
set_option maxHeartbeats 0
noncomputable def st6 : St := ⟨[(0, .b false), (1, .p (path DB 3191) 0), (5, .i .i64 6), (8, .i .i64 220), (10, .b true), (11, .b true), (12, .b true), (13, .b true), (15, .b true), (17, .b true), (19, .b true), (21, .b true), (23, .b true)], [(3190, .row 32 false (some 0) false (.nil)), (3186, .row 32 false (some 0) false (.nil)), (3176, .row 49 true (some 0) false (.cons (.s [117,64,97,47,120]) (.cons (.b true) (.cons (.i .i64 0) (.cons (.sl (path DB 3186) 0 0 (some 0)) (.cons (.b false) (.cons (.sn) (.cons (.s [118,64,97,47,121]) (.cons (.b true) (.cons (.i .i64 0) (.cons (.sl (path DB 3190) 0 0 (some 0)) (.cons (.b false) (.cons (.sn) (.nil)))))))))))))), (3174, .row 69 true (some 0) false (.cons (.s [117,64,97]) (.cons (.sn) (.cons (.i .i64 0) (.cons (.s [118,64,97]) (.cons (.sn) (.cons (.i .i64 0) (.nil)))))))), (3191, .row 25 false (some 0) false (.cons (.sg (path DB 3174) 0 2 3) (.cons (.sg (path DB 3176) 0 2 6) (.cons (.i .i64 0) (.nil)))))], 17691⟩
end Go.Proofs.YtobaebpmdimljaaGreatDoor
end
