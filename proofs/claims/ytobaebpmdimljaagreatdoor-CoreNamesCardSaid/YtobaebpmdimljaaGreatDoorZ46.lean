/- Part 46 of a proof laid in parts, one behind the other; no condition of its own. -/
import Derived.Test.YtobaebpmdimljaaGreatDoorZ44
set_option linter.all false
section
namespace Go.Proofs.YtobaebpmdimljaaGreatDoor
open Go.Proofs.YtobaebpmdimljaaGreatDoor.Clo Go.RowKit
set_option maxRecDepth 1000000
set_option maxHeartbeats 0
noncomputable def st3 : St := ⟨[(0, .b false), (1, .p (path DB 3191) 0), (5, .i .i64 6), (8, .i .i64 220), (9, .p (path DB 4904) 0), (10, .b true), (11, .b true), (12, .b true)], [(8910, .row 32 false (some 0) false (.nil)), (8906, .row 32 false (some 0) false (.nil)), (8886, .row 49 true (some 0) false (.cons (.s [117,64,97,47,120]) (.cons (.b true) (.cons (.i .i64 0) (.cons (.sl (path DB 8906) 0 0 (some 0)) (.cons (.b true) (.cons (.sn) (.cons (.s [118,64,97,47,121]) (.cons (.b true) (.cons (.i .i64 0) (.cons (.sl (path DB 8910) 0 0 (some 0)) (.cons (.b false) (.cons (.sn) (.nil)))))))))))))), (8899, .row 123 true (some 0) false (.cons (.s [117,64,97]) (.cons (.s []) (.cons (.sn) (.cons (.b false) (.cons (.b false) (.cons (.b false) (.cons (.b true) (.cons (.b false) (.nil)))))))))), (8891, .row 123 true (some 0) false (.cons (.s [118,64,97]) (.cons (.s []) (.cons (.sn) (.cons (.b false) (.cons (.b true) (.cons (.b false) (.cons (.b false) (.cons (.b true) (.nil)))))))))), (8884, .row 69 true (some 0) false (.cons (.s [117,64,97]) (.cons (.sg (path DB 8891) 0 1 8) (.cons (.i .i64 2) (.cons (.s [118,64,97]) (.cons (.sg (path DB 8899) 0 1 8) (.cons (.i .i64 0) (.nil)))))))), (4904, .row 25 false (some 0) false (.cons (.sg (path DB 8884) 0 2 3) (.cons (.sg (path DB 8886) 0 2 6) (.cons (.i .i64 0) (.nil))))), (3190, .row 32 false (some 0) false (.nil)), (3186, .row 32 false (some 0) false (.nil)), (3176, .row 49 true (some 0) false (.cons (.s [117,64,97,47,120]) (.cons (.b true) (.cons (.i .i64 0) (.cons (.sl (path DB 3186) 0 0 (some 0)) (.cons (.b false) (.cons (.sn) (.cons (.s [118,64,97,47,121]) (.cons (.b true) (.cons (.i .i64 0) (.cons (.sl (path DB 3190) 0 0 (some 0)) (.cons (.b false) (.cons (.sn) (.nil)))))))))))))), (3174, .row 69 true (some 0) false (.cons (.s [117,64,97]) (.cons (.sn) (.cons (.i .i64 0) (.cons (.s [118,64,97]) (.cons (.sn) (.cons (.i .i64 0) (.nil)))))))), (3191, .row 25 false (some 0) false (.cons (.sg (path DB 3174) 0 2 3) (.cons (.sg (path DB 3176) 0 2 6) (.cons (.i .i64 0) (.nil)))))], 9696⟩
end Go.Proofs.YtobaebpmdimljaaGreatDoor
end
section
namespace Go.Proofs.YtobaebpmdimljaaGreatDoor
open Go.Proofs.YtobaebpmdimljaaGreatDoor.Clo Go.RowKit
set_option maxRecDepth 1000000
set_option maxHeartbeats 0
theorem prun2 : ((cmL pbm ((pcs.drop 6).take 1)).run ⟨hdM tab25 100, y0⟩ (mkTr pdt st2.slots) (.mk (mkMem st2.mem) (path DB st2.nx)) (stEnd pdt Tryz.f3.ntmps st3)).isSome = true := by kernel_rfl
end Go.Proofs.YtobaebpmdimljaaGreatDoor
end
section
namespace Go.Proofs.YtobaebpmdimljaaGreatDoor
open Go.Proofs.YtobaebpmdimljaaGreatDoor.Clo Go.RowKit
set_option maxRecDepth 1000000
set_option maxHeartbeats 0
noncomputable def st4 : St := ⟨[(0, .b false), (1, .p (path DB 3191) 0), (5, .i .i64 6), (8, .i .i64 220), (9, .p (path DB 4904) 0), (10, .b true), (11, .b true), (12, .b true), (13, .b true)], [(11558, .row 32 false (some 0) false (.nil)), (11554, .row 32 false (some 0) false (.nil)), (11542, .row 49 true (some 0) false (.cons (.s [117,64,97,47,120]) (.cons (.b true) (.cons (.i .i64 0) (.cons (.sl (path DB 11554) 0 0 (some 0)) (.cons (.b true) (.cons (.sn) (.cons (.s [118,64,97,47,121]) (.cons (.b true) (.cons (.i .i64 0) (.cons (.sl (path DB 11558) 0 0 (some 0)) (.cons (.b false) (.cons (.sn) (.nil)))))))))))))), (11550, .row 123 false (some 0) false (.nil)), (11546, .row 123 false (some 0) false (.nil)), (11540, .row 69 true (some 0) false (.cons (.s [117,64,97]) (.cons (.sl (path DB 11546) 0 0 (some 0)) (.cons (.i .i64 3) (.cons (.s [118,64,97]) (.cons (.sl (path DB 11550) 0 0 (some 0)) (.cons (.i .i64 0) (.nil)))))))), (4904, .row 25 false (some 0) false (.cons (.sg (path DB 11540) 0 2 3) (.cons (.sg (path DB 11542) 0 2 6) (.cons (.i .i64 0) (.nil))))), (3190, .row 32 false (some 0) false (.nil)), (3186, .row 32 false (some 0) false (.nil)), (3176, .row 49 true (some 0) false (.cons (.s [117,64,97,47,120]) (.cons (.b true) (.cons (.i .i64 0) (.cons (.sl (path DB 3186) 0 0 (some 0)) (.cons (.b false) (.cons (.sn) (.cons (.s [118,64,97,47,121]) (.cons (.b true) (.cons (.i .i64 0) (.cons (.sl (path DB 3190) 0 0 (some 0)) (.cons (.b false) (.cons (.sn) (.nil)))))))))))))), (3174, .row 69 true (some 0) false (.cons (.s [117,64,97]) (.cons (.sn) (.cons (.i .i64 0) (.cons (.s [118,64,97]) (.cons (.sn) (.cons (.i .i64 0) (.nil)))))))), (3191, .row 25 false (some 0) false (.cons (.sg (path DB 3174) 0 2 3) (.cons (.sg (path DB 3176) 0 2 6) (.cons (.i .i64 0) (.nil)))))], 12543⟩
end Go.Proofs.YtobaebpmdimljaaGreatDoor
end
