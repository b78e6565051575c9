/- Part 31 of a proof laid in parts, one behind the other; no condition of its own. -/
import Derived.Test.YtobaebpmdimljaaGreatDoorZ30
import Derived.Test.YtobaebpmdimljaaGreatDoorZ17
set_option linter.all false
section
namespace Go.Proofs.YtobaebpmdimljaaGreatDoor
open Go.Proofs.YtobaebpmdimljaaGreatDoor.Clo Go.RowKit
set_option maxRecDepth 1000000
set_option maxHeartbeats 0
noncomputable def x22_3 : AV := .cons (.ag (.cons (.i .u8 2) (.cons (.s []) (.cons (.s []) (.cons (.s [117,64,97,47,120]) (.cons (.s [118,64,97,47,121]) (.cons (.sn) (.nil)))))))) (.nil)
noncomputable def y22_3 : AV := (.tu (.cons (.s [60,112,114,101,115,101,110,99,101,32,120,109,108,110,115,61,34,106,97,98,98,101,114,58,99,108,105,101,110,116,34,32,102,114,111,109,61,34,117,64,97,47,120,34,32,116,111,61,34,118,64,97,47,121,34,47,62]) (.cons (.i .i64 0) (.nil))))
noncomputable def x22_4 : AV := .cons (.ag (.cons (.i .u8 2) (.cons (.s []) (.cons (.s []) (.cons (.s [118,64,97,47,121]) (.cons (.s [118,64,97,47,121]) (.cons (.sn) (.nil)))))))) (.nil)
noncomputable def y22_4 : AV := (.tu (.cons (.s [60,112,114,101,115,101,110,99,101,32,120,109,108,110,115,61,34,106,97,98,98,101,114,58,99,108,105,101,110,116,34,32,102,114,111,109,61,34,118,64,97,47,121,34,32,116,111,61,34,118,64,97,47,121,34,47,62]) (.cons (.i .i64 0) (.nil))))
noncomputable def x22_5 : AV := .cons (.ag (.cons (.i .u8 3) (.cons (.s [114,101,115,117,108,116]) (.cons (.s [51]) (.cons (.s []) (.cons (.s [117,64,97,47,120]) (.cons (.sn) (.nil)))))))) (.nil)
noncomputable def y22_5 : AV := (.tu (.cons (.s [60,105,113,32,120,109,108,110,115,61,34,106,97,98,98,101,114,58,99,108,105,101,110,116,34,32,116,121,112,101,61,34,114,101,115,117,108,116,34,32,105,100,61,34,51,34,32,116,111,61,34,117,64,97,47,120,34,47,62]) (.cons (.i .i64 0) (.nil))))
theorem qg22_1 : (known tab21 100 106 x22_3 y22_3 && (known tab21 100 106 x22_4 y22_4 && (known tab21 100 106 x22_5 y22_5))) = true := by kernel_rfl
theorem q22_3 : known tab21 100 106 x22_3 y22_3 = true := and_l qg22_1
theorem q22_4 : known tab21 100 106 x22_4 y22_4 = true := and_l (and_r qg22_1)
theorem q22_5 : known tab21 100 106 x22_5 y22_5 = true := (and_r (and_r qg22_1))
end Go.Proofs.YtobaebpmdimljaaGreatDoor
end
