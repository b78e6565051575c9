/- Part 32 of a proof laid in parts, one behind the other; no condition of its own. -/
import Derived.Test.YtobaebpmdimljaaGreatDoorZ30
import Derived.Test.YtobaebpmdimljaaGreatDoorZ17
set_option linter.all false
section
namespace Go.Proofs.YtobaebpmdimljaaGreatDoor
open Go.Proofs.YtobaebpmdimljaaGreatDoor.Clo Go.RowKit
set_option maxRecDepth 1000000
set_option maxHeartbeats 0
noncomputable def x22_6 : AV := .cons (.ag (.cons (.i .u8 3) (.cons (.s [114,101,115,117,108,116]) (.cons (.s [52]) (.cons (.s []) (.cons (.s [117,64,97,47,120]) (.cons (.sn) (.nil)))))))) (.nil)
noncomputable def y22_6 : AV := (.tu (.cons (.s [60,105,113,32,120,109,108,110,115,61,34,106,97,98,98,101,114,58,99,108,105,101,110,116,34,32,116,121,112,101,61,34,114,101,115,117,108,116,34,32,105,100,61,34,52,34,32,116,111,61,34,117,64,97,47,120,34,47,62]) (.cons (.i .i64 0) (.nil))))
noncomputable def x22_7 : AV := .cons (.ag (.cons (.i .u8 3) (.cons (.s [103,101,116]) (.cons (.s [53]) (.cons (.s [117,64,97,47,120]) (.cons (.s [118,64,97,47,121]) (.cons (.sn) (.nil)))))))) (.nil)
noncomputable def y22_7 : AV := (.tu (.cons (.s [60,105,113,32,120,109,108,110,115,61,34,106,97,98,98,101,114,58,99,108,105,101,110,116,34,32,116,121,112,101,61,34,103,101,116,34,32,105,100,61,34,53,34,32,102,114,111,109,61,34,117,64,97,47,120,34,32,116,111,61,34,118,64,97,47,121,34,47,62]) (.cons (.i .i64 0) (.nil))))
theorem qg22_2 : (known tab21 100 106 x22_6 y22_6 && (known tab21 100 106 x22_7 y22_7)) = true := by kernel_rfl
theorem q22_6 : known tab21 100 106 x22_6 y22_6 = true := and_l qg22_2
theorem q22_7 : known tab21 100 106 x22_7 y22_7 = true := (and_r qg22_2)
end Go.Proofs.YtobaebpmdimljaaGreatDoor
end
section
namespace Go.Proofs.YtobaebpmdimljaaGreatDoor
open Go.Proofs.YtobaebpmdimljaaGreatDoor.Clo Go.RowKit
set_option maxRecDepth 1000000
set_option maxHeartbeats 0
noncomputable def x22_8 : AV := .cons (.ag (.cons (.i .u8 2) (.cons (.s [115,117,98,115,99,114,105,98,101]) (.cons (.s []) (.cons (.s [117,64,97]) (.cons (.s [118,64,97]) (.cons (.sn) (.nil)))))))) (.nil)
noncomputable def y22_8 : AV := (.tu (.cons (.s [60,112,114,101,115,101,110,99,101,32,120,109,108,110,115,61,34,106,97,98,98,101,114,58,99,108,105,101,110,116,34,32,116,121,112,101,61,34,115,117,98,115,99,114,105,98,101,34,32,102,114,111,109,61,34,117,64,97,34,32,116,111,61,34,118,64,97,34,47,62]) (.cons (.i .i64 0) (.nil))))
noncomputable def x22_9 : AV := .cons (.ag (.cons (.i .u8 2) (.cons (.s [115,117,98,115,99,114,105,98,101,100]) (.cons (.s []) (.cons (.s [118,64,97]) (.cons (.s [117,64,97]) (.cons (.sn) (.nil)))))))) (.nil)
noncomputable def y22_9 : AV := (.tu (.cons (.s [60,112,114,101,115,101,110,99,101,32,120,109,108,110,115,61,34,106,97,98,98,101,114,58,99,108,105,101,110,116,34,32,116,121,112,101,61,34,115,117,98,115,99,114,105,98,101,100,34,32,102,114,111,109,61,34,118,64,97,34,32,116,111,61,34,117,64,97,34,47,62]) (.cons (.i .i64 0) (.nil))))
theorem qg22_3 : (known tab21 100 106 x22_8 y22_8 && (known tab21 100 106 x22_9 y22_9)) = true := by kernel_rfl
theorem q22_8 : known tab21 100 106 x22_8 y22_8 = true := and_l qg22_3
theorem q22_9 : known tab21 100 106 x22_9 y22_9 = true := (and_r qg22_3)
end Go.Proofs.YtobaebpmdimljaaGreatDoor
end
