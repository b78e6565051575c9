/- Part 29 of a proof laid in parts, one behind the other; no condition of its own. -/
import Derived.Test.YtknjkljigmepjaaGreatDoorZ28
import Derived.Test.YtknjkljigmepjaaGreatDoorZ16
set_option linter.all false
section
namespace Go.Proofs.YtknjkljigmepjaaGreatDoor
open Go.Proofs.YtknjkljigmepjaaGreatDoor.Clo Go.RowKit
set_option maxRecDepth 1000000
set_option maxHeartbeats 0
noncomputable def x40_0 : AV := vL [.s []]
noncomputable def y40_0 : AV := (.tu (vL [.s [],vI 0]))
noncomputable def x40_1 : AV := vL [.s [120]]
noncomputable def y40_1 : AV := (.tu (vL [.s [],vI 320]))
noncomputable def x40_2 : AV := vL [.s [99,111,117,110,116]]
noncomputable def y40_2 : AV := (.tu (vL [.s [48,32,48,32,48,10],vI 0]))
noncomputable def x40_3 : AV := vL [.s [103,101,116,32,48]]
noncomputable def y40_3 : AV := (.tu (vL [.s [],vI 320]))
noncomputable def x40_4 : AV := vL [.s [104,111,115,116,32,65]]
noncomputable def y40_4 : AV := (.tu (vL [.s [],vI 8]))
noncomputable def x40_5 : AV := vL [.s [100,114,97,119,32,48,49]]
noncomputable def y40_5 : AV := (.tu (vL [.s [],vI 320]))
noncomputable def x40_6 : AV := vL [.s [97,99,99,111,117,110,116,32,97]]
noncomputable def y40_6 : AV := (.tu (vL [.s [],vI 8]))
noncomputable def x40_7 : AV := vL [.s [97,99,107,32,49,32,120,32,49]]
noncomputable def y40_7 : AV := (.tu (vL [.s [],vI 320]))
noncomputable def x40_8 : AV := vL [.s [115,101,110,100,32,49,32,45,32,49]]
noncomputable def y40_8 : AV := (.tu (vL [.s [],vI 320]))
noncomputable def x40_9 : AV := vL [.s [107,101,121,32,49,32,120,32,49,32,107]]
noncomputable def y40_9 : AV := (.tu (vL [.s [],vI 320]))
noncomputable def x40_10 : AV := vL [.s [116,105,99,107,10,104,111,115,116,32,97]]
noncomputable def y40_10 : AV := (.tu (vL [.s [],vI 320]))
noncomputable def x40_11 : AV := vL [.s [115,101,110,100,32,49,32,120,32,49,32,60,97,62]]
noncomputable def y40_11 : AV := (.tu (vL [.s [],vI 320]))
noncomputable def x40_12 : AV := vL [.s [111,112,101,110,32,49,32,117,64,97,32,97,32,49,48,32,54,48]]
noncomputable def y40_12 : AV := (.tu (vL [.s [],vI 320]))
noncomputable def x40_13 : AV := vL [.s [104,111,115,116,32,97,10,97,99,99,111,117,110,116,32,117,64,97,10,97,99,99,111,117,110,116,32,118,64,97,10,100,114,97,119,32,50,53,53,10,116,105,99,107,32,49,48,48,48]]
noncomputable def y40_13 : AV := (.tu (vL [.s [],vI 320]))
noncomputable def x40_14 : AV := vL [.s [104,111,115,116,32,97,10,97,99,99,111,117,110,116,32,117,64,97,10,97,99,99,111,117,110,116,32,118,64,97,10,100,114,97,119,32,50,53,53,10,114,111,115,116,101,114,32,117,64,97,10,114,111,115,116,101,114,32,120,64,97]]
noncomputable def y40_14 : AV := (.tu (vL [.s [110,111,110,101,10,110,111,110,101,10],vI 0]))
noncomputable def x40_15 : AV := vL [.s [104,111,115,116,32,97,10,97,99,99,111,117,110,116,32,117,64,97,10,97,99,99,111,117,110,116,32,118,64,97,10,100,114,97,119,32,50,53,53,10,115,101,110,100,32,51,32,120,32,49,10,99,108,111,115,101,32,51,10,99,111,117,110,116]]
noncomputable def y40_15 : AV := (.tu (vL [.s [51,32,50,48,48,32,60,98,111,100,121,32,120,109,108,110,115,61,34,104,116,116,112,58,47,47,106,97,98,98,101,114,46,111,114,103,47,112,114,111,116,111,99,111,108,47,104,116,116,112,98,105,110,100,34,32,116,121,112,101,61,34,116,101,114,109,105,110,97,116,101,34,32,99,111,110,100,105,116,105,111,110,61,34,105,116,101,109,45,110,111,116,45,102,111,117,110,100,34,47,62,10,48,32,48,32,48,10],vI 0]))
noncomputable def x40_16 : AV := vL [.s [104,111,115,116,32,97,10,97,99,99,111,117,110,116,32,117,64,97,10,97,99,99,111,117,110,116,32,118,64,97,10,100,114,97,119,32,50,53,53,10,111,112,101,110,32,49,32,117,64,97,32,97,32,49,48,32,54,48,32,49,10,103,101,116,32,50,10,99,111,117,110,116]]
noncomputable def y40_16 : AV := (.tu (vL [.s [49,32,50,48,48,32,60,98,111,100,121,32,120,109,108,110,115,61,34,104,116,116,112,58,47,47,106,97,98,98,101,114,46,111,114,103,47,112,114,111,116,111,99,111,108,47,104,116,116,112,98,105,110,100,34,32,115,105,100,61,34,48,48,48,48,48,48,48,48,48,48,48,48,48,48,102,102,34,32,102,114,111,109,61,34,97,34,32,119,97,105,116,61,34,54,48,34,32,104,111,108,100,61,34,49,34,32,114,101,113,117,101,115,116,115,61,34,50,34,32,105,110,97,99,116,105,118,105,116,121,61,34,51,48,34,32,109,97,120,112,97,117,115,101,61,34,49,50,48,34,62,60,102,101,97,116,117,114,101,115,32,120,109,108,110,115,61,34,104,116,116,112,58,47,47,101,116,104,101,114,120,46,106,97,98,98,101,114,46,111,114,103,47,115,116,114,101,97,109,115,34,62,60,98,105,110,100,32,120,109,108,110,115,61,34,117,114,110,58,105,101,116,102,58,112,97,114,97,109,115,58,120,109,108,58,110,115,58,120,109,112,112,45,98,105,110,100,34,47,62,60,47,102,101,97,116,117,114,101,115,62,60,47,98,111,100,121,62,10,50,32,52,48,52,32,99,108,111,115,101,100,10,49,32,49,32,48,10],vI 0]))
theorem qg40_0 : (known tab6 100 7 x40_0 y40_0 && (known tab6 100 7 x40_1 y40_1 && (known tab6 100 7 x40_2 y40_2 && (known tab6 100 7 x40_3 y40_3 && (known tab6 100 7 x40_4 y40_4 && (known tab6 100 7 x40_5 y40_5 && (known tab6 100 7 x40_6 y40_6 && (known tab6 100 7 x40_7 y40_7 && (known tab6 100 7 x40_8 y40_8 && (known tab6 100 7 x40_9 y40_9 && (known tab6 100 7 x40_10 y40_10 && (known tab6 100 7 x40_11 y40_11 && (known tab6 100 7 x40_12 y40_12 && (known tab6 100 7 x40_13 y40_13 && (known tab6 100 7 x40_14 y40_14 && (known tab6 100 7 x40_15 y40_15 && (known tab6 100 7 x40_16 y40_16))))))))))))))))) = true := by kernel_rfl
theorem q40_0 : known tab6 100 7 x40_0 y40_0 = true := and_l qg40_0
theorem q40_1 : known tab6 100 7 x40_1 y40_1 = true := and_l (and_r qg40_0)
theorem q40_2 : known tab6 100 7 x40_2 y40_2 = true := and_l (and_r (and_r qg40_0))
theorem q40_3 : known tab6 100 7 x40_3 y40_3 = true := and_l (and_r (and_r (and_r qg40_0)))
theorem q40_4 : known tab6 100 7 x40_4 y40_4 = true := and_l (and_r (and_r (and_r (and_r qg40_0))))
theorem q40_5 : known tab6 100 7 x40_5 y40_5 = true := and_l (and_r (and_r (and_r (and_r (and_r qg40_0)))))
theorem q40_6 : known tab6 100 7 x40_6 y40_6 = true := and_l (and_r (and_r (and_r (and_r (and_r (and_r qg40_0))))))
theorem q40_7 : known tab6 100 7 x40_7 y40_7 = true := and_l (and_r (and_r (and_r (and_r (and_r (and_r (and_r qg40_0)))))))
theorem q40_8 : known tab6 100 7 x40_8 y40_8 = true := and_l (and_r (and_r (and_r (and_r (and_r (and_r (and_r (and_r qg40_0))))))))
theorem q40_9 : known tab6 100 7 x40_9 y40_9 = true := and_l (and_r (and_r (and_r (and_r (and_r (and_r (and_r (and_r (and_r qg40_0)))))))))
theorem q40_10 : known tab6 100 7 x40_10 y40_10 = true := and_l (and_r (and_r (and_r (and_r (and_r (and_r (and_r (and_r (and_r (and_r qg40_0))))))))))
theorem q40_11 : known tab6 100 7 x40_11 y40_11 = true := and_l (and_r (and_r (and_r (and_r (and_r (and_r (and_r (and_r (and_r (and_r (and_r qg40_0)))))))))))
theorem q40_12 : known tab6 100 7 x40_12 y40_12 = true := and_l (and_r (and_r (and_r (and_r (and_r (and_r (and_r (and_r (and_r (and_r (and_r (and_r qg40_0))))))))))))
theorem q40_13 : known tab6 100 7 x40_13 y40_13 = true := and_l (and_r (and_r (and_r (and_r (and_r (and_r (and_r (and_r (and_r (and_r (and_r (and_r (and_r qg40_0)))))))))))))
theorem q40_14 : known tab6 100 7 x40_14 y40_14 = true := and_l (and_r (and_r (and_r (and_r (and_r (and_r (and_r (and_r (and_r (and_r (and_r (and_r (and_r (and_r qg40_0))))))))))))))
theorem q40_15 : known tab6 100 7 x40_15 y40_15 = true := and_l (and_r (and_r (and_r (and_r (and_r (and_r (and_r (and_r (and_r (and_r (and_r (and_r (and_r (and_r (and_r qg40_0)))))))))))))))
theorem q40_16 : known tab6 100 7 x40_16 y40_16 = true := (and_r (and_r (and_r (and_r (and_r (and_r (and_r (and_r (and_r (and_r (and_r (and_r (and_r (and_r (and_r (and_r qg40_0))))))))))))))))
end Go.Proofs.YtknjkljigmepjaaGreatDoor
end
