/- Part 20 of a proof laid in parts, one behind the other; no condition of its own. -/
import Derived.Test.YtknjkljigmepjaaGreatDoorZ19
import Derived.Test.YtknjkljigmepjaaGreatDoorZ16
set_option linter.all false
section
namespace Go.Proofs.YtknjkljigmepjaaGreatDoor
open Go.Proofs.YtknjkljigmepjaaGreatDoor.Clo Go.RowKit
set_option maxRecDepth 1000000
set_option maxHeartbeats 0
noncomputable def x17_0 : AV := vL [.s []]
noncomputable def y17_0 : AV := (vI 0)
noncomputable def x17_1 : AV := vL [.s [49]]
noncomputable def y17_1 : AV := (vI 0)
noncomputable def x17_2 : AV := vL [.s [50]]
noncomputable def y17_2 : AV := (vI 0)
noncomputable def x17_3 : AV := vL [.s [97]]
noncomputable def y17_3 : AV := (vI 0)
noncomputable def x17_4 : AV := vL [.s [120]]
noncomputable def y17_4 : AV := (vI 0)
noncomputable def x17_5 : AV := vL [.s [49,48]]
noncomputable def y17_5 : AV := (vI 0)
noncomputable def x17_6 : AV := vL [.s [49,49]]
noncomputable def y17_6 : AV := (vI 0)
noncomputable def x17_7 : AV := vL [.s [49,50]]
noncomputable def y17_7 : AV := (vI 0)
noncomputable def x17_8 : AV := vL [.s [51,48]]
noncomputable def y17_8 : AV := (vI 0)
noncomputable def x17_9 : AV := vL [.s [54,48]]
noncomputable def y17_9 : AV := (vI 0)
noncomputable def x17_10 : AV := vL [.s [49,50,48]]
noncomputable def y17_10 : AV := (vI 0)
noncomputable def x17_11 : AV := vL [.s [49,50,49]]
noncomputable def y17_11 : AV := (vI 0)
noncomputable def x17_12 : AV := vL [.s [117,64,97]]
noncomputable def y17_12 : AV := (vI 0)
noncomputable def x17_13 : AV := vL [.s [116,101,114,109,105,110,97,116,101]]
noncomputable def y17_13 : AV := (vI 0)
noncomputable def x17_14 : AV := vL [.s [105,116,101,109,45,110,111,116,45,102,111,117,110,100]]
noncomputable def y17_14 : AV := (vI 0)
noncomputable def x17_15 : AV := vL [.s [48,48,48,48,48,48,48,48,48,48,48,48,48,48,102,102]]
noncomputable def y17_15 : AV := (vI 0)
noncomputable def x17_16 : AV := vL [.s [60,98,111,100,121,62,60,97,62,60,47,98,111,100,121,62]]
noncomputable def y17_16 : AV := (vI 0)
noncomputable def x17_17 : AV := vL [.s [112,111,108,105,99,121,45,118,105,111,108,97,116,105,111,110]]
noncomputable def y17_17 : AV := (vI 0)
noncomputable def x17_18 : AV := vL [.s [104,116,116,112,58,47,47,101,116,104,101,114,120,46,106,97,98,98,101,114,46,111,114,103,47,115,116,114,101,97,109,115]]
noncomputable def y17_18 : AV := (vI 0)
noncomputable def x17_19 : AV := vL [.s [117,114,110,58,105,101,116,102,58,112,97,114,97,109,115,58,120,109,108,58,110,115,58,120,109,112,112,45,98,105,110,100]]
noncomputable def y17_19 : AV := (vI 0)
noncomputable def x17_20 : AV := vL [.s [104,116,116,112,58,47,47,106,97,98,98,101,114,46,111,114,103,47,112,114,111,116,111,99,111,108,47,104,116,116,112,98,105,110,100]]
noncomputable def y17_20 : AV := (vI 0)
noncomputable def x17_21 : AV := vL [.s [100,97,51,57,97,51,101,101,53,101,54,98,52,98,48,100,51,50,53,53,98,102,101,102,57,53,54,48,49,56,57,48,97,102,100,56,48,55,48,57]]
noncomputable def y17_21 : AV := (vI 0)
noncomputable def x17_22 : AV := vL [.s [60,98,111,100,121,32,120,109,108,110,115,61,34,104,116,116,112,58,47,47,106,97,98,98,101,114,46,111,114,103,47,112,114,111,116,111,99,111,108,47,104,116,116,112,98,105,110,100,34,47,62]]
noncomputable def y17_22 : AV := (vI 0)
noncomputable def x17_23 : AV := vL [.s [60,98,111,100,121,32,120,109,108,110,115,61,34,104,116,116,112,58,47,47,106,97,98,98,101,114,46,111,114,103,47,112,114,111,116,111,99,111,108,47,104,116,116,112,98,105,110,100,34,32,114,105,100,61,34,49,34,32,115,105,100,61,34,120,34,47,62]]
noncomputable def y17_23 : AV := (vI 0)
noncomputable def x17_24 : AV := vL [.s [60,98,111,100,121,32,120,109,108,110,115,61,34,104,116,116,112,58,47,47,106,97,98,98,101,114,46,111,114,103,47,112,114,111,116,111,99,111,108,47,104,116,116,112,98,105,110,100,34,32,116,121,112,101,61,34,116,101,114,109,105,110,97,116,101,34,47,62]]
noncomputable def y17_24 : AV := (vI 0)
noncomputable def x17_25 : AV := vL [.s [60,98,111,100,121,32,120,109,108,110,115,61,34,104,116,116,112,58,47,47,106,97,98,98,101,114,46,111,114,103,47,112,114,111,116,111,99,111,108,47,104,116,116,112,98,105,110,100,34,32,114,105,100,61,34,49,49,34,32,115,105,100,61,34,48,48,48,48,48,48,48,48,48,48,48,48,48,48,102,102,34,47,62]]
noncomputable def y17_25 : AV := (vI 0)
noncomputable def x17_26 : AV := vL [.s [60,98,111,100,121,32,120,109,108,110,115,61,34,104,116,116,112,58,47,47,106,97,98,98,101,114,46,111,114,103,47,112,114,111,116,111,99,111,108,47,104,116,116,112,98,105,110,100,34,32,114,105,100,61,34,49,50,34,32,115,105,100,61,34,48,48,48,48,48,48,48,48,48,48,48,48,48,48,102,102,34,32,112,97,117,115,101,61,34,49,50,49,34,47,62]]
noncomputable def y17_26 : AV := (vI 0)
noncomputable def x17_27 : AV := vL [.s [60,98,111,100,121,32,120,109,108,110,115,61,34,104,116,116,112,58,47,47,106,97,98,98,101,114,46,111,114,103,47,112,114,111,116,111,99,111,108,47,104,116,116,112,98,105,110,100,34,32,116,121,112,101,61,34,116,101,114,109,105,110,97,116,101,34,32,99,111,110,100,105,116,105,111,110,61,34,105,116,101,109,45,110,111,116,45,102,111,117,110,100,34,47,62]]
noncomputable def y17_27 : AV := (vI 0)
noncomputable def x17_28 : AV := vL [.s [60,98,111,100,121,32,120,109,108,110,115,61,34,104,116,116,112,58,47,47,106,97,98,98,101,114,46,111,114,103,47,112,114,111,116,111,99,111,108,47,104,116,116,112,98,105,110,100,34,32,114,105,100,61,34,49,48,34,32,116,111,61,34,97,34,32,102,114,111,109,61,34,117,64,97,34,32,119,97,105,116,61,34,54,48,34,32,104,111,108,100,61,34,49,34,47,62]]
noncomputable def y17_28 : AV := (vI 0)
noncomputable def x17_29 : AV := vL [.s [60,98,111,100,121,32,120,109,108,110,115,61,34,104,116,116,112,58,47,47,106,97,98,98,101,114,46,111,114,103,47,112,114,111,116,111,99,111,108,47,104,116,116,112,98,105,110,100,34,32,116,121,112,101,61,34,116,101,114,109,105,110,97,116,101,34,32,99,111,110,100,105,116,105,111,110,61,34,112,111,108,105,99,121,45,118,105,111,108,97,116,105,111,110,34,47,62]]
noncomputable def y17_29 : AV := (vI 0)
theorem qg17_0 : (known tab1 100 214 x17_0 y17_0 && (known tab1 100 214 x17_1 y17_1 && (known tab1 100 214 x17_2 y17_2 && (known tab1 100 214 x17_3 y17_3 && (known tab1 100 214 x17_4 y17_4 && (known tab1 100 214 x17_5 y17_5 && (known tab1 100 214 x17_6 y17_6 && (known tab1 100 214 x17_7 y17_7 && (known tab1 100 214 x17_8 y17_8 && (known tab1 100 214 x17_9 y17_9 && (known tab1 100 214 x17_10 y17_10 && (known tab1 100 214 x17_11 y17_11 && (known tab1 100 214 x17_12 y17_12 && (known tab1 100 214 x17_13 y17_13 && (known tab1 100 214 x17_14 y17_14 && (known tab1 100 214 x17_15 y17_15 && (known tab1 100 214 x17_16 y17_16 && (known tab1 100 214 x17_17 y17_17 && (known tab1 100 214 x17_18 y17_18 && (known tab1 100 214 x17_19 y17_19 && (known tab1 100 214 x17_20 y17_20 && (known tab1 100 214 x17_21 y17_21 && (known tab1 100 214 x17_22 y17_22 && (known tab1 100 214 x17_23 y17_23 && (known tab1 100 214 x17_24 y17_24 && (known tab1 100 214 x17_25 y17_25 && (known tab1 100 214 x17_26 y17_26 && (known tab1 100 214 x17_27 y17_27 && (known tab1 100 214 x17_28 y17_28 && (known tab1 100 214 x17_29 y17_29)))))))))))))))))))))))))))))) = true := by kernel_rfl
theorem q17_0 : known tab1 100 214 x17_0 y17_0 = true := and_l qg17_0
theorem q17_1 : known tab1 100 214 x17_1 y17_1 = true := and_l (and_r qg17_0)
theorem q17_2 : known tab1 100 214 x17_2 y17_2 = true := and_l (and_r (and_r qg17_0))
theorem q17_3 : known tab1 100 214 x17_3 y17_3 = true := and_l (and_r (and_r (and_r qg17_0)))
theorem q17_4 : known tab1 100 214 x17_4 y17_4 = true := and_l (and_r (and_r (and_r (and_r qg17_0))))
theorem q17_5 : known tab1 100 214 x17_5 y17_5 = true := and_l (and_r (and_r (and_r (and_r (and_r qg17_0)))))
theorem q17_6 : known tab1 100 214 x17_6 y17_6 = true := and_l (and_r (and_r (and_r (and_r (and_r (and_r qg17_0))))))
theorem q17_7 : known tab1 100 214 x17_7 y17_7 = true := and_l (and_r (and_r (and_r (and_r (and_r (and_r (and_r qg17_0)))))))
theorem q17_8 : known tab1 100 214 x17_8 y17_8 = true := and_l (and_r (and_r (and_r (and_r (and_r (and_r (and_r (and_r qg17_0))))))))
theorem q17_9 : known tab1 100 214 x17_9 y17_9 = true := and_l (and_r (and_r (and_r (and_r (and_r (and_r (and_r (and_r (and_r qg17_0)))))))))
theorem q17_10 : known tab1 100 214 x17_10 y17_10 = true := and_l (and_r (and_r (and_r (and_r (and_r (and_r (and_r (and_r (and_r (and_r qg17_0))))))))))
theorem q17_11 : known tab1 100 214 x17_11 y17_11 = true := and_l (and_r (and_r (and_r (and_r (and_r (and_r (and_r (and_r (and_r (and_r (and_r qg17_0)))))))))))
theorem q17_12 : known tab1 100 214 x17_12 y17_12 = true := and_l (and_r (and_r (and_r (and_r (and_r (and_r (and_r (and_r (and_r (and_r (and_r (and_r qg17_0))))))))))))
theorem q17_13 : known tab1 100 214 x17_13 y17_13 = true := and_l (and_r (and_r (and_r (and_r (and_r (and_r (and_r (and_r (and_r (and_r (and_r (and_r (and_r qg17_0)))))))))))))
theorem q17_14 : known tab1 100 214 x17_14 y17_14 = true := and_l (and_r (and_r (and_r (and_r (and_r (and_r (and_r (and_r (and_r (and_r (and_r (and_r (and_r (and_r qg17_0))))))))))))))
theorem q17_15 : known tab1 100 214 x17_15 y17_15 = true := and_l (and_r (and_r (and_r (and_r (and_r (and_r (and_r (and_r (and_r (and_r (and_r (and_r (and_r (and_r (and_r qg17_0)))))))))))))))
theorem q17_16 : known tab1 100 214 x17_16 y17_16 = true := and_l (and_r (and_r (and_r (and_r (and_r (and_r (and_r (and_r (and_r (and_r (and_r (and_r (and_r (and_r (and_r (and_r qg17_0))))))))))))))))
theorem q17_17 : known tab1 100 214 x17_17 y17_17 = true := and_l (and_r (and_r (and_r (and_r (and_r (and_r (and_r (and_r (and_r (and_r (and_r (and_r (and_r (and_r (and_r (and_r (and_r qg17_0)))))))))))))))))
theorem q17_18 : known tab1 100 214 x17_18 y17_18 = true := and_l (and_r (and_r (and_r (and_r (and_r (and_r (and_r (and_r (and_r (and_r (and_r (and_r (and_r (and_r (and_r (and_r (and_r (and_r qg17_0))))))))))))))))))
theorem q17_19 : known tab1 100 214 x17_19 y17_19 = true := and_l (and_r (and_r (and_r (and_r (and_r (and_r (and_r (and_r (and_r (and_r (and_r (and_r (and_r (and_r (and_r (and_r (and_r (and_r (and_r qg17_0)))))))))))))))))))
theorem q17_20 : known tab1 100 214 x17_20 y17_20 = true := and_l (and_r (and_r (and_r (and_r (and_r (and_r (and_r (and_r (and_r (and_r (and_r (and_r (and_r (and_r (and_r (and_r (and_r (and_r (and_r (and_r qg17_0))))))))))))))))))))
theorem q17_21 : known tab1 100 214 x17_21 y17_21 = true := and_l (and_r (and_r (and_r (and_r (and_r (and_r (and_r (and_r (and_r (and_r (and_r (and_r (and_r (and_r (and_r (and_r (and_r (and_r (and_r (and_r (and_r qg17_0)))))))))))))))))))))
theorem q17_22 : known tab1 100 214 x17_22 y17_22 = true := and_l (and_r (and_r (and_r (and_r (and_r (and_r (and_r (and_r (and_r (and_r (and_r (and_r (and_r (and_r (and_r (and_r (and_r (and_r (and_r (and_r (and_r (and_r qg17_0))))))))))))))))))))))
theorem q17_23 : known tab1 100 214 x17_23 y17_23 = true := and_l (and_r (and_r (and_r (and_r (and_r (and_r (and_r (and_r (and_r (and_r (and_r (and_r (and_r (and_r (and_r (and_r (and_r (and_r (and_r (and_r (and_r (and_r (and_r qg17_0)))))))))))))))))))))))
theorem q17_24 : known tab1 100 214 x17_24 y17_24 = true := and_l (and_r (and_r (and_r (and_r (and_r (and_r (and_r (and_r (and_r (and_r (and_r (and_r (and_r (and_r (and_r (and_r (and_r (and_r (and_r (and_r (and_r (and_r (and_r (and_r qg17_0))))))))))))))))))))))))
theorem q17_25 : known tab1 100 214 x17_25 y17_25 = true := and_l (and_r (and_r (and_r (and_r (and_r (and_r (and_r (and_r (and_r (and_r (and_r (and_r (and_r (and_r (and_r (and_r (and_r (and_r (and_r (and_r (and_r (and_r (and_r (and_r (and_r qg17_0)))))))))))))))))))))))))
theorem q17_26 : known tab1 100 214 x17_26 y17_26 = true := and_l (and_r (and_r (and_r (and_r (and_r (and_r (and_r (and_r (and_r (and_r (and_r (and_r (and_r (and_r (and_r (and_r (and_r (and_r (and_r (and_r (and_r (and_r (and_r (and_r (and_r (and_r qg17_0))))))))))))))))))))))))))
theorem q17_27 : known tab1 100 214 x17_27 y17_27 = true := and_l (and_r (and_r (and_r (and_r (and_r (and_r (and_r (and_r (and_r (and_r (and_r (and_r (and_r (and_r (and_r (and_r (and_r (and_r (and_r (and_r (and_r (and_r (and_r (and_r (and_r (and_r (and_r qg17_0)))))))))))))))))))))))))))
theorem q17_28 : known tab1 100 214 x17_28 y17_28 = true := and_l (and_r (and_r (and_r (and_r (and_r (and_r (and_r (and_r (and_r (and_r (and_r (and_r (and_r (and_r (and_r (and_r (and_r (and_r (and_r (and_r (and_r (and_r (and_r (and_r (and_r (and_r (and_r (and_r qg17_0))))))))))))))))))))))))))))
theorem q17_29 : known tab1 100 214 x17_29 y17_29 = true := (and_r (and_r (and_r (and_r (and_r (and_r (and_r (and_r (and_r (and_r (and_r (and_r (and_r (and_r (and_r (and_r (and_r (and_r (and_r (and_r (and_r (and_r (and_r (and_r (and_r (and_r (and_r (and_r (and_r qg17_0)))))))))))))))))))))))))))))
end Go.Proofs.YtknjkljigmepjaaGreatDoor
end
section
namespace Go.Proofs.YtknjkljigmepjaaGreatDoor
open Go.Proofs.YtknjkljigmepjaaGreatDoor.Clo Go.RowKit
set_option maxRecDepth 1000000
set_option maxHeartbeats 0
noncomputable def x17_30 : AV := vL [.s [60,98,111,100,121,32,120,109,108,110,115,61,34,104,116,116,112,58,47,47,106,97,98,98,101,114,46,111,114,103,47,112,114,111,116,111,99,111,108,47,104,116,116,112,98,105,110,100,34,32,114,105,100,61,34,49,49,34,32,115,105,100,61,34,48,48,48,48,48,48,48,48,48,48,48,48,48,48,102,102,34,32,116,121,112,101,61,34,116,101,114,109,105,110,97,116,101,34,47,62]]
noncomputable def y17_30 : AV := (vI 0)
noncomputable def x17_31 : AV := vL [.s [60,98,111,100,121,32,120,109,108,110,115,61,34,104,116,116,112,58,47,47,106,97,98,98,101,114,46,111,114,103,47,112,114,111,116,111,99,111,108,47,104,116,116,112,98,105,110,100,34,32,114,105,100,61,34,49,49,34,32,115,105,100,61,34,48,48,48,48,48,48,48,48,48,48,48,48,48,48,102,102,34,32,107,101,121,61,34,100,97,51,57,97,51,101,101,53,101,54,98,52,98,48,100,51,50,53,53,98,102,101,102,57,53,54,48,49,56,57,48,97,102,100,56,48,55,48,57,34,47,62]]
noncomputable def y17_31 : AV := (vI 0)
noncomputable def x17_32 : AV := vL [.s [60,98,111,100,121,32,120,109,108,110,115,61,34,104,116,116,112,58,47,47,106,97,98,98,101,114,46,111,114,103,47,112,114,111,116,111,99,111,108,47,104,116,116,112,98,105,110,100,34,62,60,102,101,97,116,117,114,101,115,32,120,109,108,110,115,61,34,104,116,116,112,58,47,47,101,116,104,101,114,120,46,106,97,98,98,101,114,46,111,114,103,47,115,116,114,101,97,109,115,34,62,60,98,105,110,100,32,120,109,108,110,115,61,34,117,114,110,58,105,101,116,102,58,112,97,114,97,109,115,58,120,109,108,58,110,115,58,120,109,112,112,45,98,105,110,100,34,47,62,60,47,102,101,97,116,117,114,101,115,62,60,47,98,111,100,121,62]]
noncomputable def y17_32 : AV := (vI 0)
noncomputable def x17_33 : AV := vL [.s [60,98,111,100,121,32,120,109,108,110,115,61,34,104,116,116,112,58,47,47,106,97,98,98,101,114,46,111,114,103,47,112,114,111,116,111,99,111,108,47,104,116,116,112,98,105,110,100,34,32,115,105,100,61,34,48,48,48,48,48,48,48,48,48,48,48,48,48,48,102,102,34,32,102,114,111,109,61,34,97,34,32,119,97,105,116,61,34,54,48,34,32,104,111,108,100,61,34,49,34,32,114,101,113,117,101,115,116,115,61,34,50,34,32,105,110,97,99,116,105,118,105,116,121,61,34,51,48,34,32,109,97,120,112,97,117,115,101,61,34,49,50,48,34,62,60,102,101,97,116,117,114,101,115,32,120,109,108,110,115,61,34,104,116,116,112,58,47,47,101,116,104,101,114,120,46,106,97,98,98,101,114,46,111,114,103,47,115,116,114,101,97,109,115,34,62,60,98,105,110,100,32,120,109,108,110,115,61,34,117,114,110,58,105,101,116,102,58,112,97,114,97,109,115,58,120,109,108,58,110,115,58,120,109,112,112,45,98,105,110,100,34,47,62,60,47,102,101,97,116,117,114,101,115,62,60,47,98,111,100,121,62]]
noncomputable def y17_33 : AV := (vI 0)
theorem qg17_1 : (known tab1 100 214 x17_30 y17_30 && (known tab1 100 214 x17_31 y17_31 && (known tab1 100 214 x17_32 y17_32 && (known tab1 100 214 x17_33 y17_33)))) = true := by kernel_rfl
theorem q17_30 : known tab1 100 214 x17_30 y17_30 = true := and_l qg17_1
theorem q17_31 : known tab1 100 214 x17_31 y17_31 = true := and_l (and_r qg17_1)
theorem q17_32 : known tab1 100 214 x17_32 y17_32 = true := and_l (and_r (and_r qg17_1))
theorem q17_33 : known tab1 100 214 x17_33 y17_33 = true := (and_r (and_r (and_r qg17_1)))
noncomputable def m17 : MTree := .node (.node (.node (.node (.node (.node (.leaf) 2 x17_0 y17_0 (.leaf)) 564 x17_1 y17_1 (.leaf)) 565 x17_2 y17_2 (.node (.leaf) 612 x17_3 y17_3 (.leaf))) 635 x17_4 y17_4 (.node (.node (.leaf) 144997 x17_5 y17_5 (.leaf)) 144998 x17_6 y17_6 (.node (.leaf) 144999 x17_7 y17_7 (.leaf)))) 145511 x17_8 y17_8 (.node (.node (.node (.node (.leaf) 146282 x17_9 y17_9 (.leaf)) 37264792 x17_10 y17_10 (.leaf)) 37264793 x17_11 y17_11 (.node (.leaf) 41759771 x17_12 y17_12 (.leaf))) 12016240865544724909524 x17_13 y17_13 (.node (.node (.leaf) 13238602873260586722892405166751366 x17_14 y17_14 (.leaf)) 793693583345728398922899451157461553534 x17_15 y17_15 (.node (.leaf) 810880453539426861205276348944676466284 x17_16 y17_16 (.leaf))))) 884234162384373528709373906442440384164 x17_17 y17_17 (.node (.node (.node (.node (.node (.leaf) 316182631710129478897415280824140984938882768834303067786162166147638139686978 x17_18 y17_18 (.leaf)) 322814058453948504721110504435775017302779335851303514628395123443846139655814 x17_19 y17_19 (.leaf)) 5367071486948341882162063927032269754654969244832075988092418675282274068601612097670 x17_20 y17_20 (.node (.leaf) 5977735285454342570977199382351152868745485737951662225352954262056465450330612637648030826015312 x17_21 y17_21 (.leaf))) 1805577558950258408110536226111594205318234652741312969683807964785932135657246971301096597697001141477127569895575207564224 x17_22 y17_22 (.node (.node (.leaf) 653952375453827309882007362465685174755897763684960498490768760078613119225979124794671332006906458573730284309791364720365553362368825148588270513002319718732602 x17_23 y17_23 (.leaf)) 168065760491633618639675892153681089912265725267034848112127571340203571641076635072230532325774959853448683067616380733134139189094965670044089529343295903775040253 x17_24 y17_24 (.node (.leaf) 236851475718570829293281543735389457502842183519540499466004344035865793686605990696161666508279270731834259627142211893463467712753500596717624203089253571222234592747875284818510717622086606226172271 x17_25 y17_25 (.leaf)))) 19664077398678760220869588693178452575639955480112868921530629614779726967272381556122758980253471482648202632094146403785575402537162178685548655959397583398764480274898933182868753429139526949866150199902914182549351700802897871 x17_26 y17_26 (.node (.node (.node (.leaf) 19664077398678760220869588693178452575639955480112868921530629614779726967272381556122758980253471482648202632094146403785597864046171998792776542922554778636846629962174300365312504159498449320546485285822590347222373824216293110 x17_27 y17_27 (.leaf)) 1298792648105333433828215463595743614168443419505974879398176555426586186461373529400352107886761537957431135647186275823633469762177024735008879633208712782980450119384145263541107037959561000794228968223197140342373078929769769380020 x17_28 y17_28 (.node (.leaf) 1298792648105333433828215463595743614168443419505974879398176555426586186461373529400352107886761537957431135647186275823634953322385614348264097883491820574185083062371650364828525587230713246163409382727473887772428802576956549420308 x17_29 y17_29 (.leaf))) 22046476592980256168526389410844064382858360489642184646008131970508241894603925882544511088069867194881444853138778627291917930390761788870085004404984343037593133273534400747763970229099941839822190729625286867371176339705119053754370594732 x17_30 y17_30 (.node (.node (.leaf) 43785759927422700414826184268283984557222011891729016805714500076506979478472918820740112566328783435716226074420193082624658396203731394499932823361734718477624152541909174076093231080368807181273410377006600525568280622290610951315346828812699050644863608772024088379436683802017059646386016428482694053103962286 x17_31 y17_31 (.leaf)) 6439593521646839488605659087696256384643044158531193477094110323336743633992503830276337680427834100153331332851535986186809609037944479918507833522278649026784269941179341425708379471632749404875989415465936684196777132580348498761423471055755037997674052980002128698492518623056785089769416901506089768773494741648350451072620508011372047028443240463467146168187328689622096085716859640296805378797997 x17_32 y17_32 (.node (.leaf) 56559449175175619754272300744179792083100304947376986010848312891472292518744029732883781592319214049548324494748938451129741075043144162279389300421312139163905180890009991789839349105166644097485460285277656668702174004866711608959157239375572187115923108455601430096350383840113627994614993104091670722169499972252906924802867837238641339217598659038731969181133370213901928578921355391267421023792637868538421502823814077751986534945653192127168513294899657448133563111211792619602386096973183865430803353842046070583908428443057047007612708099718056360264953232925104644888389281491340645147138094193588994314790313238200874355 x17_33 y17_33 (.leaf)))))
theorem k17 : m17.all (known tab1 100 214) = true := MTree.all_node (MTree.all_node (MTree.all_node (MTree.all_node (MTree.all_node (MTree.all_node (rfl) q17_0 (rfl)) q17_1 (rfl)) q17_2 (MTree.all_node (rfl) q17_3 (rfl))) q17_4 (MTree.all_node (MTree.all_node (rfl) q17_5 (rfl)) q17_6 (MTree.all_node (rfl) q17_7 (rfl)))) q17_8 (MTree.all_node (MTree.all_node (MTree.all_node (MTree.all_node (rfl) q17_9 (rfl)) q17_10 (rfl)) q17_11 (MTree.all_node (rfl) q17_12 (rfl))) q17_13 (MTree.all_node (MTree.all_node (rfl) q17_14 (rfl)) q17_15 (MTree.all_node (rfl) q17_16 (rfl))))) q17_17 (MTree.all_node (MTree.all_node (MTree.all_node (MTree.all_node (MTree.all_node (rfl) q17_18 (rfl)) q17_19 (rfl)) q17_20 (MTree.all_node (rfl) q17_21 (rfl))) q17_22 (MTree.all_node (MTree.all_node (rfl) q17_23 (rfl)) q17_24 (MTree.all_node (rfl) q17_25 (rfl)))) q17_26 (MTree.all_node (MTree.all_node (MTree.all_node (rfl) q17_27 (rfl)) q17_28 (MTree.all_node (rfl) q17_29 (rfl))) q17_30 (MTree.all_node (MTree.all_node (rfl) q17_31 (rfl)) q17_32 (MTree.all_node (rfl) q17_33 (rfl)))))
noncomputable def g17 : Ent Tryz.prog 9 := e214.memo m17 (by kernel_rfl) Tryz.call214 k17
end Go.Proofs.YtknjkljigmepjaaGreatDoor
end
section
namespace Go.Proofs.YtknjkljigmepjaaGreatDoor
open Go.Proofs.YtknjkljigmepjaaGreatDoor.Clo Go.RowKit
set_option maxRecDepth 1000000
set_option maxHeartbeats 0
noncomputable def x18_0 : AV := vL [.s [97]]
noncomputable def y18_0 : AV := (.b true)
noncomputable def x18_1 : AV := vL [.s [116,111]]
noncomputable def y18_1 : AV := (.b true)
noncomputable def x18_2 : AV := vL [.s [107,101,121]]
noncomputable def y18_2 : AV := (.b true)
noncomputable def x18_3 : AV := vL [.s [114,105,100]]
noncomputable def y18_3 : AV := (.b true)
noncomputable def x18_4 : AV := vL [.s [115,105,100]]
noncomputable def y18_4 : AV := (.b true)
noncomputable def x18_5 : AV := vL [.s [98,105,110,100]]
noncomputable def y18_5 : AV := (.b true)
noncomputable def x18_6 : AV := vL [.s [98,111,100,121]]
noncomputable def y18_6 : AV := (.b true)
noncomputable def x18_7 : AV := vL [.s [102,114,111,109]]
noncomputable def y18_7 : AV := (.b true)
noncomputable def x18_8 : AV := vL [.s [104,111,108,100]]
noncomputable def y18_8 : AV := (.b true)
noncomputable def x18_9 : AV := vL [.s [116,121,112,101]]
noncomputable def y18_9 : AV := (.b true)
noncomputable def x18_10 : AV := vL [.s [119,97,105,116]]
noncomputable def y18_10 : AV := (.b true)
noncomputable def x18_11 : AV := vL [.s [112,97,117,115,101]]
noncomputable def y18_11 : AV := (.b true)
noncomputable def x18_12 : AV := vL [.s [120,109,108,110,115]]
noncomputable def y18_12 : AV := (.b true)
noncomputable def x18_13 : AV := vL [.s [102,101,97,116,117,114,101,115]]
noncomputable def y18_13 : AV := (.b true)
noncomputable def x18_14 : AV := vL [.s [109,97,120,112,97,117,115,101]]
noncomputable def y18_14 : AV := (.b true)
noncomputable def x18_15 : AV := vL [.s [114,101,113,117,101,115,116,115]]
noncomputable def y18_15 : AV := (.b true)
noncomputable def x18_16 : AV := vL [.s [99,111,110,100,105,116,105,111,110]]
noncomputable def y18_16 : AV := (.b true)
noncomputable def x18_17 : AV := vL [.s [105,110,97,99,116,105,118,105,116,121]]
noncomputable def y18_17 : AV := (.b true)
noncomputable def m18 : MTree := .node (.node (.node (.node (.node (.leaf) 612 x18_0 y18_0 (.leaf)) 162279 x18_1 y18_1 (.leaf)) 41108814 x18_2 y18_2 (.node (.leaf) 41572164 x18_3 y18_3 (.leaf))) 41638213 x18_4 y18_4 (.node (.node (.node (.leaf) 10412455331 x18_5 y18_5 (.leaf)) 10412849076 x18_6 y18_6 (.leaf)) 10480948410 x18_7 y18_7 (.node (.leaf) 10514698669 x18_8 y18_8 (.leaf)))) 10719055304 x18_9 y18_9 (.node (.node (.node (.node (.leaf) 10768392123 x18_10 y18_10 (.leaf)) 2736940275237 x18_11 y18_11 (.leaf)) 2772043137849 x18_12 y18_12 (.node (.leaf) 45719065770914722921 x18_13 y18_13 (.leaf))) 46236297109178681454 x18_14 y18_14 (.node (.node (.leaf) 46607697627862220166 x18_15 y18_15 (.leaf)) 11693450698509299688402 x18_16 y18_16 (.node (.leaf) 3034542865643349535878992 x18_17 y18_17 (.leaf))))
theorem k18 : m18.all (known tab1 100 324) = true := by kernel_rfl
noncomputable def g18 : Ent Tryz.prog 9 := e324.memo m18 (by kernel_rfl) Tryz.call324 k18
end Go.Proofs.YtknjkljigmepjaaGreatDoor
end
section
namespace Go.Proofs.YtknjkljigmepjaaGreatDoor
open Go.Proofs.YtknjkljigmepjaaGreatDoor.Clo Go.RowKit
set_option maxRecDepth 1000000
set_option maxHeartbeats 0
noncomputable def x19_0 : AV := vL [.ag (vL [.s [],.s [],.s []])]
noncomputable def y19_0 : AV := (vI 8)
noncomputable def x19_1 : AV := vL [.ag (vL [.s [],.s [65],.s []])]
noncomputable def y19_1 : AV := (vI 8)
noncomputable def x19_2 : AV := vL [.ag (vL [.s [],.s [97],.s []])]
noncomputable def y19_2 : AV := (vI 0)
noncomputable def x19_3 : AV := vL [.ag (vL [.s [117],.s [97],.s []])]
noncomputable def y19_3 : AV := (vI 0)
noncomputable def x19_4 : AV := vL [.ag (vL [.s [118],.s [97],.s []])]
noncomputable def y19_4 : AV := (vI 0)
noncomputable def m19 : MTree := .node (.node (.node (.leaf) 4 x19_0 y19_0 (.leaf)) 838 x19_1 y19_1 (.leaf)) 870 x19_2 y19_2 (.node (.node (.leaf) 162780 x19_3 y19_3 (.leaf)) 163037 x19_4 y19_4 (.leaf))
theorem k19 : m19.all (known tab1 100 56) = true := by kernel_rfl
noncomputable def g19 : Ent Tryz.prog 9 := e56.memo m19 (by kernel_rfl) Tryz.call56 k19
end Go.Proofs.YtknjkljigmepjaaGreatDoor
end
