/- Part 18 of a proof laid in parts, one behind the other; no condition of its own. -/
import Derived.Test.YtknjkljigmepjaaGreatDoorZ17
import Derived.Test.YtknjkljigmepjaaGreatDoorZ16
set_option linter.all false
section
namespace Go.Proofs.YtknjkljigmepjaaGreatDoor
open Go.Proofs.YtknjkljigmepjaaGreatDoor.Clo Go.RowKit
set_option maxRecDepth 1000000
set_option maxHeartbeats 0
noncomputable def x1_0 : AV := vL [.s [32,9]]
noncomputable def y1_0 : AV := (.tu (vL [.ag (vL [.b false,.b false,.b false,.b false,.b false,.b false,.b false,.b false,.b false,.b true,.b false,.b false,.b false,.b false,.b false,.b false,.b false,.b false,.b false,.b false,.b false,.b false,.b false,.b false,.b false,.b false,.b false,.b false,.b false,.b false,.b false,.b false,.b true,.b false,.b false,.b false,.b false,.b false,.b false,.b false,.b false,.b false,.b false,.b false,.b false,.b false,.b false,.b false,.b false,.b false,.b false,.b false,.b false,.b false,.b false,.b false,.b false,.b false,.b false,.b false,.b false,.b false,.b false,.b false,.b false,.b false,.b false,.b false,.b false,.b false,.b false,.b false,.b false,.b false,.b false,.b false,.b false,.b false,.b false,.b false,.b false,.b false,.b false,.b false,.b false,.b false,.b false,.b false,.b false,.b false,.b false,.b false,.b false,.b false,.b false,.b false,.b false,.b false,.b false,.b false,.b false,.b false,.b false,.b false,.b false,.b false,.b false,.b false,.b false,.b false,.b false,.b false,.b false,.b false,.b false,.b false,.b false,.b false,.b false,.b false,.b false,.b false,.b false,.b false,.b false,.b false,.b false,.b false,.b false,.b false,.b false,.b false,.b false,.b false,.b false,.b false,.b false,.b false,.b false,.b false,.b false,.b false,.b false,.b false,.b false,.b false,.b false,.b false,.b false,.b false,.b false,.b false,.b false,.b false,.b false,.b false,.b false,.b false,.b false,.b false,.b false,.b false,.b false,.b false,.b false,.b false,.b false,.b false,.b false,.b false,.b false,.b false,.b false,.b false,.b false,.b false,.b false,.b false,.b false,.b false,.b false,.b false,.b false,.b false,.b false,.b false,.b false,.b false,.b false,.b false,.b false,.b false,.b false,.b false,.b false,.b false,.b false,.b false,.b false,.b false,.b false,.b false,.b false,.b false,.b false,.b false,.b false,.b false,.b false,.b false,.b false,.b false,.b false,.b false,.b false,.b false,.b false,.b false,.b false,.b false,.b false,.b false,.b false,.b false,.b false,.b false,.b false,.b false,.b false,.b false,.b false,.b false,.b false,.b false,.b false,.b false,.b false,.b false,.b false,.b false,.b false,.b false,.b false,.b false,.b false,.b false,.b false,.b false,.b false,.b false,.b false,.b false,.b false,.b false,.b false,.b false]),.b true]))
noncomputable def x1_1 : AV := vL [.s [32,9,10,13]]
noncomputable def y1_1 : AV := (.tu (vL [.ag (vL [.b false,.b false,.b false,.b false,.b false,.b false,.b false,.b false,.b false,.b true,.b true,.b false,.b false,.b true,.b false,.b false,.b false,.b false,.b false,.b false,.b false,.b false,.b false,.b false,.b false,.b false,.b false,.b false,.b false,.b false,.b false,.b false,.b true,.b false,.b false,.b false,.b false,.b false,.b false,.b false,.b false,.b false,.b false,.b false,.b false,.b false,.b false,.b false,.b false,.b false,.b false,.b false,.b false,.b false,.b false,.b false,.b false,.b false,.b false,.b false,.b false,.b false,.b false,.b false,.b false,.b false,.b false,.b false,.b false,.b false,.b false,.b false,.b false,.b false,.b false,.b false,.b false,.b false,.b false,.b false,.b false,.b false,.b false,.b false,.b false,.b false,.b false,.b false,.b false,.b false,.b false,.b false,.b false,.b false,.b false,.b false,.b false,.b false,.b false,.b false,.b false,.b false,.b false,.b false,.b false,.b false,.b false,.b false,.b false,.b false,.b false,.b false,.b false,.b false,.b false,.b false,.b false,.b false,.b false,.b false,.b false,.b false,.b false,.b false,.b false,.b false,.b false,.b false,.b false,.b false,.b false,.b false,.b false,.b false,.b false,.b false,.b false,.b false,.b false,.b false,.b false,.b false,.b false,.b false,.b false,.b false,.b false,.b false,.b false,.b false,.b false,.b false,.b false,.b false,.b false,.b false,.b false,.b false,.b false,.b false,.b false,.b false,.b false,.b false,.b false,.b false,.b false,.b false,.b false,.b false,.b false,.b false,.b false,.b false,.b false,.b false,.b false,.b false,.b false,.b false,.b false,.b false,.b false,.b false,.b false,.b false,.b false,.b false,.b false,.b false,.b false,.b false,.b false,.b false,.b false,.b false,.b false,.b false,.b false,.b false,.b false,.b false,.b false,.b false,.b false,.b false,.b false,.b false,.b false,.b false,.b false,.b false,.b false,.b false,.b false,.b false,.b false,.b false,.b false,.b false,.b false,.b false,.b false,.b false,.b false,.b false,.b false,.b false,.b false,.b false,.b false,.b false,.b false,.b false,.b false,.b false,.b false,.b false,.b false,.b false,.b false,.b false,.b false,.b false,.b false,.b false,.b false,.b false,.b false,.b false,.b false,.b false,.b false,.b false,.b false,.b false]),.b true]))
noncomputable def x1_2 : AV := vL [.s [97,98,99,100,101,102,103,104,105,106,107,108,109,110,111,112,113,114,115,116,117,118,119,120,121,122,48,49,50,51,52,53,54,55,56,57,46,45]]
noncomputable def y1_2 : AV := (.tu (vL [.ag (vL [.b false,.b false,.b false,.b false,.b false,.b false,.b false,.b false,.b false,.b false,.b false,.b false,.b false,.b false,.b false,.b false,.b false,.b false,.b false,.b false,.b false,.b false,.b false,.b false,.b false,.b false,.b false,.b false,.b false,.b false,.b false,.b false,.b false,.b false,.b false,.b false,.b false,.b false,.b false,.b false,.b false,.b false,.b false,.b false,.b false,.b true,.b true,.b false,.b true,.b true,.b true,.b true,.b true,.b true,.b true,.b true,.b true,.b true,.b false,.b false,.b false,.b false,.b false,.b false,.b false,.b false,.b false,.b false,.b false,.b false,.b false,.b false,.b false,.b false,.b false,.b false,.b false,.b false,.b false,.b false,.b false,.b false,.b false,.b false,.b false,.b false,.b false,.b false,.b false,.b false,.b false,.b false,.b false,.b false,.b false,.b false,.b false,.b true,.b true,.b true,.b true,.b true,.b true,.b true,.b true,.b true,.b true,.b true,.b true,.b true,.b true,.b true,.b true,.b true,.b true,.b true,.b true,.b true,.b true,.b true,.b true,.b true,.b true,.b false,.b false,.b false,.b false,.b false,.b false,.b false,.b false,.b false,.b false,.b false,.b false,.b false,.b false,.b false,.b false,.b false,.b false,.b false,.b false,.b false,.b false,.b false,.b false,.b false,.b false,.b false,.b false,.b false,.b false,.b false,.b false,.b false,.b false,.b false,.b false,.b false,.b false,.b false,.b false,.b false,.b false,.b false,.b false,.b false,.b false,.b false,.b false,.b false,.b false,.b false,.b false,.b false,.b false,.b false,.b false,.b false,.b false,.b false,.b false,.b false,.b false,.b false,.b false,.b false,.b false,.b false,.b false,.b false,.b false,.b false,.b false,.b false,.b false,.b false,.b false,.b false,.b false,.b false,.b false,.b false,.b false,.b false,.b false,.b false,.b false,.b false,.b false,.b false,.b false,.b false,.b false,.b false,.b false,.b false,.b false,.b false,.b false,.b false,.b false,.b false,.b false,.b false,.b false,.b false,.b false,.b false,.b false,.b false,.b false,.b false,.b false,.b false,.b false,.b false,.b false,.b false,.b false,.b false,.b false,.b false,.b false,.b false,.b false,.b false,.b false,.b false,.b false,.b false,.b false,.b false,.b false,.b false]),.b true]))
noncomputable def x1_3 : AV := vL [.s [97,98,99,100,101,102,103,104,105,106,107,108,109,110,111,112,113,114,115,116,117,118,119,120,121,122,48,49,50,51,52,53,54,55,56,57,46,45,95]]
noncomputable def y1_3 : AV := (.tu (vL [.ag (vL [.b false,.b false,.b false,.b false,.b false,.b false,.b false,.b false,.b false,.b false,.b false,.b false,.b false,.b false,.b false,.b false,.b false,.b false,.b false,.b false,.b false,.b false,.b false,.b false,.b false,.b false,.b false,.b false,.b false,.b false,.b false,.b false,.b false,.b false,.b false,.b false,.b false,.b false,.b false,.b false,.b false,.b false,.b false,.b false,.b false,.b true,.b true,.b false,.b true,.b true,.b true,.b true,.b true,.b true,.b true,.b true,.b true,.b true,.b false,.b false,.b false,.b false,.b false,.b false,.b false,.b false,.b false,.b false,.b false,.b false,.b false,.b false,.b false,.b false,.b false,.b false,.b false,.b false,.b false,.b false,.b false,.b false,.b false,.b false,.b false,.b false,.b false,.b false,.b false,.b false,.b false,.b false,.b false,.b false,.b false,.b true,.b false,.b true,.b true,.b true,.b true,.b true,.b true,.b true,.b true,.b true,.b true,.b true,.b true,.b true,.b true,.b true,.b true,.b true,.b true,.b true,.b true,.b true,.b true,.b true,.b true,.b true,.b true,.b false,.b false,.b false,.b false,.b false,.b false,.b false,.b false,.b false,.b false,.b false,.b false,.b false,.b false,.b false,.b false,.b false,.b false,.b false,.b false,.b false,.b false,.b false,.b false,.b false,.b false,.b false,.b false,.b false,.b false,.b false,.b false,.b false,.b false,.b false,.b false,.b false,.b false,.b false,.b false,.b false,.b false,.b false,.b false,.b false,.b false,.b false,.b false,.b false,.b false,.b false,.b false,.b false,.b false,.b false,.b false,.b false,.b false,.b false,.b false,.b false,.b false,.b false,.b false,.b false,.b false,.b false,.b false,.b false,.b false,.b false,.b false,.b false,.b false,.b false,.b false,.b false,.b false,.b false,.b false,.b false,.b false,.b false,.b false,.b false,.b false,.b false,.b false,.b false,.b false,.b false,.b false,.b false,.b false,.b false,.b false,.b false,.b false,.b false,.b false,.b false,.b false,.b false,.b false,.b false,.b false,.b false,.b false,.b false,.b false,.b false,.b false,.b false,.b false,.b false,.b false,.b false,.b false,.b false,.b false,.b false,.b false,.b false,.b false,.b false,.b false,.b false,.b false,.b false,.b false,.b false,.b false,.b false]),.b true]))
noncomputable def m1 : MTree := .node (.node (.node (.leaf) 140589 x1_0 y1_0 (.leaf)) 9285765702 x1_1 y1_1 (.leaf)) 90064021992585439462221406920126682555272607701403965346550315117711650339502700068713269679 x1_2 y1_2 (.node (.leaf) 23146453652094457941790901578472557416705060179260819094063430985251894137252193917659310307599 x1_3 y1_3 (.leaf))
theorem k1 : m1.all (known tab0 100 197) = true := by kernel_rfl
noncomputable def g1 : Ent Tryz.prog 9 := e197.memo m1 (by kernel_rfl) Tryz.call197 k1
end Go.Proofs.YtknjkljigmepjaaGreatDoor
end
section
namespace Go.Proofs.YtknjkljigmepjaaGreatDoor
open Go.Proofs.YtknjkljigmepjaaGreatDoor.Clo Go.RowKit
set_option maxRecDepth 1000000
set_option maxHeartbeats 0
noncomputable def x2_0 : AV := vL [.i .i32 45]
noncomputable def y2_0 : AV := (.i .i32 45)
noncomputable def x2_1 : AV := vL [.i .i32 46]
noncomputable def y2_1 : AV := (.i .i32 46)
noncomputable def x2_2 : AV := vL [.i .i32 47]
noncomputable def y2_2 : AV := (.i .i32 47)
noncomputable def x2_3 : AV := vL [.i .i32 48]
noncomputable def y2_3 : AV := (.i .i32 48)
noncomputable def x2_4 : AV := vL [.i .i32 49]
noncomputable def y2_4 : AV := (.i .i32 49)
noncomputable def x2_5 : AV := vL [.i .i32 50]
noncomputable def y2_5 : AV := (.i .i32 50)
noncomputable def x2_6 : AV := vL [.i .i32 51]
noncomputable def y2_6 : AV := (.i .i32 51)
noncomputable def x2_7 : AV := vL [.i .i32 52]
noncomputable def y2_7 : AV := (.i .i32 52)
noncomputable def x2_8 : AV := vL [.i .i32 53]
noncomputable def y2_8 : AV := (.i .i32 53)
noncomputable def x2_9 : AV := vL [.i .i32 54]
noncomputable def y2_9 : AV := (.i .i32 54)
noncomputable def x2_10 : AV := vL [.i .i32 55]
noncomputable def y2_10 : AV := (.i .i32 55)
noncomputable def x2_11 : AV := vL [.i .i32 56]
noncomputable def y2_11 : AV := (.i .i32 56)
noncomputable def x2_12 : AV := vL [.i .i32 57]
noncomputable def y2_12 : AV := (.i .i32 57)
noncomputable def x2_13 : AV := vL [.i .i32 58]
noncomputable def y2_13 : AV := (.i .i32 58)
noncomputable def x2_14 : AV := vL [.i .i32 64]
noncomputable def y2_14 : AV := (.i .i32 64)
noncomputable def x2_15 : AV := vL [.i .i32 97]
noncomputable def y2_15 : AV := (.i .i32 97)
noncomputable def x2_16 : AV := vL [.i .i32 98]
noncomputable def y2_16 : AV := (.i .i32 98)
noncomputable def x2_17 : AV := vL [.i .i32 99]
noncomputable def y2_17 : AV := (.i .i32 99)
noncomputable def x2_18 : AV := vL [.i .i32 100]
noncomputable def y2_18 : AV := (.i .i32 100)
noncomputable def x2_19 : AV := vL [.i .i32 101]
noncomputable def y2_19 : AV := (.i .i32 101)
noncomputable def x2_20 : AV := vL [.i .i32 102]
noncomputable def y2_20 : AV := (.i .i32 102)
noncomputable def x2_21 : AV := vL [.i .i32 103]
noncomputable def y2_21 : AV := (.i .i32 103)
noncomputable def x2_22 : AV := vL [.i .i32 104]
noncomputable def y2_22 : AV := (.i .i32 104)
noncomputable def x2_23 : AV := vL [.i .i32 105]
noncomputable def y2_23 : AV := (.i .i32 105)
noncomputable def x2_24 : AV := vL [.i .i32 106]
noncomputable def y2_24 : AV := (.i .i32 106)
noncomputable def x2_25 : AV := vL [.i .i32 108]
noncomputable def y2_25 : AV := (.i .i32 108)
noncomputable def x2_26 : AV := vL [.i .i32 109]
noncomputable def y2_26 : AV := (.i .i32 109)
noncomputable def x2_27 : AV := vL [.i .i32 110]
noncomputable def y2_27 : AV := (.i .i32 110)
noncomputable def x2_28 : AV := vL [.i .i32 111]
noncomputable def y2_28 : AV := (.i .i32 111)
noncomputable def x2_29 : AV := vL [.i .i32 112]
noncomputable def y2_29 : AV := (.i .i32 112)
noncomputable def x2_30 : AV := vL [.i .i32 114]
noncomputable def y2_30 : AV := (.i .i32 114)
noncomputable def x2_31 : AV := vL [.i .i32 115]
noncomputable def y2_31 : AV := (.i .i32 115)
noncomputable def x2_32 : AV := vL [.i .i32 116]
noncomputable def y2_32 : AV := (.i .i32 116)
noncomputable def x2_33 : AV := vL [.i .i32 117]
noncomputable def y2_33 : AV := (.i .i32 117)
noncomputable def x2_34 : AV := vL [.i .i32 118]
noncomputable def y2_34 : AV := (.i .i32 118)
noncomputable def x2_35 : AV := vL [.i .i32 120]
noncomputable def y2_35 : AV := (.i .i32 120)
noncomputable def x2_36 : AV := vL [.i .i32 121]
noncomputable def y2_36 : AV := (.i .i32 121)
noncomputable def m2 : MTree := .node (.node (.node (.node (.node (.node (.leaf) 1000048 x2_0 y2_0 (.leaf)) 1000049 x2_1 y2_1 (.leaf)) 1000050 x2_2 y2_2 (.node (.leaf) 1000051 x2_3 y2_3 (.leaf))) 1000052 x2_4 y2_4 (.node (.node (.node (.leaf) 1000053 x2_5 y2_5 (.leaf)) 1000054 x2_6 y2_6 (.leaf)) 1000055 x2_7 y2_7 (.node (.leaf) 1000056 x2_8 y2_8 (.leaf)))) 1000057 x2_9 y2_9 (.node (.node (.node (.node (.leaf) 1000058 x2_10 y2_10 (.leaf)) 1000059 x2_11 y2_11 (.leaf)) 1000060 x2_12 y2_12 (.node (.leaf) 1000061 x2_13 y2_13 (.leaf))) 1000067 x2_14 y2_14 (.node (.node (.leaf) 1000100 x2_15 y2_15 (.leaf)) 1000101 x2_16 y2_16 (.node (.leaf) 1000102 x2_17 y2_17 (.leaf))))) 1000103 x2_18 y2_18 (.node (.node (.node (.node (.node (.leaf) 1000104 x2_19 y2_19 (.leaf)) 1000105 x2_20 y2_20 (.leaf)) 1000106 x2_21 y2_21 (.node (.leaf) 1000107 x2_22 y2_22 (.leaf))) 1000108 x2_23 y2_23 (.node (.node (.node (.leaf) 1000109 x2_24 y2_24 (.leaf)) 1000111 x2_25 y2_25 (.leaf)) 1000112 x2_26 y2_26 (.node (.leaf) 1000113 x2_27 y2_27 (.leaf)))) 1000114 x2_28 y2_28 (.node (.node (.node (.node (.leaf) 1000115 x2_29 y2_29 (.leaf)) 1000117 x2_30 y2_30 (.leaf)) 1000118 x2_31 y2_31 (.node (.leaf) 1000119 x2_32 y2_32 (.leaf))) 1000120 x2_33 y2_33 (.node (.node (.leaf) 1000121 x2_34 y2_34 (.leaf)) 1000123 x2_35 y2_35 (.node (.leaf) 1000124 x2_36 y2_36 (.leaf)))))
theorem k2 : m2.all (known tab0 100 623) = true := by kernel_rfl
noncomputable def g2 : Ent Tryz.prog 9 := e623.memo m2 (by kernel_rfl) Tryz.call623 k2
end Go.Proofs.YtknjkljigmepjaaGreatDoor
end
section
namespace Go.Proofs.YtknjkljigmepjaaGreatDoor
open Go.Proofs.YtknjkljigmepjaaGreatDoor.Clo Go.RowKit
set_option maxRecDepth 1000000
set_option maxHeartbeats 0
noncomputable def x3_0 : AV := vL [vI 32]
noncomputable def y3_0 : AV := (.b true)
noncomputable def x3_1 : AV := vL [vI 34]
noncomputable def y3_1 : AV := (.b true)
noncomputable def x3_2 : AV := vL [vI 45]
noncomputable def y3_2 : AV := (.b true)
noncomputable def x3_3 : AV := vL [vI 46]
noncomputable def y3_3 : AV := (.b true)
noncomputable def x3_4 : AV := vL [vI 47]
noncomputable def y3_4 : AV := (.b true)
noncomputable def x3_5 : AV := vL [vI 48]
noncomputable def y3_5 : AV := (.b true)
noncomputable def x3_6 : AV := vL [vI 49]
noncomputable def y3_6 : AV := (.b true)
noncomputable def x3_7 : AV := vL [vI 50]
noncomputable def y3_7 : AV := (.b true)
noncomputable def x3_8 : AV := vL [vI 51]
noncomputable def y3_8 : AV := (.b true)
noncomputable def x3_9 : AV := vL [vI 52]
noncomputable def y3_9 : AV := (.b true)
noncomputable def x3_10 : AV := vL [vI 53]
noncomputable def y3_10 : AV := (.b true)
noncomputable def x3_11 : AV := vL [vI 54]
noncomputable def y3_11 : AV := (.b true)
noncomputable def x3_12 : AV := vL [vI 55]
noncomputable def y3_12 : AV := (.b true)
noncomputable def x3_13 : AV := vL [vI 56]
noncomputable def y3_13 : AV := (.b true)
noncomputable def x3_14 : AV := vL [vI 57]
noncomputable def y3_14 : AV := (.b true)
noncomputable def x3_15 : AV := vL [vI 58]
noncomputable def y3_15 : AV := (.b true)
noncomputable def x3_16 : AV := vL [vI 60]
noncomputable def y3_16 : AV := (.b true)
noncomputable def x3_17 : AV := vL [vI 61]
noncomputable def y3_17 : AV := (.b true)
noncomputable def x3_18 : AV := vL [vI 62]
noncomputable def y3_18 : AV := (.b true)
noncomputable def x3_19 : AV := vL [vI 64]
noncomputable def y3_19 : AV := (.b true)
noncomputable def x3_20 : AV := vL [vI 97]
noncomputable def y3_20 : AV := (.b true)
noncomputable def x3_21 : AV := vL [vI 98]
noncomputable def y3_21 : AV := (.b true)
noncomputable def x3_22 : AV := vL [vI 99]
noncomputable def y3_22 : AV := (.b true)
noncomputable def x3_23 : AV := vL [vI 100]
noncomputable def y3_23 : AV := (.b true)
noncomputable def x3_24 : AV := vL [vI 101]
noncomputable def y3_24 : AV := (.b true)
noncomputable def x3_25 : AV := vL [vI 102]
noncomputable def y3_25 : AV := (.b true)
noncomputable def x3_26 : AV := vL [vI 103]
noncomputable def y3_26 : AV := (.b true)
noncomputable def x3_27 : AV := vL [vI 104]
noncomputable def y3_27 : AV := (.b true)
noncomputable def x3_28 : AV := vL [vI 105]
noncomputable def y3_28 : AV := (.b true)
noncomputable def x3_29 : AV := vL [vI 106]
noncomputable def y3_29 : AV := (.b true)
noncomputable def x3_30 : AV := vL [vI 107]
noncomputable def y3_30 : AV := (.b true)
noncomputable def x3_31 : AV := vL [vI 108]
noncomputable def y3_31 : AV := (.b true)
noncomputable def x3_32 : AV := vL [vI 109]
noncomputable def y3_32 : AV := (.b true)
noncomputable def x3_33 : AV := vL [vI 110]
noncomputable def y3_33 : AV := (.b true)
noncomputable def x3_34 : AV := vL [vI 111]
noncomputable def y3_34 : AV := (.b true)
noncomputable def x3_35 : AV := vL [vI 112]
noncomputable def y3_35 : AV := (.b true)
noncomputable def x3_36 : AV := vL [vI 113]
noncomputable def y3_36 : AV := (.b true)
noncomputable def x3_37 : AV := vL [vI 114]
noncomputable def y3_37 : AV := (.b true)
noncomputable def x3_38 : AV := vL [vI 115]
noncomputable def y3_38 : AV := (.b true)
noncomputable def x3_39 : AV := vL [vI 116]
noncomputable def y3_39 : AV := (.b true)
noncomputable def x3_40 : AV := vL [vI 117]
noncomputable def y3_40 : AV := (.b true)
noncomputable def x3_41 : AV := vL [vI 118]
noncomputable def y3_41 : AV := (.b true)
noncomputable def x3_42 : AV := vL [vI 119]
noncomputable def y3_42 : AV := (.b true)
noncomputable def x3_43 : AV := vL [vI 120]
noncomputable def y3_43 : AV := (.b true)
noncomputable def x3_44 : AV := vL [vI 121]
noncomputable def y3_44 : AV := (.b true)
noncomputable def m3 : MTree := .node (.node (.node (.node (.node (.node (.leaf) 1000035 x3_0 y3_0 (.leaf)) 1000037 x3_1 y3_1 (.leaf)) 1000048 x3_2 y3_2 (.node (.node (.leaf) 1000049 x3_3 y3_3 (.leaf)) 1000050 x3_4 y3_4 (.leaf))) 1000051 x3_5 y3_5 (.node (.node (.node (.leaf) 1000052 x3_6 y3_6 (.leaf)) 1000053 x3_7 y3_7 (.leaf)) 1000054 x3_8 y3_8 (.node (.node (.leaf) 1000055 x3_9 y3_9 (.leaf)) 1000056 x3_10 y3_10 (.leaf)))) 1000057 x3_11 y3_11 (.node (.node (.node (.node (.leaf) 1000058 x3_12 y3_12 (.leaf)) 1000059 x3_13 y3_13 (.leaf)) 1000060 x3_14 y3_14 (.node (.node (.leaf) 1000061 x3_15 y3_15 (.leaf)) 1000063 x3_16 y3_16 (.leaf))) 1000064 x3_17 y3_17 (.node (.node (.node (.leaf) 1000065 x3_18 y3_18 (.leaf)) 1000067 x3_19 y3_19 (.leaf)) 1000100 x3_20 y3_20 (.node (.leaf) 1000101 x3_21 y3_21 (.leaf))))) 1000102 x3_22 y3_22 (.node (.node (.node (.node (.node (.leaf) 1000103 x3_23 y3_23 (.leaf)) 1000104 x3_24 y3_24 (.leaf)) 1000105 x3_25 y3_25 (.node (.node (.leaf) 1000106 x3_26 y3_26 (.leaf)) 1000107 x3_27 y3_27 (.leaf))) 1000108 x3_28 y3_28 (.node (.node (.node (.leaf) 1000109 x3_29 y3_29 (.leaf)) 1000110 x3_30 y3_30 (.leaf)) 1000111 x3_31 y3_31 (.node (.node (.leaf) 1000112 x3_32 y3_32 (.leaf)) 1000113 x3_33 y3_33 (.leaf)))) 1000114 x3_34 y3_34 (.node (.node (.node (.node (.leaf) 1000115 x3_35 y3_35 (.leaf)) 1000116 x3_36 y3_36 (.leaf)) 1000117 x3_37 y3_37 (.node (.node (.leaf) 1000118 x3_38 y3_38 (.leaf)) 1000119 x3_39 y3_39 (.leaf))) 1000120 x3_40 y3_40 (.node (.node (.node (.leaf) 1000121 x3_41 y3_41 (.leaf)) 1000122 x3_42 y3_42 (.leaf)) 1000123 x3_43 y3_43 (.node (.leaf) 1000124 x3_44 y3_44 (.leaf)))))
theorem k3 : m3.all (known tab0 100 418) = true := by kernel_rfl
noncomputable def g3 : Ent Tryz.prog 9 := e418.memo m3 (by kernel_rfl) Tryz.call418 k3
end Go.Proofs.YtknjkljigmepjaaGreatDoor
end
section
namespace Go.Proofs.YtknjkljigmepjaaGreatDoor
open Go.Proofs.YtknjkljigmepjaaGreatDoor.Clo Go.RowKit
set_option maxRecDepth 1000000
set_option maxHeartbeats 0
noncomputable def x4_0 : AV := vL [.i .u8 32,.b false]
noncomputable def y4_0 : AV := (.b false)
noncomputable def x4_1 : AV := vL [.i .u8 61,.b false]
noncomputable def y4_1 : AV := (.b false)
noncomputable def x4_2 : AV := vL [.i .u8 62,.b false]
noncomputable def y4_2 : AV := (.b false)
noncomputable def x4_3 : AV := vL [.i .u8 97,.b false]
noncomputable def y4_3 : AV := (.b true)
noncomputable def x4_4 : AV := vL [.i .u8 97,.b true]
noncomputable def y4_4 : AV := (.b true)
noncomputable def x4_5 : AV := vL [.i .u8 98,.b false]
noncomputable def y4_5 : AV := (.b true)
noncomputable def x4_6 : AV := vL [.i .u8 98,.b true]
noncomputable def y4_6 : AV := (.b true)
noncomputable def x4_7 : AV := vL [.i .u8 99,.b false]
noncomputable def y4_7 : AV := (.b true)
noncomputable def x4_8 : AV := vL [.i .u8 99,.b true]
noncomputable def y4_8 : AV := (.b true)
noncomputable def x4_9 : AV := vL [.i .u8 100,.b false]
noncomputable def y4_9 : AV := (.b true)
noncomputable def x4_10 : AV := vL [.i .u8 101,.b false]
noncomputable def y4_10 : AV := (.b true)
noncomputable def x4_11 : AV := vL [.i .u8 102,.b false]
noncomputable def y4_11 : AV := (.b true)
noncomputable def x4_12 : AV := vL [.i .u8 102,.b true]
noncomputable def y4_12 : AV := (.b true)
noncomputable def x4_13 : AV := vL [.i .u8 104,.b false]
noncomputable def y4_13 : AV := (.b true)
noncomputable def x4_14 : AV := vL [.i .u8 104,.b true]
noncomputable def y4_14 : AV := (.b true)
noncomputable def x4_15 : AV := vL [.i .u8 105,.b false]
noncomputable def y4_15 : AV := (.b true)
noncomputable def x4_16 : AV := vL [.i .u8 105,.b true]
noncomputable def y4_16 : AV := (.b true)
noncomputable def x4_17 : AV := vL [.i .u8 107,.b false]
noncomputable def y4_17 : AV := (.b true)
noncomputable def x4_18 : AV := vL [.i .u8 107,.b true]
noncomputable def y4_18 : AV := (.b true)
noncomputable def x4_19 : AV := vL [.i .u8 108,.b false]
noncomputable def y4_19 : AV := (.b true)
noncomputable def x4_20 : AV := vL [.i .u8 109,.b false]
noncomputable def y4_20 : AV := (.b true)
noncomputable def x4_21 : AV := vL [.i .u8 109,.b true]
noncomputable def y4_21 : AV := (.b true)
noncomputable def x4_22 : AV := vL [.i .u8 110,.b false]
noncomputable def y4_22 : AV := (.b true)
noncomputable def x4_23 : AV := vL [.i .u8 111,.b false]
noncomputable def y4_23 : AV := (.b true)
noncomputable def x4_24 : AV := vL [.i .u8 112,.b false]
noncomputable def y4_24 : AV := (.b true)
noncomputable def x4_25 : AV := vL [.i .u8 112,.b true]
noncomputable def y4_25 : AV := (.b true)
noncomputable def x4_26 : AV := vL [.i .u8 113,.b false]
noncomputable def y4_26 : AV := (.b true)
noncomputable def x4_27 : AV := vL [.i .u8 114,.b false]
noncomputable def y4_27 : AV := (.b true)
noncomputable def x4_28 : AV := vL [.i .u8 114,.b true]
noncomputable def y4_28 : AV := (.b true)
noncomputable def x4_29 : AV := vL [.i .u8 115,.b false]
noncomputable def y4_29 : AV := (.b true)
noncomputable def x4_30 : AV := vL [.i .u8 115,.b true]
noncomputable def y4_30 : AV := (.b true)
noncomputable def x4_31 : AV := vL [.i .u8 116,.b false]
noncomputable def y4_31 : AV := (.b true)
noncomputable def x4_32 : AV := vL [.i .u8 116,.b true]
noncomputable def y4_32 : AV := (.b true)
noncomputable def x4_33 : AV := vL [.i .u8 117,.b false]
noncomputable def y4_33 : AV := (.b true)
noncomputable def x4_34 : AV := vL [.i .u8 118,.b false]
noncomputable def y4_34 : AV := (.b true)
noncomputable def x4_35 : AV := vL [.i .u8 119,.b false]
noncomputable def y4_35 : AV := (.b true)
noncomputable def x4_36 : AV := vL [.i .u8 119,.b true]
noncomputable def y4_36 : AV := (.b true)
noncomputable def x4_37 : AV := vL [.i .u8 120,.b false]
noncomputable def y4_37 : AV := (.b true)
noncomputable def x4_38 : AV := vL [.i .u8 120,.b true]
noncomputable def y4_38 : AV := (.b true)
noncomputable def x4_39 : AV := vL [.i .u8 121,.b false]
noncomputable def y4_39 : AV := (.b true)
noncomputable def m4 : MTree := .node (.node (.node (.node (.node (.node (.leaf) 3000105 x4_0 y4_0 (.leaf)) 3000192 x4_1 y4_1 (.leaf)) 3000195 x4_2 y4_2 (.node (.node (.leaf) 3000300 x4_3 y4_3 (.leaf)) 3000301 x4_4 y4_4 (.leaf))) 3000303 x4_5 y4_5 (.node (.node (.node (.leaf) 3000304 x4_6 y4_6 (.leaf)) 3000306 x4_7 y4_7 (.leaf)) 3000307 x4_8 y4_8 (.node (.leaf) 3000309 x4_9 y4_9 (.leaf)))) 3000312 x4_10 y4_10 (.node (.node (.node (.node (.leaf) 3000315 x4_11 y4_11 (.leaf)) 3000316 x4_12 y4_12 (.leaf)) 3000321 x4_13 y4_13 (.node (.leaf) 3000322 x4_14 y4_14 (.leaf))) 3000324 x4_15 y4_15 (.node (.node (.node (.leaf) 3000325 x4_16 y4_16 (.leaf)) 3000330 x4_17 y4_17 (.leaf)) 3000331 x4_18 y4_18 (.node (.leaf) 3000333 x4_19 y4_19 (.leaf))))) 3000336 x4_20 y4_20 (.node (.node (.node (.node (.node (.leaf) 3000337 x4_21 y4_21 (.leaf)) 3000339 x4_22 y4_22 (.leaf)) 3000342 x4_23 y4_23 (.node (.leaf) 3000345 x4_24 y4_24 (.leaf))) 3000346 x4_25 y4_25 (.node (.node (.node (.leaf) 3000348 x4_26 y4_26 (.leaf)) 3000351 x4_27 y4_27 (.leaf)) 3000352 x4_28 y4_28 (.node (.leaf) 3000354 x4_29 y4_29 (.leaf)))) 3000355 x4_30 y4_30 (.node (.node (.node (.node (.leaf) 3000357 x4_31 y4_31 (.leaf)) 3000358 x4_32 y4_32 (.leaf)) 3000360 x4_33 y4_33 (.node (.leaf) 3000363 x4_34 y4_34 (.leaf))) 3000366 x4_35 y4_35 (.node (.node (.node (.leaf) 3000367 x4_36 y4_36 (.leaf)) 3000369 x4_37 y4_37 (.leaf)) 3000370 x4_38 y4_38 (.node (.leaf) 3000372 x4_39 y4_39 (.leaf)))))
theorem k4 : m4.all (known tab0 100 424) = true := by kernel_rfl
noncomputable def g4 : Ent Tryz.prog 9 := e424.memo m4 (by kernel_rfl) Tryz.call424 k4
end Go.Proofs.YtknjkljigmepjaaGreatDoor
end
section
namespace Go.Proofs.YtknjkljigmepjaaGreatDoor
open Go.Proofs.YtknjkljigmepjaaGreatDoor.Clo Go.RowKit
set_option maxRecDepth 1000000
set_option maxHeartbeats 0
noncomputable def x5_0 : AV := vL [.s [97],.s [46,46]]
noncomputable def y5_0 : AV := (.b false)
noncomputable def x5_1 : AV := vL [.s [116,111],.s [58]]
noncomputable def y5_1 : AV := (.b false)
noncomputable def x5_2 : AV := vL [.s [107,101,121],.s [58]]
noncomputable def y5_2 : AV := (.b false)
noncomputable def x5_3 : AV := vL [.s [114,105,100],.s [58]]
noncomputable def y5_3 : AV := (.b false)
noncomputable def x5_4 : AV := vL [.s [115,105,100],.s [58]]
noncomputable def y5_4 : AV := (.b false)
noncomputable def x5_5 : AV := vL [.s [102,114,111,109],.s [58]]
noncomputable def y5_5 : AV := (.b false)
noncomputable def x5_6 : AV := vL [.s [104,111,108,100],.s [58]]
noncomputable def y5_6 : AV := (.b false)
noncomputable def x5_7 : AV := vL [.s [116,121,112,101],.s [58]]
noncomputable def y5_7 : AV := (.b false)
noncomputable def x5_8 : AV := vL [.s [119,97,105,116],.s [58]]
noncomputable def y5_8 : AV := (.b false)
noncomputable def x5_9 : AV := vL [.s [112,97,117,115,101],.s [58]]
noncomputable def y5_9 : AV := (.b false)
noncomputable def x5_10 : AV := vL [.s [109,97,120,112,97,117,115,101],.s [58]]
noncomputable def y5_10 : AV := (.b false)
noncomputable def x5_11 : AV := vL [.s [114,101,113,117,101,115,116,115],.s [58]]
noncomputable def y5_11 : AV := (.b false)
noncomputable def x5_12 : AV := vL [.s [99,111,110,100,105,116,105,111,110],.s [58]]
noncomputable def y5_12 : AV := (.b false)
noncomputable def x5_13 : AV := vL [.s [105,110,97,99,116,105,118,105,116,121],.s [58]]
noncomputable def y5_13 : AV := (.b false)
noncomputable def m5 : MTree := .node (.node (.node (.node (.leaf) 40500163 x5_0 y5_0 (.leaf)) 41706019 x5_1 y5_1 (.node (.leaf) 10564965514 x5_2 y5_2 (.leaf))) 10684046464 x5_3 y5_3 (.node (.node (.leaf) 10701021057 x5_4 y5_4 (.leaf)) 2693603741686 x5_5 y5_5 (.node (.leaf) 2702277558249 x5_6 y5_6 (.leaf)))) 2754797213444 x5_7 y5_7 (.node (.node (.node (.leaf) 2767476775927 x5_8 y5_8 (.leaf)) 703393650736225 x5_9 y5_9 (.node (.leaf) 11882728357058921133994 x5_10 y5_10 (.leaf))) 11978178290360590582978 x5_11 y5_11 (.node (.node (.leaf) 3005216829516890019919630 x5_12 y5_12 (.leaf)) 779877516470340830720901260 x5_13 y5_13 (.leaf)))
theorem k5 : m5.all (known tab0 100 216) = true := by kernel_rfl
noncomputable def g5 : Ent Tryz.prog 9 := e216.memo m5 (by kernel_rfl) Tryz.call216 k5
end Go.Proofs.YtknjkljigmepjaaGreatDoor
end
section
namespace Go.Proofs.YtknjkljigmepjaaGreatDoor
open Go.Proofs.YtknjkljigmepjaaGreatDoor.Clo Go.RowKit
set_option maxRecDepth 1000000
set_option maxHeartbeats 0
noncomputable def x6_0 : AV := vL [.ag (vL [.s [],.s [116,111],.s [97]])]
noncomputable def y6_0 : AV := (.tu (vL [.s [116,111],.b false]))
noncomputable def x6_1 : AV := vL [.ag (vL [.s [],.s [114,105,100],.s [49]])]
noncomputable def y6_1 : AV := (.tu (vL [.s [114,105,100],.b false]))
noncomputable def x6_2 : AV := vL [.ag (vL [.s [],.s [115,105,100],.s [120]])]
noncomputable def y6_2 : AV := (.tu (vL [.s [115,105,100],.b false]))
noncomputable def x6_3 : AV := vL [.ag (vL [.s [],.s [102,114,111,109],.s [97]])]
noncomputable def y6_3 : AV := (.tu (vL [.s [102,114,111,109],.b false]))
noncomputable def x6_4 : AV := vL [.ag (vL [.s [],.s [104,111,108,100],.s [49]])]
noncomputable def y6_4 : AV := (.tu (vL [.s [104,111,108,100],.b false]))
noncomputable def x6_5 : AV := vL [.ag (vL [.s [],.s [114,105,100],.s [49,48]])]
noncomputable def y6_5 : AV := (.tu (vL [.s [114,105,100],.b false]))
noncomputable def x6_6 : AV := vL [.ag (vL [.s [],.s [114,105,100],.s [49,49]])]
noncomputable def y6_6 : AV := (.tu (vL [.s [114,105,100],.b false]))
noncomputable def x6_7 : AV := vL [.ag (vL [.s [],.s [114,105,100],.s [49,50]])]
noncomputable def y6_7 : AV := (.tu (vL [.s [114,105,100],.b false]))
noncomputable def x6_8 : AV := vL [.ag (vL [.s [],.s [119,97,105,116],.s [54,48]])]
noncomputable def y6_8 : AV := (.tu (vL [.s [119,97,105,116],.b false]))
noncomputable def x6_9 : AV := vL [.ag (vL [.s [],.s [102,114,111,109],.s [117,64,97]])]
noncomputable def y6_9 : AV := (.tu (vL [.s [102,114,111,109],.b false]))
noncomputable def x6_10 : AV := vL [.ag (vL [.s [],.s [112,97,117,115,101],.s [49,50,49]])]
noncomputable def y6_10 : AV := (.tu (vL [.s [112,97,117,115,101],.b false]))
noncomputable def x6_11 : AV := vL [.ag (vL [.s [],.s [114,101,113,117,101,115,116,115],.s [50]])]
noncomputable def y6_11 : AV := (.tu (vL [.s [114,101,113,117,101,115,116,115],.b false]))
noncomputable def x6_12 : AV := vL [.ag (vL [.s [],.s [109,97,120,112,97,117,115,101],.s [49,50,48]])]
noncomputable def y6_12 : AV := (.tu (vL [.s [109,97,120,112,97,117,115,101],.b false]))
noncomputable def x6_13 : AV := vL [.ag (vL [.s [],.s [105,110,97,99,116,105,118,105,116,121],.s [51,48]])]
noncomputable def y6_13 : AV := (.tu (vL [.s [105,110,97,99,116,105,118,105,116,121],.b false]))
noncomputable def x6_14 : AV := vL [.ag (vL [.s [],.s [116,121,112,101],.s [116,101,114,109,105,110,97,116,101]])]
noncomputable def y6_14 : AV := (.tu (vL [.s [116,121,112,101],.b false]))
noncomputable def x6_15 : AV := vL [.ag (vL [.s [],.s [115,105,100],.s [48,48,48,48,48,48,48,48,48,48,48,48,48,48,102,102]])]
noncomputable def y6_15 : AV := (.tu (vL [.s [115,105,100],.b false]))
noncomputable def x6_16 : AV := vL [.ag (vL [.s [],.s [99,111,110,100,105,116,105,111,110],.s [105,116,101,109,45,110,111,116,45,102,111,117,110,100]])]
noncomputable def y6_16 : AV := (.tu (vL [.s [99,111,110,100,105,116,105,111,110],.b false]))
noncomputable def x6_17 : AV := vL [.ag (vL [.s [],.s [99,111,110,100,105,116,105,111,110],.s [112,111,108,105,99,121,45,118,105,111,108,97,116,105,111,110]])]
noncomputable def y6_17 : AV := (.tu (vL [.s [99,111,110,100,105,116,105,111,110],.b false]))
noncomputable def x6_18 : AV := vL [.ag (vL [.s [],.s [120,109,108,110,115],.s [104,116,116,112,58,47,47,101,116,104,101,114,120,46,106,97,98,98,101,114,46,111,114,103,47,115,116,114,101,97,109,115]])]
noncomputable def y6_18 : AV := (.tu (vL [.s [],.b true]))
noncomputable def x6_19 : AV := vL [.ag (vL [.s [],.s [120,109,108,110,115],.s [117,114,110,58,105,101,116,102,58,112,97,114,97,109,115,58,120,109,108,58,110,115,58,120,109,112,112,45,98,105,110,100]])]
noncomputable def y6_19 : AV := (.tu (vL [.s [],.b true]))
noncomputable def x6_20 : AV := vL [.ag (vL [.s [],.s [120,109,108,110,115],.s [104,116,116,112,58,47,47,106,97,98,98,101,114,46,111,114,103,47,112,114,111,116,111,99,111,108,47,104,116,116,112,98,105,110,100]])]
noncomputable def y6_20 : AV := (.tu (vL [.s [],.b true]))
noncomputable def x6_21 : AV := vL [.ag (vL [.s [],.s [107,101,121],.s [100,97,51,57,97,51,101,101,53,101,54,98,52,98,48,100,51,50,53,53,98,102,101,102,57,53,54,48,49,56,57,48,97,102,100,56,48,55,48,57]])]
noncomputable def y6_21 : AV := (.tu (vL [.s [107,101,121],.b false]))
noncomputable def m6 : MTree := .node (.node (.node (.node (.node (.leaf) 58680651 x6_0 y6_0 (.leaf)) 15046516856 x6_1 y6_1 (.leaf)) 15063491520 x6_2 y6_2 (.node (.node (.leaf) 3814758634782 x6_3 y6_3 (.leaf)) 3823432451297 x6_4 y6_4 (.leaf))) 3866954832041 x6_5 y6_5 (.node (.node (.node (.leaf) 3866954832042 x6_6 y6_6 (.leaf)) 3866954832043 x6_7 y6_7 (.leaf)) 999378338927909 x6_8 y6_8 (.node (.node (.leaf) 251960993070054101 x6_9 y6_9 (.leaf)) 65489595237077444542 x6_10 y6_10 (.leaf)))) 16869183326258073488827 x6_11 y6_11 (.node (.node (.node (.node (.leaf) 1107888316871377530427537414 x6_12 y6_12 (.leaf)) 283451341578187755546651513271 x6_13 y6_13 (.leaf)) 73763818179297572019127682557852 x6_14 y6_14 (.node (.node (.leaf) 21228655786529542551845528307421064854466854339 x6_15 y6_15 (.leaf)) 90942094049984411565399770182426442776538212240340248408 x6_16 y6_16 (.leaf))) 6006634369907420399483099258460292503983821433699816746511222 x6_17 y6_17 (.node (.node (.node (.leaf) 510700686500090318155797768740204454918812973996389427871303720482580488359188969933813883 x6_18 y6_18 (.leaf)) 510700686500096949582541587766028150142424608028753324438320720929422721316485177933782719 x6_19 y6_19 (.leaf)) 8668936298159627613935177714673669709816760048668992311987393731551338284511398313451865614822335 x6_20 y6_20 (.node (.leaf) 145003013020019098130290092005246764678169431430971836727658818958569002293482254523788079854116069122718 x6_21 y6_21 (.leaf))))
theorem k6 : m6.all (known tab0 100 410) = true := by kernel_rfl
noncomputable def g6 : Ent Tryz.prog 9 := e410.memo m6 (by kernel_rfl) Tryz.call410 k6
end Go.Proofs.YtknjkljigmepjaaGreatDoor
end
section
namespace Go.Proofs.YtknjkljigmepjaaGreatDoor
open Go.Proofs.YtknjkljigmepjaaGreatDoor.Clo Go.RowKit
set_option maxRecDepth 1000000
set_option maxHeartbeats 0
noncomputable def x7_0 : AV := vL [.s []]
noncomputable def y7_0 : AV := (.s [])
noncomputable def x7_1 : AV := vL [.s [97]]
noncomputable def y7_1 : AV := (.s [97])
noncomputable def x7_2 : AV := vL [.s [117,64,97]]
noncomputable def y7_2 : AV := (.s [117,64,97])
noncomputable def x7_3 : AV := vL [.s [118,64,97]]
noncomputable def y7_3 : AV := (.s [118,64,97])
noncomputable def x7_4 : AV := vL [.s [104,111,115,116]]
noncomputable def y7_4 : AV := (.s [104,111,115,116])
noncomputable def x7_5 : AV := vL [.s [99,108,111,115,101]]
noncomputable def y7_5 : AV := (.s [99,108,111,115,101])
noncomputable def x7_6 : AV := vL [.s [99,111,110,110,101,99,116,105,111,110]]
noncomputable def y7_6 : AV := (.s [99,111,110,110,101,99,116,105,111,110])
noncomputable def x7_7 : AV := vL [.s [99,111,110,116,101,110,116,45,116,121,112,101]]
noncomputable def y7_7 : AV := (.s [99,111,110,116,101,110,116,45,116,121,112,101])
noncomputable def x7_8 : AV := vL [.s [99,111,110,116,101,110,116,45,108,101,110,103,116,104]]
noncomputable def y7_8 : AV := (.s [99,111,110,116,101,110,116,45,108,101,110,103,116,104])
noncomputable def m7 : MTree := .node (.node (.node (.node (.leaf) 2 x7_0 y7_0 (.leaf)) 612 x7_1 y7_1 (.leaf)) 41759771 x7_2 y7_2 (.node (.leaf) 41825820 x7_3 y7_3 (.leaf))) 10514700484 x7_4 y7_4 (.node (.node (.node (.leaf) 2680414484253 x7_5 y7_5 (.leaf)) 3005216832393699499831356 x7_6 y7_6 (.leaf)) 198491566676961515505187913976 x7_7 y7_7 (.node (.leaf) 13110169487446631137593100007861434 x7_8 y7_8 (.leaf)))
theorem k7 : m7.all (known tab0 100 283) = true := by kernel_rfl
noncomputable def g7 : Ent Tryz.prog 9 := e283.memo m7 (by kernel_rfl) Tryz.call283 k7
end Go.Proofs.YtknjkljigmepjaaGreatDoor
end
section
namespace Go.Proofs.YtknjkljigmepjaaGreatDoor
open Go.Proofs.YtknjkljigmepjaaGreatDoor.Clo Go.RowKit
set_option maxRecDepth 1000000
set_option maxHeartbeats 0
noncomputable def x8_0 : AV := vL [.s [48]]
noncomputable def y8_0 : AV := (.b true)
noncomputable def x8_1 : AV := vL [.s [32,48]]
noncomputable def y8_1 : AV := (.b true)
noncomputable def x8_2 : AV := vL [.s [32,97]]
noncomputable def y8_2 : AV := (.b true)
noncomputable def x8_3 : AV := vL [.s [53,49]]
noncomputable def y8_3 : AV := (.b true)
noncomputable def x8_4 : AV := vL [.s [54,56]]
noncomputable def y8_4 : AV := (.b true)
noncomputable def x8_5 : AV := vL [.s [57,53]]
noncomputable def y8_5 : AV := (.b true)
noncomputable def x8_6 : AV := vL [.s [57,55]]
noncomputable def y8_6 : AV := (.b true)
noncomputable def x8_7 : AV := vL [.s [32,53,49]]
noncomputable def y8_7 : AV := (.b true)
noncomputable def x8_8 : AV := vL [.s [32,54,55]]
noncomputable def y8_8 : AV := (.b true)
noncomputable def x8_9 : AV := vL [.s [32,54,56]]
noncomputable def y8_9 : AV := (.b true)
noncomputable def x8_10 : AV := vL [.s [32,56,51]]
noncomputable def y8_10 : AV := (.b true)
noncomputable def x8_11 : AV := vL [.s [32,57,53]]
noncomputable def y8_11 : AV := (.b true)
noncomputable def x8_12 : AV := vL [.s [32,57,55]]
noncomputable def y8_12 : AV := (.b true)
noncomputable def x8_13 : AV := vL [.s [50,54,50]]
noncomputable def y8_13 : AV := (.b true)
noncomputable def x8_14 : AV := vL [.s [32,49,48,48]]
noncomputable def y8_14 : AV := (.b true)
noncomputable def x8_15 : AV := vL [.s [32,49,51,48]]
noncomputable def y8_15 : AV := (.b true)
noncomputable def x8_16 : AV := vL [.s [32,50,54,50]]
noncomputable def y8_16 : AV := (.b true)
noncomputable def x8_17 : AV := vL [.s [99,108,111,115,101]]
noncomputable def y8_17 : AV := (.b true)
noncomputable def x8_18 : AV := vL [.s [32,99,108,111,115,101]]
noncomputable def y8_18 : AV := (.b true)
noncomputable def x8_19 : AV := vL [.s [116,101,120,116,47,120,109,108,59,32,99,104,97,114,115,101,116,61,117,116,102,45,56]]
noncomputable def y8_19 : AV := (.b true)
noncomputable def x8_20 : AV := vL [.s [32,116,101,120,116,47,120,109,108,59,32,99,104,97,114,115,101,116,61,117,116,102,45,56]]
noncomputable def y8_20 : AV := (.b true)
noncomputable def m8 : MTree := .node (.node (.node (.node (.node (.leaf) 563 x8_0 y8_0 (.leaf)) 140628 x8_1 y8_1 (.leaf)) 140677 x8_2 y8_2 (.node (.node (.leaf) 146026 x8_3 y8_3 (.leaf)) 146290 x8_4 y8_4 (.leaf))) 147058 x8_5 y8_5 (.node (.node (.node (.leaf) 147060 x8_6 y8_6 (.leaf)) 36142731 x8_7 y8_7 (.leaf)) 36142994 x8_8 y8_8 (.node (.leaf) 36142995 x8_9 y8_9 (.leaf)))) 36143504 x8_10 y8_10 (.node (.node (.node (.node (.leaf) 36143763 x8_11 y8_11 (.leaf)) 36143765 x8_12 y8_12 (.leaf)) 37331871 x8_13 y8_13 (.node (.node (.leaf) 9288417463 x8_14 y8_14 (.leaf)) 9288418234 x8_15 y8_15 (.leaf))) 9288485056 x8_16 y8_16 (.node (.node (.node (.leaf) 2680414484253 x8_17 y8_17 (.leaf)) 613709831200318 x8_18 y8_18 (.leaf)) 65891958249062001386908242523757918396298485347616754068 x8_19 y8_19 (.node (.leaf) 14682895052456924451731063576310007469866329525758105027253 x8_20 y8_20 (.leaf))))
theorem k8 : m8.all (known tab0 100 282) = true := by kernel_rfl
noncomputable def g8 : Ent Tryz.prog 9 := e282.memo m8 (by kernel_rfl) Tryz.call282 k8
end Go.Proofs.YtknjkljigmepjaaGreatDoor
end
section
namespace Go.Proofs.YtknjkljigmepjaaGreatDoor
open Go.Proofs.YtknjkljigmepjaaGreatDoor.Clo Go.RowKit
set_option maxRecDepth 1000000
set_option maxHeartbeats 0
noncomputable def x9_0 : AV := vL [.s [97]]
noncomputable def y9_0 : AV := (.b true)
noncomputable def x9_1 : AV := vL [.s [71,69,84]]
noncomputable def y9_1 : AV := (.b true)
noncomputable def x9_2 : AV := vL [.s [80,79,83,84]]
noncomputable def y9_2 : AV := (.b true)
noncomputable def x9_3 : AV := vL [.s [104,111,115,116]]
noncomputable def y9_3 : AV := (.b true)
noncomputable def x9_4 : AV := vL [.s [99,108,111,115,101]]
noncomputable def y9_4 : AV := (.b true)
noncomputable def x9_5 : AV := vL [.s [99,111,110,110,101,99,116,105,111,110]]
noncomputable def y9_5 : AV := (.b true)
noncomputable def x9_6 : AV := vL [.s [99,111,110,116,101,110,116,45,116,121,112,101]]
noncomputable def y9_6 : AV := (.b true)
noncomputable def x9_7 : AV := vL [.s [99,111,110,116,101,110,116,45,108,101,110,103,116,104]]
noncomputable def y9_7 : AV := (.b true)
noncomputable def m9 : MTree := .node (.node (.node (.node (.leaf) 612 x9_0 y9_0 (.leaf)) 38722789 x9_1 y9_1 (.leaf)) 10105188428 x9_2 y9_2 (.node (.leaf) 10514700484 x9_3 y9_3 (.leaf))) 2680414484253 x9_4 y9_4 (.node (.node (.leaf) 3005216832393699499831356 x9_5 y9_5 (.leaf)) 198491566676961515505187913976 x9_6 y9_6 (.node (.leaf) 13110169487446631137593100007861434 x9_7 y9_7 (.leaf)))
theorem k9 : m9.all (known tab0 100 281) = true := by kernel_rfl
noncomputable def g9 : Ent Tryz.prog 9 := e281.memo m9 (by kernel_rfl) Tryz.call281 k9
end Go.Proofs.YtknjkljigmepjaaGreatDoor
end
section
namespace Go.Proofs.YtknjkljigmepjaaGreatDoor
open Go.Proofs.YtknjkljigmepjaaGreatDoor.Clo Go.RowKit
set_option maxRecDepth 1000000
set_option maxHeartbeats 0
noncomputable def x10_0 : AV := vL [vI 0,vI 10]
noncomputable def y10_0 : AV := (.b true)
noncomputable def x10_1 : AV := vL [vI 0,vI 11]
noncomputable def y10_1 : AV := (.b true)
noncomputable def x10_2 : AV := vL [vI 1,vI 1]
noncomputable def y10_2 : AV := (.b true)
noncomputable def x10_3 : AV := vL [vI 2,vI 0]
noncomputable def y10_3 : AV := (.b true)
noncomputable def x10_4 : AV := vL [vI 2,vI 1]
noncomputable def y10_4 : AV := (.b true)
noncomputable def x10_5 : AV := vL [vI 2,vI 2]
noncomputable def y10_5 : AV := (.b true)
noncomputable def x10_6 : AV := vL [vI 2,vI 3]
noncomputable def y10_6 : AV := (.b true)
noncomputable def x10_7 : AV := vL [vI 2,vI 4]
noncomputable def y10_7 : AV := (.b true)
noncomputable def x10_8 : AV := vL [vI 2,vI 5]
noncomputable def y10_8 : AV := (.b true)
noncomputable def x10_9 : AV := vL [vI 2,vI 6]
noncomputable def y10_9 : AV := (.b true)
noncomputable def x10_10 : AV := vL [vI 2,vI 7]
noncomputable def y10_10 : AV := (.b true)
noncomputable def x10_11 : AV := vL [vI 2,vI 8]
noncomputable def y10_11 : AV := (.b true)
noncomputable def x10_12 : AV := vL [vI 2,vI 9]
noncomputable def y10_12 : AV := (.b true)
noncomputable def x10_13 : AV := vL [vI 2,vI 10]
noncomputable def y10_13 : AV := (.b true)
noncomputable def x10_14 : AV := vL [vI 2,vI 11]
noncomputable def y10_14 : AV := (.b true)
noncomputable def x10_15 : AV := vL [vI 2,vI 12]
noncomputable def y10_15 : AV := (.b true)
noncomputable def x10_16 : AV := vL [vI 2,vI 13]
noncomputable def y10_16 : AV := (.b true)
noncomputable def x10_17 : AV := vL [vI 2,vI 14]
noncomputable def y10_17 : AV := (.b true)
noncomputable def x10_18 : AV := vL [vI 2,vI 15]
noncomputable def y10_18 : AV := (.b true)
noncomputable def x10_19 : AV := vL [vI 2,vI 16]
noncomputable def y10_19 : AV := (.b true)
noncomputable def x10_20 : AV := vL [vI 2,vI 17]
noncomputable def y10_20 : AV := (.b true)
noncomputable def x10_21 : AV := vL [vI 2,vI 18]
noncomputable def y10_21 : AV := (.b true)
noncomputable def x10_22 : AV := vL [vI 2,vI 19]
noncomputable def y10_22 : AV := (.b true)
noncomputable def x10_23 : AV := vL [vI 2,vI 20]
noncomputable def y10_23 : AV := (.b true)
noncomputable def x10_24 : AV := vL [vI 2,vI 21]
noncomputable def y10_24 : AV := (.b true)
noncomputable def x10_25 : AV := vL [vI 2,vI 22]
noncomputable def y10_25 : AV := (.b true)
noncomputable def x10_26 : AV := vL [vI 2,vI 23]
noncomputable def y10_26 : AV := (.b true)
noncomputable def x10_27 : AV := vL [vI 2,vI 24]
noncomputable def y10_27 : AV := (.b true)
noncomputable def x10_28 : AV := vL [vI 2,vI 25]
noncomputable def y10_28 : AV := (.b true)
noncomputable def x10_29 : AV := vL [vI 2,vI 26]
noncomputable def y10_29 : AV := (.b true)
noncomputable def x10_30 : AV := vL [vI 2,vI 27]
noncomputable def y10_30 : AV := (.b true)
noncomputable def x10_31 : AV := vL [vI 2,vI 28]
noncomputable def y10_31 : AV := (.b true)
noncomputable def x10_32 : AV := vL [vI 2,vI 29]
noncomputable def y10_32 : AV := (.b true)
noncomputable def x10_33 : AV := vL [vI 2,vI 30]
noncomputable def y10_33 : AV := (.b true)
noncomputable def x10_34 : AV := vL [vI 2,vI 31]
noncomputable def y10_34 : AV := (.b true)
noncomputable def x10_35 : AV := vL [vI 2,vI 32]
noncomputable def y10_35 : AV := (.b true)
noncomputable def x10_36 : AV := vL [vI 2,vI 33]
noncomputable def y10_36 : AV := (.b true)
noncomputable def x10_37 : AV := vL [vI 2,vI 34]
noncomputable def y10_37 : AV := (.b true)
noncomputable def x10_38 : AV := vL [vI 2,vI 35]
noncomputable def y10_38 : AV := (.b true)
noncomputable def x10_39 : AV := vL [vI 2,vI 36]
noncomputable def y10_39 : AV := (.b true)
noncomputable def x10_40 : AV := vL [vI 2,vI 37]
noncomputable def y10_40 : AV := (.b true)
noncomputable def x10_41 : AV := vL [vI 2,vI 38]
noncomputable def y10_41 : AV := (.b true)
noncomputable def x10_42 : AV := vL [vI 2,vI 39]
noncomputable def y10_42 : AV := (.b true)
noncomputable def x10_43 : AV := vL [vI 2,vI 40]
noncomputable def y10_43 : AV := (.b true)
noncomputable def x10_44 : AV := vL [vI 2,vI 41]
noncomputable def y10_44 : AV := (.b true)
noncomputable def x10_45 : AV := vL [vI 2,vI 42]
noncomputable def y10_45 : AV := (.b true)
noncomputable def x10_46 : AV := vL [vI 2,vI 43]
noncomputable def y10_46 : AV := (.b true)
noncomputable def x10_47 : AV := vL [vI 2,vI 44]
noncomputable def y10_47 : AV := (.b true)
noncomputable def x10_48 : AV := vL [vI 2,vI 45]
noncomputable def y10_48 : AV := (.b true)
noncomputable def x10_49 : AV := vL [vI 2,vI 46]
noncomputable def y10_49 : AV := (.b true)
noncomputable def x10_50 : AV := vL [vI 2,vI 47]
noncomputable def y10_50 : AV := (.b true)
noncomputable def x10_51 : AV := vL [vI 2,vI 48]
noncomputable def y10_51 : AV := (.b true)
noncomputable def x10_52 : AV := vL [vI 2,vI 49]
noncomputable def y10_52 : AV := (.b true)
noncomputable def x10_53 : AV := vL [vI 2,vI 50]
noncomputable def y10_53 : AV := (.b true)
noncomputable def x10_54 : AV := vL [vI 2,vI 51]
noncomputable def y10_54 : AV := (.b true)
noncomputable def x10_55 : AV := vL [vI 2,vI 52]
noncomputable def y10_55 : AV := (.b true)
noncomputable def x10_56 : AV := vL [vI 2,vI 53]
noncomputable def y10_56 : AV := (.b true)
noncomputable def x10_57 : AV := vL [vI 2,vI 54]
noncomputable def y10_57 : AV := (.b true)
noncomputable def x10_58 : AV := vL [vI 2,vI 55]
noncomputable def y10_58 : AV := (.b true)
noncomputable def x10_59 : AV := vL [vI 2,vI 56]
noncomputable def y10_59 : AV := (.b true)
noncomputable def x10_60 : AV := vL [vI 2,vI 57]
noncomputable def y10_60 : AV := (.b true)
noncomputable def x10_61 : AV := vL [vI 2,vI 58]
noncomputable def y10_61 : AV := (.b true)
noncomputable def x10_62 : AV := vL [vI 2,vI 59]
noncomputable def y10_62 : AV := (.b true)
noncomputable def x10_63 : AV := vL [vI 2,vI 60]
noncomputable def y10_63 : AV := (.b true)
noncomputable def x10_64 : AV := vL [vI 3,vI 0]
noncomputable def y10_64 : AV := (.b true)
noncomputable def x10_65 : AV := vL [vI 4,vI (-1)]
noncomputable def y10_65 : AV := (.b true)
noncomputable def m10 : MTree := .node (.node (.node (.node (.node (.node (.node (.leaf) 1000006000019 x10_0 y10_0 (.leaf)) 1000006000020 x10_1 y10_1 (.leaf)) 1000007000013 x10_2 y10_2 (.node (.leaf) 1000008000015 x10_3 y10_3 (.leaf))) 1000008000016 x10_4 y10_4 (.node (.node (.leaf) 1000008000017 x10_5 y10_5 (.leaf)) 1000008000018 x10_6 y10_6 (.node (.leaf) 1000008000019 x10_7 y10_7 (.leaf)))) 1000008000020 x10_8 y10_8 (.node (.node (.node (.leaf) 1000008000021 x10_9 y10_9 (.leaf)) 1000008000022 x10_10 y10_10 (.node (.leaf) 1000008000023 x10_11 y10_11 (.leaf))) 1000008000024 x10_12 y10_12 (.node (.node (.leaf) 1000008000025 x10_13 y10_13 (.leaf)) 1000008000026 x10_14 y10_14 (.node (.leaf) 1000008000027 x10_15 y10_15 (.leaf))))) 1000008000028 x10_16 y10_16 (.node (.node (.node (.node (.node (.leaf) 1000008000029 x10_17 y10_17 (.leaf)) 1000008000030 x10_18 y10_18 (.leaf)) 1000008000031 x10_19 y10_19 (.node (.leaf) 1000008000032 x10_20 y10_20 (.leaf))) 1000008000033 x10_21 y10_21 (.node (.node (.leaf) 1000008000034 x10_22 y10_22 (.leaf)) 1000008000035 x10_23 y10_23 (.node (.leaf) 1000008000036 x10_24 y10_24 (.leaf)))) 1000008000037 x10_25 y10_25 (.node (.node (.node (.leaf) 1000008000038 x10_26 y10_26 (.leaf)) 1000008000039 x10_27 y10_27 (.node (.leaf) 1000008000040 x10_28 y10_28 (.leaf))) 1000008000041 x10_29 y10_29 (.node (.node (.leaf) 1000008000042 x10_30 y10_30 (.leaf)) 1000008000043 x10_31 y10_31 (.node (.leaf) 1000008000044 x10_32 y10_32 (.leaf)))))) 1000008000045 x10_33 y10_33 (.node (.node (.node (.node (.node (.node (.leaf) 1000008000046 x10_34 y10_34 (.leaf)) 1000008000047 x10_35 y10_35 (.leaf)) 1000008000048 x10_36 y10_36 (.node (.leaf) 1000008000049 x10_37 y10_37 (.leaf))) 1000008000050 x10_38 y10_38 (.node (.node (.leaf) 1000008000051 x10_39 y10_39 (.leaf)) 1000008000052 x10_40 y10_40 (.node (.leaf) 1000008000053 x10_41 y10_41 (.leaf)))) 1000008000054 x10_42 y10_42 (.node (.node (.node (.leaf) 1000008000055 x10_43 y10_43 (.leaf)) 1000008000056 x10_44 y10_44 (.node (.leaf) 1000008000057 x10_45 y10_45 (.leaf))) 1000008000058 x10_46 y10_46 (.node (.node (.leaf) 1000008000059 x10_47 y10_47 (.leaf)) 1000008000060 x10_48 y10_48 (.node (.leaf) 1000008000061 x10_49 y10_49 (.leaf))))) 1000008000062 x10_50 y10_50 (.node (.node (.node (.node (.leaf) 1000008000063 x10_51 y10_51 (.leaf)) 1000008000064 x10_52 y10_52 (.node (.leaf) 1000008000065 x10_53 y10_53 (.leaf))) 1000008000066 x10_54 y10_54 (.node (.node (.leaf) 1000008000067 x10_55 y10_55 (.leaf)) 1000008000068 x10_56 y10_56 (.node (.leaf) 1000008000069 x10_57 y10_57 (.leaf)))) 1000008000070 x10_58 y10_58 (.node (.node (.node (.leaf) 1000008000071 x10_59 y10_59 (.leaf)) 1000008000072 x10_60 y10_60 (.node (.leaf) 1000008000073 x10_61 y10_61 (.leaf))) 1000008000074 x10_62 y10_62 (.node (.node (.leaf) 1000008000075 x10_63 y10_63 (.leaf)) 1000009000018 x10_64 y10_64 (.node (.leaf) 1000010000022 x10_65 y10_65 (.leaf))))))
theorem k10 : m10.all (known tab0 100 338) = true := by kernel_rfl
noncomputable def g10 : Ent Tryz.prog 9 := e338.memo m10 (by kernel_rfl) Tryz.call338 k10
end Go.Proofs.YtknjkljigmepjaaGreatDoor
end
section
namespace Go.Proofs.YtknjkljigmepjaaGreatDoor
open Go.Proofs.YtknjkljigmepjaaGreatDoor.Clo Go.RowKit
set_option maxRecDepth 1000000
set_option maxHeartbeats 0
noncomputable def x11_0 : AV := vL [vI 0,vI 0,vI 5]
noncomputable def y11_0 : AV := (.b true)
noncomputable def x11_1 : AV := vL [vI 0,vI 0,vI 29]
noncomputable def y11_1 : AV := (.b true)
noncomputable def x11_2 : AV := vL [vI 1,vI 0,vI 2]
noncomputable def y11_2 : AV := (.b true)
noncomputable def x11_3 : AV := vL [vI 1,vI 0,vI 5]
noncomputable def y11_3 : AV := (.b true)
noncomputable def x11_4 : AV := vL [vI 1,vI 1,vI 1048576]
noncomputable def y11_4 : AV := (.b true)
noncomputable def x11_5 : AV := vL [vI 2,vI 0,vI 5]
noncomputable def y11_5 : AV := (.b true)
noncomputable def x11_6 : AV := vL [vI 2,vI 1,vI 1048576]
noncomputable def y11_6 : AV := (.b true)
noncomputable def x11_7 : AV := vL [vI 3,vI 0,vI 5]
noncomputable def y11_7 : AV := (.b true)
noncomputable def x11_8 : AV := vL [vI 4,vI 0,vI 5]
noncomputable def y11_8 : AV := (.b true)
noncomputable def x11_9 : AV := vL [vI 5,vI 0,vI 5]
noncomputable def y11_9 : AV := (.b true)
noncomputable def x11_10 : AV := vL [vI 30,vI 1,vI 120]
noncomputable def y11_10 : AV := (.b true)
noncomputable def x11_11 : AV := vL [vI 60,vI 0,vI 60]
noncomputable def y11_11 : AV := (.b true)
noncomputable def m11 : MTree := .node (.node (.node (.node (.leaf) 1000009000027000032 x11_0 y11_0 (.leaf)) 1000009000027000056 x11_1 y11_1 (.node (.leaf) 1000010000033000038 x11_2 y11_2 (.leaf))) 1000010000033000041 x11_3 y11_3 (.node (.node (.leaf) 1000010000035048615 x11_4 y11_4 (.leaf)) 1000011000039000050 x11_5 y11_5 (.leaf))) 1000011000041048624 x11_6 y11_6 (.node (.node (.node (.leaf) 1000012000045000059 x11_7 y11_7 (.leaf)) 1000013000051000068 x11_8 y11_8 (.leaf)) 1000014000057000077 x11_9 y11_9 (.node (.node (.leaf) 1000039000208000420 x11_10 y11_10 (.leaf)) 1000069000387000627 x11_11 y11_11 (.leaf)))
theorem k11 : m11.all (known tab0 100 246) = true := by kernel_rfl
noncomputable def g11 : Ent Tryz.prog 9 := e246.memo m11 (by kernel_rfl) Tryz.call246 k11
end Go.Proofs.YtknjkljigmepjaaGreatDoor
end
section
namespace Go.Proofs.YtknjkljigmepjaaGreatDoor
open Go.Proofs.YtknjkljigmepjaaGreatDoor.Clo Go.RowKit
set_option maxRecDepth 1000000
set_option maxHeartbeats 0
noncomputable def x12_0 : AV := vL [vI 1,vI 0,vI 1048576]
noncomputable def y12_0 : AV := (.b true)
noncomputable def x12_1 : AV := vL [vI 2,vI 1,vI 3]
noncomputable def y12_1 : AV := (.b true)
noncomputable def x12_2 : AV := vL [vI 2,vI 0,vI 1048576]
noncomputable def y12_2 : AV := (.b true)
noncomputable def x12_3 : AV := vL [vI 11,vI 11,vI 12]
noncomputable def y12_3 : AV := (.b true)
noncomputable def x12_4 : AV := vL [vI 12,vI 12,vI 13]
noncomputable def y12_4 : AV := (.b true)
noncomputable def x12_5 : AV := vL [vI 60,vI 0,vI 60]
noncomputable def y12_5 : AV := (.b true)
noncomputable def x12_6 : AV := vL [vI 10,vI 0,vI 9007199254740991]
noncomputable def y12_6 : AV := (.b true)
noncomputable def x12_7 : AV := vL [vI 11,vI 0,vI 9007199254740991]
noncomputable def y12_7 : AV := (.b true)
noncomputable def x12_8 : AV := vL [vI 12,vI 0,vI 9007199254740991]
noncomputable def y12_8 : AV := (.b true)
noncomputable def m12 : MTree := .node (.node (.node (.node (.leaf) 1000010000034048612 x12_0 y12_0 (.leaf)) 1000011000040000051 x12_1 y12_1 (.leaf)) 1000011000040048621 x12_2 y12_2 (.node (.leaf) 1000020000104000171 x12_3 y12_3 (.leaf))) 1000021000111000184 x12_4 y12_4 (.node (.node (.node (.leaf) 1000069000387000627 x12_5 y12_5 (.leaf)) 1009026199341741108 x12_6 y12_6 (.leaf)) 1009027199347741117 x12_7 y12_7 (.node (.leaf) 1009028199353741126 x12_8 y12_8 (.leaf)))
theorem k12 : m12.all (known tab0 100 336) = true := by kernel_rfl
noncomputable def g12 : Ent Tryz.prog 9 := e336.memo m12 (by kernel_rfl) Tryz.call336 k12
end Go.Proofs.YtknjkljigmepjaaGreatDoor
end
section
namespace Go.Proofs.YtknjkljigmepjaaGreatDoor
open Go.Proofs.YtknjkljigmepjaaGreatDoor.Clo Go.RowKit
set_option maxRecDepth 1000000
set_option maxHeartbeats 0
noncomputable def x13_0 : AV := vL [.ag (vL [vI 0,.sn])]
noncomputable def y13_0 : AV := (vI 0)
noncomputable def m13 : MTree := .node (.leaf) 1000003 x13_0 y13_0 (.leaf)
theorem k13 : m13.all (known tab0 100 241) = true := by kernel_rfl
noncomputable def g13 : Ent Tryz.prog 9 := e241.memo m13 (by kernel_rfl) Tryz.call241 k13
end Go.Proofs.YtknjkljigmepjaaGreatDoor
end
