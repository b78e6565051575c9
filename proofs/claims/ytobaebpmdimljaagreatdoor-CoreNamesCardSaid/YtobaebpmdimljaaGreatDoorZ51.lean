/- Part 51 of a proof laid in parts, one behind the other; no condition of its own. -/
import Derived.Test.YtobaebpmdimljaaGreatDoorZ44
import Derived.Test.YtobaebpmdimljaaGreatDoorZ45
import Derived.Test.YtobaebpmdimljaaGreatDoorZ46
import Derived.Test.YtobaebpmdimljaaGreatDoorZ47
import Derived.Test.YtobaebpmdimljaaGreatDoorZ48
import Derived.Test.YtobaebpmdimljaaGreatDoorZ49
import Derived.Test.YtobaebpmdimljaaGreatDoorZ50
set_option linter.all false
section
namespace Go.Proofs.YtobaebpmdimljaaGreatDoor
open Go.Proofs.YtobaebpmdimljaaGreatDoor.Clo Go.RowKit
set_option maxRecDepth 1000000
set_option maxHeartbeats 0
theorem part7 : pgoal (pcs.drop 16) st7 := Goal.last_is (Nat.le_of_ble_eq_true (by kernel_rfl)) pbm_ok (hdM_ok tab25 100) prun7
theorem part6 : pgoal (pcs.drop 13) st6 := Goal.part_is (m := 3) pbm_ok (hdM_ok tab25 100) prun6 part7
theorem part5 : pgoal (pcs.drop 10) st5 := Goal.part_is (m := 3) pbm_ok (hdM_ok tab25 100) prun5 part6
theorem part4 : pgoal (pcs.drop 8) st4 := Goal.part_is (m := 2) pbm_ok (hdM_ok tab25 100) prun4 part5
theorem part3 : pgoal (pcs.drop 7) st3 := Goal.part_is (m := 1) pbm_ok (hdM_ok tab25 100) prun3 part4
theorem part2 : pgoal (pcs.drop 6) st2 := Goal.part_is (m := 1) pbm_ok (hdM_ok tab25 100) prun2 part3
theorem part1 : pgoal (pcs.drop 5) st1 := Goal.part_is (m := 1) pbm_ok (hdM_ok tab25 100) prun1 part2
theorem part0 : pgoal (pcs.drop 0) st0 := Goal.part_is (m := 5) pbm_ok (hdM_ok tab25 100) prun0 part1
theorem closed_any (w : World) (hw : 9 ≤ w.heap.size) : Calls Tryz.prog 3 #[] w fun e w' => e = .returned (.bool true) ∧ Below w.heap.size w w' := Goal.calls (c := pbody) (dt := pdt) (lo := plo) Tryz.func3 (by kernel_rfl) (by kernel_rfl) (by kernel_rfl) part0 w hw
end Go.Proofs.YtobaebpmdimljaaGreatDoor
end
