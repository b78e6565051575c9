/- Part 38 of a proof laid in parts, one behind the other; no condition of its own. -/
import Derived.Test.YtknjkljigmepjaaGreatDoorZ37
set_option linter.all false
section
namespace Go.Proofs.YtknjkljigmepjaaGreatDoor.taleNamesDone
open Go
set_option linter.unusedVariables false
theorem t7_k : ∀ os tape, varsDone Tryz.prog 400 803 os tape = true := fun _ _ => by kernel_rfl
theorem t7 : ∀ os tape, varsDone Tryz.prog 400 (varsId Tryz.prog) os tape = true := Eq.mpr (congrArg (fun k : FuncId => ∀ os tape, varsDone Tryz.prog 400 k os tape = true) vid) t7_k
theorem t8_k : ∀ os tape, (DataW.laidRun Tryz.prog (varsWorld Tryz.prog 400 803 os tape).memory 8 ((tlist.filter fun x => x.2.handleName?.isNone).map (·.1))).map (·.1) = some (tlist.filter fun x => x.2.handleName?.isNone) := fun _ _ => by kernel_rfl
theorem t8 : ∀ os tape, (DataW.laidRun Tryz.prog (varsWorld Tryz.prog 400 (varsId Tryz.prog) os tape).memory 8 ((tlist.filter fun x => x.2.handleName?.isNone).map (·.1))).map (·.1) = some (tlist.filter fun x => x.2.handleName?.isNone) := Eq.mpr (congrArg (fun k : FuncId => ∀ os tape, (DataW.laidRun Tryz.prog (varsWorld Tryz.prog 400 k os tape).memory 8 ((tlist.filter fun x => x.2.handleName?.isNone).map (·.1))).map (·.1) = some (tlist.filter fun x => x.2.handleName?.isNone)) vid) t8_k
end Go.Proofs.YtknjkljigmepjaaGreatDoor.taleNamesDone
end
