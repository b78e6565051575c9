/- Part 4 of a proof laid in parts, one behind the other; no condition of its own. -/
import Derived.Test.YtobaebpmdimljaaGreatDoorZ02
import Derived.Test.YtobaebpmdimljaaGreatDoorCards
import Derived.Test.YtobaebpmdimljaaGreatDoorTie
import Derived.SevenTiedAt
set_option linter.all false
section
namespace Go.Proofs.YtobaebpmdimljaaGreatDoor.coreNamesDone
open Go.ChangeShapes Go.WideShapes Go.ChangeAt Go.RowKit Go.Lib
set_option linter.unusedVariables false
set_option maxRecDepth 100000
theorem wf_ : Rows.coreNamesRow.wfByText (OpenSpec.ofChange Rows.coreNamesSpec) = true := by kernel_rfl
theorem main_ : Tryz.pinned.checked.prog.mainIs = some (true, "9e35bb1feb2be462eb9e2b35703b33845b0a1faca5244e9c2df32479800b5991".toList) := by kernel_rfl
theorem named_ : Tryz.prog.funcNamed "tidewaiter/tidewaiterlaw26.CoreNames" = some 3 := by kernel_rfl
theorem looks_ : true = Tryz.pinned.checked.prog.looks [] := by kernel_rfl
theorem goes_ : false = Rows.coreNamesRow.goesBy Tryz.pinned.checked.prog := by kernel_rfl
end Go.Proofs.YtobaebpmdimljaaGreatDoor.coreNamesDone
end
