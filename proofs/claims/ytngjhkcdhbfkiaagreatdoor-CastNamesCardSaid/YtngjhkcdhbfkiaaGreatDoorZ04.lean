/- Part 4 of a proof laid in parts, one behind the other; no condition of its own. -/
import Derived.Test.YtngjhkcdhbfkiaaGreatDoorZ02
import Derived.Test.YtngjhkcdhbfkiaaGreatDoorCards
import Derived.Test.YtngjhkcdhbfkiaaGreatDoorTie
import Derived.SevenTiedAt
set_option linter.all false
section
namespace Go.Proofs.YtngjhkcdhbfkiaaGreatDoor.castNamesDone
open Go.ChangeShapes Go.WideShapes Go.ChangeAt Go.RowKit Go.Lib
set_option linter.unusedVariables false
set_option maxRecDepth 100000
theorem wf_ : Rows.castNamesRow.wfByText (OpenSpec.ofChange Rows.castNamesSpec) = true := by kernel_rfl
theorem main_ : Tryz.pinned.checked.prog.mainIs = some (true, "6df26e4fb4d4e94d1362140cc433ff2a31436d8a989358e91b1a59a2e4af0994".toList) := by kernel_rfl
theorem named_ : Tryz.prog.funcNamed "tidewaiter/tidewaiterlaw25.CastNames" = some 3 := by kernel_rfl
theorem looks_ : true = Tryz.pinned.checked.prog.looks [] := by kernel_rfl
theorem goes_ : false = Rows.castNamesRow.goesBy Tryz.pinned.checked.prog := by kernel_rfl
end Go.Proofs.YtngjhkcdhbfkiaaGreatDoor.castNamesDone
end
