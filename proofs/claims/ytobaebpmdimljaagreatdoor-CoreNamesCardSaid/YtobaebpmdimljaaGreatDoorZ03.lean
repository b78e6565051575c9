/- Part 3 of a proof laid in parts, one behind the other; no condition of its own. -/
import Derived.Test.YtobaebpmdimljaaGreatDoorZ02
import Derived.Test.YtobaebpmdimljaaGreatDoorCards
import Derived.Test.YtobaebpmdimljaaGreatDoorTie
import Derived.SevenTiedAt
set_option linter.all false
section
namespace Go.Proofs.YtobaebpmdimljaaGreatDoor.coreNamesDone
open Go.ChangeShapes Go.WideShapes Go.ChangeAt Go.RowKit Go.Lib
set_option linter.unusedVariables false
theorem closed : joinedFacts Tryz.prog 3 Tryz.f3 (OpenSpec.ofChange Rows.coreNamesSpec).bare Rows.coreNamesRow = true := by
  delta joinedFacts
  rewrite [may_enter, lifts_final, make_cut, laidOut, maps_rowed, stops_heard, stops_none, stopKnobs_none]
  kernel_rfl
theorem inst : Tryz.f3.isInstance Tryz.prog Rows.coreNamesRow.origin Rows.coreNamesRow.targs := of_decide_eq_true (by kernel_rfl)
theorem wrap : Tryz.f3.isWrapper Tryz.prog Rows.coreNamesRow.wrapper Rows.coreNamesRow.mainSum := by unfold Func.isWrapper; first | (rw [if_pos (by decide +kernel)]; kernel_rfl) | (rw [if_neg (by decide +kernel)]; exact ⟨rfl, rfl⟩)
end Go.Proofs.YtobaebpmdimljaaGreatDoor.coreNamesDone
end
