/- Part 3 of a proof laid in parts, one behind the other; no condition of its own. -/
import Derived.Test.YtngjhkcdhbfkiaaGreatDoorZ02
import Derived.Test.YtngjhkcdhbfkiaaGreatDoorCards
import Derived.Test.YtngjhkcdhbfkiaaGreatDoorTie
import Derived.SevenTiedAt
set_option linter.all false
section
namespace Go.Proofs.YtngjhkcdhbfkiaaGreatDoor.castNamesDone
open Go.ChangeShapes Go.WideShapes Go.ChangeAt Go.RowKit Go.Lib
set_option linter.unusedVariables false
theorem closed : joinedFacts Tryz.prog 3 Tryz.f3 (OpenSpec.ofChange Rows.castNamesSpec).bare Rows.castNamesRow = true := by
  delta joinedFacts
  rewrite [may_enter, lifts_final, make_cut, laidOut, maps_rowed, stops_heard, stops_none, stopKnobs_none]
  kernel_rfl
theorem inst : Tryz.f3.isInstance Tryz.prog Rows.castNamesRow.origin Rows.castNamesRow.targs := of_decide_eq_true (by kernel_rfl)
theorem wrap : Tryz.f3.isWrapper Tryz.prog Rows.castNamesRow.wrapper Rows.castNamesRow.mainSum := by unfold Func.isWrapper; first | (rw [if_pos (by decide +kernel)]; kernel_rfl) | (rw [if_neg (by decide +kernel)]; exact ⟨rfl, rfl⟩)
end Go.Proofs.YtngjhkcdhbfkiaaGreatDoor.castNamesDone
end
