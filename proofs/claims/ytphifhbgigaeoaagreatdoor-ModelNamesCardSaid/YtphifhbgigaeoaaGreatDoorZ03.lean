/- Part 3 of a proof laid in parts, one behind the other; no condition of its own. -/
import Derived.Test.YtphifhbgigaeoaaGreatDoorZ02
import Derived.Test.YtphifhbgigaeoaaGreatDoorCards
import Derived.Test.YtphifhbgigaeoaaGreatDoorTie
import Derived.SevenTiedAt
set_option linter.all false
section
namespace Go.Proofs.YtphifhbgigaeoaaGreatDoor.modelNamesDone
open Go.ChangeShapes Go.WideShapes Go.ChangeAt Go.RowKit Go.Lib
set_option linter.unusedVariables false
theorem closed : joinedFacts Tryz.prog 3 Tryz.f3 (OpenSpec.ofChange Rows.modelNamesSpec).bare Rows.modelNamesRow = true := by
  delta joinedFacts
  rewrite [may_enter, lifts_final, make_cut, laidOut, maps_rowed, stops_heard, stops_none, stopKnobs_none]
  kernel_rfl
theorem inst : Tryz.f3.isInstance Tryz.prog Rows.modelNamesRow.origin Rows.modelNamesRow.targs := of_decide_eq_true (by kernel_rfl)
theorem wrap : Tryz.f3.isWrapper Tryz.prog Rows.modelNamesRow.wrapper Rows.modelNamesRow.mainSum := by unfold Func.isWrapper; first | (rw [if_pos (by decide +kernel)]; kernel_rfl) | (rw [if_neg (by decide +kernel)]; exact ⟨rfl, rfl⟩)
end Go.Proofs.YtphifhbgigaeoaaGreatDoor.modelNamesDone
end
