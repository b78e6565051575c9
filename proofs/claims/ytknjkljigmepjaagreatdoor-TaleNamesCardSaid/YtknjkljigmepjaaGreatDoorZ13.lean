/- Part 13 of a proof laid in parts, one behind the other; no condition of its own. -/
import Derived.Test.YtknjkljigmepjaaGreatDoorZ12
import Derived.MakeChecks
import Derived.WalkKit
import Derived.ProofKit
import Derived.OpenShut
import Derived.ChangeOld
import Derived.Below
import Derived.Deep.DeepHandedRow
import Derived.Deep.DeepWitnessRowRef
import Derived.SizedLaws
import Derived.LaidMore
import Derived.LaidOnce
import Derived.Stop.Joined
import Derived.Lib.LaidU8
import Derived.Lib.LaidTab
import Derived.Shelf.LaysM
import Derived.Lib.DecodeN
import Derived.JoinedCond
import Derived.LaidSub
import Derived.Lay
set_option linter.all false
section
namespace Go.Proofs.YtknjkljigmepjaaGreatDoor.taleNamesDone
open Go.ChangeShapes Go.WideShapes Go.ChangeAt Go.RowKit Go.Lib
set_option linter.unusedVariables false
set_option maxRecDepth 100000
theorem one_rowA : ((List.range' 0 300).filter fun t => Tryz.prog.rowNamed t [101, 114, 114, 111, 114]).filter (· != 54) = [] := by kernel_rfl
theorem one_rowB : ((List.range' 300 300).filter fun t => Tryz.prog.rowNamed t [101, 114, 114, 111, 114]).filter (· != 54) = [] := by kernel_rfl
theorem one_rowC : ((List.range' 600 (931 - 600)).filter fun t => Tryz.prog.rowNamed t [101, 114, 114, 111, 114]).filter (· != 54) = [] := by kernel_rfl
theorem one_at {a n t : Nat} (h : ((List.range' a n).filter fun t => Tryz.prog.rowNamed t [101, 114, 114, 111, 114]).filter (· != 54) = []) (h1 : a ≤ t) (h2 : t < a + n) (ht : Tryz.prog.rowNamed t [101, 114, 114, 111, 114] = true) : t = 54 := by
  have hm : t ∈ (List.range' a n).filter fun t => Tryz.prog.rowNamed t [101, 114, 114, 111, 114] := List.mem_filter.2 ⟨List.mem_range'_1.2 ⟨h1, h2⟩, ht⟩
  rcases Decidable.em (t = 54) with e | e
  · exact e
  · have : t ∈ ((List.range' a n).filter fun t => Tryz.prog.rowNamed t [101, 114, 114, 111, 114]).filter (· != 54) := List.mem_filter.2 ⟨hm, by simpa using e⟩
    rw [h] at this
    cases this
theorem one_row {t : Nat} (h : t < 931) (ht : Tryz.prog.rowNamed t [101, 114, 114, 111, 114] = true) : t = 54 := by
  rcases Nat.lt_or_ge t 300 with h1 | h1
  · exact one_at one_rowA (Nat.zero_le _) (by omega) ht
  · rcases Nat.lt_or_ge t 600 with h2 | h2
    · exact one_at one_rowB h1 (by omega) ht
    · exact one_at one_rowC h2 (by omega) ht
end Go.Proofs.YtknjkljigmepjaaGreatDoor.taleNamesDone
end
