/- Part 40 of a proof laid in parts, one behind the other; no condition of its own. -/
import Derived.Test.YtknjkljigmepjaaGreatDoorZ39
set_option linter.all false
section
namespace Go.Proofs.YtknjkljigmepjaaGreatDoor.taleNamesDone
open Go
set_option linter.unusedVariables false
theorem t9b_k : ∀ os tape, (DataW.laidRun Tryz.prog (varsWorld Tryz.prog 400 803 os tape).memory 8 ((tlist.filter fun x => x.2.handleName?.isNone).map (·.1))).map (fun x => laidRowsB Tryz.prog (varsWorld Tryz.prog 400 803 os tape).memory x.2) = some true := fun _ _ => by kernel_rfl
theorem t9b : ∀ os tape, (DataW.laidRun Tryz.prog (varsWorld Tryz.prog 400 (varsId Tryz.prog) os tape).memory 8 ((tlist.filter fun x => x.2.handleName?.isNone).map (·.1))).map (fun x => laidRowsB Tryz.prog (varsWorld Tryz.prog 400 (varsId Tryz.prog) os tape).memory x.2) = some true := Eq.mpr (congrArg (fun k : FuncId => ∀ os tape, (DataW.laidRun Tryz.prog (varsWorld Tryz.prog 400 k os tape).memory 8 ((tlist.filter fun x => x.2.handleName?.isNone).map (·.1))).map (fun x => laidRowsB Tryz.prog (varsWorld Tryz.prog 400 k os tape).memory x.2) = some true) vid) t9b_k
theorem both_some {α : Type} {o : Option α} {f g : α → Bool} (h1 : o.map f = some true) (h2 : o.map g = some true) : o.map (fun x => f x && g x) = some true := by
  cases o with
  | none => cases h1
  | some x =>
    simp only [Option.map_some, Option.some.injEq] at h1 h2 ⊢
    rw [h1, h2]
    rfl
theorem t9 : ∀ os tape, (DataW.laidRun Tryz.prog (varsWorld Tryz.prog 400 (varsId Tryz.prog) os tape).memory 8 ((tlist.filter fun x => x.2.handleName?.isNone).map (·.1))).map (fun x => decide x.2.Nodup && laidRowsB Tryz.prog (varsWorld Tryz.prog 400 (varsId Tryz.prog) os tape).memory x.2) = some true := fun os tape => both_some (nodup_some (t9n os tape)) (t9b os tape)
theorem t10_k : ∀ os tape, (tlist.filter fun x => x.2.handleName?.isSome).all (handleAtB Tryz.prog (varsWorld Tryz.prog 400 803 os tape).memory) = true := fun _ _ => by kernel_rfl
theorem t10 : ∀ os tape, (tlist.filter fun x => x.2.handleName?.isSome).all (handleAtB Tryz.prog (varsWorld Tryz.prog 400 (varsId Tryz.prog) os tape).memory) = true := Eq.mpr (congrArg (fun k : FuncId => ∀ os tape, (tlist.filter fun x => x.2.handleName?.isSome).all (handleAtB Tryz.prog (varsWorld Tryz.prog 400 k os tape).memory) = true) vid) t10_k
end Go.Proofs.YtknjkljigmepjaaGreatDoor.taleNamesDone
end
