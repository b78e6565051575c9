/- Part 39 of a proof laid in parts, one behind the other; no condition of its own. -/
import Derived.Test.YtknjkljigmepjaaGreatDoorZ37
set_option linter.all false
section
namespace Go.Proofs.YtknjkljigmepjaaGreatDoor.taleNamesDone
open Go
set_option linter.unusedVariables false
theorem t9n_k : ∀ os tape, (DataW.laidRun Tryz.prog (varsWorld Tryz.prog 400 803 os tape).memory 8 ((tlist.filter fun x => x.2.handleName?.isNone).map (·.1))).map (fun x => nodupB (x.2.map MemPlace.codeOf)) = some true := fun _ _ => by kernel_rfl
theorem t9n : ∀ os tape, (DataW.laidRun Tryz.prog (varsWorld Tryz.prog 400 (varsId Tryz.prog) os tape).memory 8 ((tlist.filter fun x => x.2.handleName?.isNone).map (·.1))).map (fun x => nodupB (x.2.map MemPlace.codeOf)) = some true := Eq.mpr (congrArg (fun k : FuncId => ∀ os tape, (DataW.laidRun Tryz.prog (varsWorld Tryz.prog 400 k os tape).memory 8 ((tlist.filter fun x => x.2.handleName?.isNone).map (·.1))).map (fun x => nodupB (x.2.map MemPlace.codeOf)) = some true) vid) t9n_k
theorem nodup_some {o : Option (List (String × DataW Unit) × List MemPlace)} (h : o.map (fun x => nodupB (x.2.map MemPlace.codeOf)) = some true) : o.map (fun x => decide x.2.Nodup) = some true := by
  cases o with
  | none => cases h
  | some x =>
    simp only [Option.map_some, Option.some.injEq] at h ⊢
    exact decide_eq_true (nodup_of_code h)
end Go.Proofs.YtknjkljigmepjaaGreatDoor.taleNamesDone
end
