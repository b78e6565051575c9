/- It is proved here that the given program returns true from TaleNames in every world and on every tape; without a condition of its own. -/
import Derived.Test.YtknjkljigmepjaaGreatDoorRows
import Derived.Test.YtknjkljigmepjaaGreatDoorCards
import Derived.SevenTiedAt
import Derived.JoinedCond
import Derived.MakeChecks
import Derived.WalkKit
import Derived.ProofKit
import Derived.OpenShut
import Derived.ChangeOld
import Derived.Below
import Derived.Deep.DeepHandedRow
import Derived.Test.YtknjkljigmepjaaGreatDoorZ36
import Derived.Test.YtknjkljigmepjaaGreatDoorZ35
import Derived.Test.YtknjkljigmepjaaGreatDoorZ41
import Derived.Test.YtknjkljigmepjaaGreatDoorZ45
set_option linter.all false
section
namespace Go.Proofs.YtknjkljigmepjaaGreatDoor.taleNamesDone
open Go.ChangeShapes Go.WideShapes Go.ChangeAt Go.RowKit
set_option linter.unusedVariables false
set_option maxRecDepth 100000
theorem inst : Tryz.f3.isInstance Tryz.prog Rows.taleNamesRow.origin Rows.taleNamesRow.targs := of_decide_eq_true (by kernel_rfl)
end Go.Proofs.YtknjkljigmepjaaGreatDoor.taleNamesDone
end
section
namespace Go.Proofs.YtknjkljigmepjaaGreatDoor.taleNamesDone
open Go.ChangeShapes Go.WideShapes Go.ChangeAt Go.RowKit
set_option linter.unusedVariables false
set_option maxRecDepth 100000
theorem wrap : Tryz.f3.isWrapper Tryz.prog Rows.taleNamesRow.wrapper Rows.taleNamesRow.mainSum := by unfold Func.isWrapper; first | (rw [if_pos (by decide +kernel)]; kernel_rfl) | (rw [if_neg (by decide +kernel)]; exact ⟨rfl, rfl⟩)
end Go.Proofs.YtknjkljigmepjaaGreatDoor.taleNamesDone
end
section
namespace Go.Proofs.YtknjkljigmepjaaGreatDoor.taleNamesDone
open Go.ChangeShapes Go.WideShapes Go.ChangeAt Go.RowKit
set_option linter.unusedVariables false
set_option maxRecDepth 100000
theorem wf_ : Rows.taleNamesRow.wfByText (OpenSpec.ofChange Rows.taleNamesSpec) = true := by kernel_rfl
end Go.Proofs.YtknjkljigmepjaaGreatDoor.taleNamesDone
end
section
namespace Go.Proofs.YtknjkljigmepjaaGreatDoor.taleNamesDone
open Go.ChangeShapes Go.WideShapes Go.ChangeAt Go.RowKit
set_option linter.unusedVariables false
set_option maxRecDepth 100000
theorem main_ : Tryz.pinned.checked.prog.mainIs = some (true, "13087cd20b24df748e6597c37055e6b2d8ddf6058aae59b7e1868fc4ee8243fc".toList) := by kernel_rfl
end Go.Proofs.YtknjkljigmepjaaGreatDoor.taleNamesDone
end
section
namespace Go.Proofs.YtknjkljigmepjaaGreatDoor.taleNamesDone
open Go.ChangeShapes Go.WideShapes Go.ChangeAt Go.RowKit
set_option linter.unusedVariables false
set_option maxRecDepth 100000
theorem named_ : Tryz.prog.funcNamed "tidewaiter/tidewaiterlaw32.TaleNames" = some 3 := nl_is
end Go.Proofs.YtknjkljigmepjaaGreatDoor.taleNamesDone
end
section
namespace Go.Proofs.YtknjkljigmepjaaGreatDoor.taleNamesDone
open Go.ChangeShapes Go.WideShapes Go.ChangeAt Go.RowKit
set_option linter.unusedVariables false
set_option maxRecDepth 100000
theorem looks_ : true = Tryz.pinned.checked.prog.looks [] := by kernel_rfl
end Go.Proofs.YtknjkljigmepjaaGreatDoor.taleNamesDone
end
section
namespace Go.Proofs.YtknjkljigmepjaaGreatDoor.taleNamesDone
open Go.ChangeShapes Go.WideShapes Go.ChangeAt Go.RowKit
set_option linter.unusedVariables false
set_option maxRecDepth 100000
theorem no_goes : Tryz.prog.funcs.toList.all (fun fn => !fn.goes) = true := by kernel_rfl
theorem goes_at {fn : Func} (h : fn ∈ Tryz.prog.funcs.toList) : fn.goes = false := by
  have := List.all_eq_true.1 no_goes fn h
  simpa using this
theorem goes_none (f : FuncId) : Tryz.prog.goes f = false := by
  have h1 : ((Tryz.prog.closure f).any fun g => (Tryz.prog.funcs[g]?).any Func.goes) = false := by
    refine Bool.eq_false_iff.2 fun h => ?_
    obtain ⟨g, _, hg⟩ := List.any_eq_true.1 h
    cases e : Tryz.prog.funcs[g]? with
    | none => rw [e] at hg; cases hg
    | some fn =>
      rw [e] at hg
      have hm : fn ∈ Tryz.prog.funcs.toList := Array.mem_toList_iff.2 (Array.mem_of_getElem? e)
      have hg' : fn.goes = true := hg
      rw [goes_at hm] at hg'
      cases hg'
  have h2 : Tryz.prog.funcs.any Func.goes = false := by
    refine Bool.eq_false_iff.2 fun h => ?_
    obtain ⟨i, hi, hg⟩ := Array.any_eq_true.1 h
    rw [goes_at (Array.mem_toList_iff.2 (Array.getElem_mem hi))] at hg
    cases hg
  unfold Program.goes
  rw [h1, h2]
  simp
theorem goes_gen (P : Program) (c : OpenClaim) (h : ∀ f, P.goes f = false) (hs : c.start = .entering) : c.goesBy P = false := by
  unfold OpenClaim.goesBy Program.goesAt Program.goesFrom
  rw [hs]
  cases P.funcNamed c.func with
  | none => rfl
  | some f => simp only [Option.any_some, h, Bool.or_false]
theorem goes_ : false = Rows.taleNamesRow.goesBy Tryz.pinned.checked.prog := by
  have hp : Tryz.pinned.checked.prog = Tryz.prog := rfl
  rw [hp]
  exact (goes_gen _ _ goes_none rfl).symm
end Go.Proofs.YtknjkljigmepjaaGreatDoor.taleNamesDone
end
section
namespace Go.Proofs.YtknjkljigmepjaaGreatDoor.taleNamesDone
open Go.ChangeShapes Go.WideShapes Go.ChangeAt Go.RowKit Go.Lib
set_option linter.unusedVariables false
set_option maxRecDepth 100000 in
theorem over : Rows.taleNamesRow.holds Tryz.pinned (OpenSpec.ofChange Rows.taleNamesSpec) :=
  OpenClaim.holds_of_cond 3 Tryz.f3 rfl rfl rfl rfl rfl rfl rfl ⟨rfl, rfl, rfl, rfl, rfl⟩ rfl rfl rfl rfl rfl (by kernel_rfl) Tryz.func3 closed inst wrap
    (fun os started H enc _ F0 => by rw [OpenClaim.pre_eq_preRow]; exact lifted os started H enc F0)
theorem proved : Rows.TaleNamesCardSaid :=
  Claim7.holds_tied_plain_at .later [] [.data, .data, .data, .data, .handle, .sentinel, .sentinel, .pinned] true (true, "13087cd20b24df748e6597c37055e6b2d8ddf6058aae59b7e1868fc4ee8243fc") true
    over (fun _ h => by cases h) wf_ (fun _ h => by cases h) row_tie rfl ⟨rfl, rfl⟩ main_ rfl
    (fun f fn hf hfn => by
      obtain rfl : f = 3 := Option.some.inj (named_.symm.trans hf) |>.symm
      obtain rfl : fn = Tryz.f3 := (Option.some.inj (Tryz.func3.symm.trans hfn)).symm
      exact ⟨looks_, fun j t ht => by
        rw [Tryz.params3] at ht
        simp at ht⟩)
    goes_
#print axioms proved
end Go.Proofs.YtknjkljigmepjaaGreatDoor.taleNamesDone
end
