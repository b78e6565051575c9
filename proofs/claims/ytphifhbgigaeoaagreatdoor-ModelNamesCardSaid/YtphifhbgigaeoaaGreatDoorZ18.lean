/- The call of the law ModelNames returns true. Conditions: the tables and the errors of the library read as its text lays them. -/
import Derived.Test.YtphifhbgigaeoaaGreatDoorZ03
import Derived.Test.YtphifhbgigaeoaaGreatDoorZ17
import Derived.Test.YtphifhbgigaeoaaGreatDoorCards
import Derived.Test.YtphifhbgigaeoaaGreatDoorTie
import Derived.SevenTiedAt
set_option linter.all false
section
namespace Go.Proofs.YtphifhbgigaeoaaGreatDoor.modelNamesDone
open Go.ChangeShapes Go.WideShapes Go.ChangeAt Go.RowKit Go.Lib
set_option linter.unusedVariables false
set_option maxRecDepth 100000 in
theorem over : Rows.modelNamesRow.holds Tryz.pinned (OpenSpec.ofChange Rows.modelNamesSpec) :=
  OpenClaim.holds_of_cond 3 Tryz.f3 rfl rfl rfl rfl rfl rfl rfl ⟨rfl, rfl, rfl, rfl, rfl⟩ rfl rfl rfl rfl rfl (by kernel_rfl) Tryz.func3 closed inst wrap
    (fun os started H enc _ F0 => by rw [OpenClaim.pre_eq_preRow]; exact lifted os started H enc F0)
theorem proved : Rows.ModelNamesCardSaid :=
  Claim7.holds_tied_plain_at .later [] [.data, .data, .data, .data, .handle, .sentinel, .sentinel, .pinned] true (true, "40c01591f71f4b4e341d0bf8d7f03c2295612b11c81ee62acdb1881c320f844e") true
    over (fun _ h => by cases h) (by kernel_rfl) (fun _ h => by cases h) modelNames_row_tie rfl ⟨rfl, rfl⟩ (by kernel_rfl) rfl
    (fun f fn hf hfn => by
      obtain rfl : f = 3 := Option.some.inj ((show Tryz.prog.funcNamed "tidewaiter/tidewaiterlaw31.ModelNames" = some 3 by kernel_rfl).symm.trans hf) |>.symm
      obtain rfl : fn = Tryz.f3 := (Option.some.inj (Tryz.func3.symm.trans hfn)).symm
      exact ⟨by kernel_rfl, fun j t ht => by
        rw [Tryz.params3] at ht
        simp at ht⟩)
    (by kernel_rfl)
#print axioms proved
end Go.Proofs.YtphifhbgigaeoaaGreatDoor.modelNamesDone
end
