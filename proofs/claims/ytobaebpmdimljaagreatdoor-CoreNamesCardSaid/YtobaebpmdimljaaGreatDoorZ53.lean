/- The call of the law CoreNames returns true. Conditions: the tables and the errors of the library read as its text lays them. -/
import Derived.Test.YtobaebpmdimljaaGreatDoorZ03
import Derived.Test.YtobaebpmdimljaaGreatDoorZ04
import Derived.Test.YtobaebpmdimljaaGreatDoorZ52
import Derived.Test.YtobaebpmdimljaaGreatDoorCards
import Derived.Test.YtobaebpmdimljaaGreatDoorTie
import Derived.SevenTiedAt
set_option linter.all false
section
namespace Go.Proofs.YtobaebpmdimljaaGreatDoor.coreNamesDone
open Go.ChangeShapes Go.WideShapes Go.ChangeAt Go.RowKit Go.Lib
set_option linter.unusedVariables false
set_option maxRecDepth 100000 in
theorem over : Rows.coreNamesRow.holds Tryz.pinned (OpenSpec.ofChange Rows.coreNamesSpec) :=
  OpenClaim.holds_of_cond 3 Tryz.f3 rfl rfl rfl rfl rfl rfl rfl ⟨rfl, rfl, rfl, rfl, rfl⟩ rfl rfl rfl rfl rfl (by kernel_rfl) Tryz.func3 closed inst wrap
    (fun os started H enc _ F0 => by rw [OpenClaim.pre_eq_preRow]; exact lifted os started H enc F0)
theorem proved : Rows.CoreNamesCardSaid :=
  Claim7.holds_tied_plain_at .later [] [.data, .data, .data, .data, .handle, .sentinel, .sentinel, .pinned] true (true, "9e35bb1feb2be462eb9e2b35703b33845b0a1faca5244e9c2df32479800b5991") true
    over (fun _ h => by cases h) wf_ (fun _ h => by cases h) coreNames_row_tie rfl ⟨rfl, rfl⟩ main_ rfl
    (fun f fn hf hfn => by
      obtain rfl : f = 3 := Option.some.inj (named_.symm.trans hf) |>.symm
      obtain rfl : fn = Tryz.f3 := (Option.some.inj (Tryz.func3.symm.trans hfn)).symm
      exact ⟨looks_, fun j t ht => by
        rw [Tryz.params3] at ht
        simp at ht⟩)
    goes_
#print axioms proved
end Go.Proofs.YtobaebpmdimljaaGreatDoor.coreNamesDone
end
