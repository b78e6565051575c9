/- The call of the law CastNames returns true. Conditions: the tables and the errors of the library read as its text lays them. -/
import Derived.Test.YtngjhkcdhbfkiaaGreatDoorZ03
import Derived.Test.YtngjhkcdhbfkiaaGreatDoorZ04
import Derived.Test.YtngjhkcdhbfkiaaGreatDoorZ26
import Derived.Test.YtngjhkcdhbfkiaaGreatDoorCards
import Derived.Test.YtngjhkcdhbfkiaaGreatDoorTie
import Derived.SevenTiedAt
set_option linter.all false
section
namespace Go.Proofs.YtngjhkcdhbfkiaaGreatDoor.castNamesDone
open Go.ChangeShapes Go.WideShapes Go.ChangeAt Go.RowKit Go.Lib
set_option linter.unusedVariables false
set_option maxRecDepth 100000 in
theorem over : Rows.castNamesRow.holds Tryz.pinned (OpenSpec.ofChange Rows.castNamesSpec) :=
  OpenClaim.holds_of_cond 3 Tryz.f3 rfl rfl rfl rfl rfl rfl rfl ⟨rfl, rfl, rfl, rfl, rfl⟩ rfl rfl rfl rfl rfl (by kernel_rfl) Tryz.func3 closed inst wrap
    (fun os started H enc _ F0 => by rw [OpenClaim.pre_eq_preRow]; exact lifted os started H enc F0)
theorem proved : Rows.CastNamesCardSaid :=
  Claim7.holds_tied_plain_at .later [] [.data, .data, .data, .data, .handle, .sentinel, .sentinel, .pinned] true (true, "6df26e4fb4d4e94d1362140cc433ff2a31436d8a989358e91b1a59a2e4af0994") true
    over (fun _ h => by cases h) wf_ (fun _ h => by cases h) castNames_row_tie rfl ⟨rfl, rfl⟩ main_ rfl
    (fun f fn hf hfn => by
      obtain rfl : f = 3 := Option.some.inj (named_.symm.trans hf) |>.symm
      obtain rfl : fn = Tryz.f3 := (Option.some.inj (Tryz.func3.symm.trans hfn)).symm
      exact ⟨looks_, fun j t ht => by
        rw [Tryz.params3] at ht
        simp at ht⟩)
    goes_
#print axioms proved
end Go.Proofs.YtngjhkcdhbfkiaaGreatDoor.castNamesDone
end
