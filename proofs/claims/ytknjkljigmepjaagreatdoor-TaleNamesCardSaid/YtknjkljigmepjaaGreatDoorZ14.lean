/- Part 14 of a proof laid in parts, one behind the other; no condition of its own. -/
import Derived.Test.YtknjkljigmepjaaGreatDoorZ02
import Derived.Test.YtknjkljigmepjaaGreatDoorZ12
import Derived.Test.YtknjkljigmepjaaGreatDoorZ13
import Derived.MakeChecks
import Derived.WalkKit
import Derived.ProofKit
import Derived.OpenShut
import Derived.ChangeOld
import Derived.Below
import Derived.Deep.DeepHandedRow
import Derived.Deep.DeepWitnessRowRef
import Derived.SizedLaws
import Derived.LaidMore
import Derived.LaidOnce
import Derived.Stop.Joined
import Derived.Lib.LaidU8
import Derived.Lib.LaidTab
import Derived.Shelf.LaysM
import Derived.Lib.DecodeN
import Derived.JoinedCond
import Derived.LaidSub
import Derived.Lay
set_option linter.all false
section
namespace Go.Proofs.YtknjkljigmepjaaGreatDoor.taleNamesDone
open Go.ChangeShapes Go.WideShapes Go.ChangeAt Go.RowKit Go.Lib
set_option linter.unusedVariables false
set_option maxRecDepth 100000
theorem e1 : (plainL.filter fun x => (tabL.map (·.1)).contains x.1) = tabL := by rfl
theorem e2 : (plainL.filter fun x => !(tabL.map (·.1)).contains x.1) = sentL := by rfl
theorem laid_plain (os : Os) (args : Array Value) : laidMet Tryz.prog plainL (laidW os args) := by
  have h : laidMet Tryz.prog plainL (laidWorld os) := laidMet_layVars (w0 := w0h os) (tabL.map (·.1)) sentB (by rw [e1]; rfl) (by rw [e1]; exact f1 os) (by rw [e1]; exact f2 os) (by rw [e2]; exact LaidIn.of_run sentB 8 (s1 os) (s2 os) (s3 os) (s4 os))
  exact h.of_heap (by simp [World.memory, World.forCall, Input.heap])
theorem laid_met (os : Os) (args : Array Value) : laidMetH Tryz.prog Rows.taleNamesRow.laid ((laidWorld os).forCall (fun _ _ => 0) ⟨#[], args, []⟩).memory :=
  laidMetH_of_parts3 (fuel := 8) (laid_plain os args) (p4 os args) (p5 os args)
theorem witness_row (os : Os) {H : Type} (enc : TypeId × Value → H) :
    (OpenSpec.ofChange Rows.taleNamesSpec).preRow enc Tryz.prog Tryz.f3 Rows.taleNamesRow.domain false Rows.taleNamesRow.laid (callW os).memory #[] := by
  obtain ⟨⟨x1, x2, x3⟩, hx, hx1⟩ := Option.map_eq_some_iff.1 (whole_ok os enc)
  simp only [Prod.mk.injEq] at hx1
  obtain ⟨rfl, rfl⟩ := hx1
  exact OpenSpec.preRow_of_cond 8 hx conds_ok (fun k hk => by cases hk) (sized_ok os enc) (laid_met os _)
theorem witness (os : Os) {H : Type} (enc : TypeId × Value → H) :
    ∃ (w : World) (tape : Tape) (i : Input), w.os = os ∧ (w.forCall tape i).Shaped Tryz.checked.prog ∧ i.vars = [] ∧ Input.okWide Tryz.checked.prog (w.forCall tape i) .any w.heap.size 3 i ∧
      (OpenSpec.ofChange Rows.taleNamesSpec).preRow enc Tryz.checked.prog Tryz.f3 Rows.taleNamesRow.domain false Rows.taleNamesRow.laid (w.forCall tape i).memory i.args ∧ ({} : Assume).holds Tryz.checked.prog (lone (Frame.enter Tryz.checked.prog 3 i.args .normal) [] (w.forCall tape i)) :=
  ⟨laidWorld os, fun _ _ => 0, ⟨#[], #[], []⟩, (World.layVars_os _ _ _).trans rfl, World.shaped_of_ZipB (zip_ok os) (rest_ok os), (Input.okWide_of_okWideB (base := 0) (wide_ok os)).1, (Input.okWide_of_okWideB (wide_ok os)).2, witness_row os enc, by
    simp only [Assume.holds]
    simp⟩
theorem size_of {W : World} (h : W.ShapedOpen Tryz.prog) : 9 ≤ W.heap.size := by
  obtain ⟨⟨zero, t⟩, h0⟩ := Option.isSome_iff_exists.1 size8
  obtain ⟨cs, hh, _⟩ := h.1 8 zero t (of_decide_eq_true glob8) h0
  have := (Array.getElem?_eq_some_iff.1 hh).1
  omega
theorem pow_of {W : World} (h : laidMetH Tryz.prog Rows.taleNamesRow.laid W) : Lib.TabIs Tryz.prog W "internal/strconv.uint64pow10" .u64 powInts := by
  have h1 := h.filter (fun x => x.1 == "internal/strconv.uint64pow10")
  rw [one_pow, Go.MakeChecks.laidMetH_plain _ _ _ (by kernel_rfl)] at h1
  exact tabIs_of_head (g := 0) pow_g pow_t Tryz.underlying338 Tryz.underlying58 (by kernel_rfl) (by kernel_rfl) h1
theorem handle_of {W : World} (h : laidMetH Tryz.prog Rows.taleNamesRow.laid W) : W.cell? ⟨4, 0, none⟩ = some asHandle := by
  have h1 := h.filter (fun x => x.1 == "errors.errorType")
  rw [one_err] at h1
  have h' : laidMet Tryz.prog [] W ∧ handlesMet Tryz.prog [("errors.errorType", Rows.laid_errors_errorType)] W := h1
  obtain ⟨name, u, ty, e1, e2, e3, e4, e5⟩ := h'.2 _ (List.mem_singleton.2 rfl)
  have en : name = [101, 114, 114, 111, 114] := (Option.some.inj e1).symm
  subst en
  obtain rfl := Option.some.inj (rt_of.symm.trans e2)
  obtain rfl := one_row (by rw [← types_size]; exact e3) e4
  rw [err_h] at e5
  simpa [asHandle] using World.var?_cell err_g e5 0
end Go.Proofs.YtknjkljigmepjaaGreatDoor.taleNamesDone
end
