/- Part 1 of a proof laid in parts, one behind the other; no condition of its own. -/
import Derived.Test.YtknjkljigmepjaaGreatDoorRows
import Derived.JoinedOf
set_option linter.all false
section
namespace Go.Proofs.YtknjkljigmepjaaGreatDoor
theorem size_types : Tryz.prog.types.size = 931 := by kernel_rfl
theorem rows_0 : (List.range' 0 100).all (rowFine Tryz.prog) = true := by kernel_rfl
theorem rows_1 : (List.range' 100 100).all (rowFine Tryz.prog) = true := by kernel_rfl
theorem rows_2 : (List.range' 200 100).all (rowFine Tryz.prog) = true := by kernel_rfl
theorem rows_3 : (List.range' 300 100).all (rowFine Tryz.prog) = true := by kernel_rfl
theorem rows_4 : (List.range' 400 100).all (rowFine Tryz.prog) = true := by kernel_rfl
theorem rows_5 : (List.range' 500 100).all (rowFine Tryz.prog) = true := by kernel_rfl
theorem rows_6 : (List.range' 600 100).all (rowFine Tryz.prog) = true := by kernel_rfl
theorem rows_7 : (List.range' 700 100).all (rowFine Tryz.prog) = true := by kernel_rfl
theorem rows_8 : (List.range' 800 100).all (rowFine Tryz.prog) = true := by kernel_rfl
theorem rows_9 : (List.range' 900 31).all (rowFine Tryz.prog) = true := by kernel_rfl
theorem globals_ok : Tryz.prog.globals.all (fun g => decide (g.type < 931)) = true := by kernel_rfl
theorem params_ok : Tryz.prog.funcs.all (fun f => f.params.all fun t => decide (t < 931)) = true := by kernel_rfl
theorem range_all {f : Nat → Bool} {a n t : Nat} (h : (List.range' a n).all f = true) (h1 : a ≤ t) (h2 : t < a + n) : f t = true := List.all_eq_true.1 h t (List.mem_range'_1.2 ⟨h1, h2⟩)
theorem rows_ok (t : Nat) (h : t < 931) : rowFine Tryz.prog t = true := by
  rcases Nat.lt_or_ge t 100 with h0 | h0
  · exact range_all rows_0 (by omega) (by omega)
  rcases Nat.lt_or_ge t 200 with h1 | h1
  · exact range_all rows_1 (by omega) (by omega)
  rcases Nat.lt_or_ge t 300 with h2 | h2
  · exact range_all rows_2 (by omega) (by omega)
  rcases Nat.lt_or_ge t 400 with h3 | h3
  · exact range_all rows_3 (by omega) (by omega)
  rcases Nat.lt_or_ge t 500 with h4 | h4
  · exact range_all rows_4 (by omega) (by omega)
  rcases Nat.lt_or_ge t 600 with h5 | h5
  · exact range_all rows_5 (by omega) (by omega)
  rcases Nat.lt_or_ge t 700 with h6 | h6
  · exact range_all rows_6 (by omega) (by omega)
  rcases Nat.lt_or_ge t 800 with h7 | h7
  · exact range_all rows_7 (by omega) (by omega)
  rcases Nat.lt_or_ge t 900 with h8 | h8
  · exact range_all rows_8 (by omega) (by omega)
  exact range_all rows_9 (by omega) (by omega)
theorem laidOut : laidOutB Tryz.prog = true := by
  unfold laidOutB
  rw [size_types]
  have h : (List.range 931).all (rowFine Tryz.prog) = true := List.all_eq_true.2 fun t ht => rows_ok t (List.mem_range.1 ht)
  rw [h, globals_ok, params_ok]
  rfl
end Go.Proofs.YtknjkljigmepjaaGreatDoor
end
