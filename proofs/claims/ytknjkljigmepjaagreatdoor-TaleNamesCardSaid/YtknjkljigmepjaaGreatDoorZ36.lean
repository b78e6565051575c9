/- Part 36 of a proof laid in parts, one behind the other; no condition of its own. -/
import Derived.Test.YtknjkljigmepjaaGreatDoorRows
import Derived.LaidByTextLater
import Derived.SevenTiedAt
import Derived.MakeChecks
import Derived.Lib.LaidIn
set_option linter.all false
section
namespace Go.Proofs.YtknjkljigmepjaaGreatDoor.taleNamesDone
open Go
set_option linter.unusedVariables false
def hits (name : String) : List Func → Nat → List Nat
  | [], _ => []
  | fn :: r, i => bif fn.name == name then i :: hits name r (i + 1) else hits name r (i + 1)
theorem hits_is (name : String) (L : List Func) : ∀ (l : List Func) (a : Nat), (∀ i, l[i]? = L[a + i]?) → (List.range' a l.length).filter (fun i => (L[i]?).any (·.name == name)) = hits name l a
  | [], a, _ => rfl
  | fn :: r, a, h => by
    have h0 : L[a]? = some fn := by simpa using (h 0).symm
    have hr : ∀ i, r[i]? = L[a + 1 + i]? := fun i => by
      have := h (i + 1)
      rw [List.getElem?_cons_succ] at this
      rw [this]
      congr 1
      omega
    rw [List.length_cons, List.range'_succ, List.filter_cons, hits_is name L r (a + 1) hr, h0]
    show _ = bif fn.name == name then a :: hits name r (a + 1) else hits name r (a + 1)
    cases e : fn.name == name <;> simp [e]
theorem named_of_hits {P : Program} {name : String} {k : Nat} (h : hits name P.funcs.toList 0 = [k]) : P.funcNamed name = some k := by
  unfold Program.funcNamed
  have e : ((List.range P.funcs.size).filter fun i => (P.funcs[i]?).any (·.name == name)) = [k] := by
    rw [← h, ← hits_is name P.funcs.toList P.funcs.toList 0 (fun i => by simp), List.range_eq_range', Array.length_toList]
    simp
  rw [e]
theorem nv_hit : hits "gosem.cut.vars" Tryz.prog.funcs.toList 0 = [803] := by kernel_rfl
theorem nv_is : Tryz.prog.funcNamed "gosem.cut.vars" = some 803 := named_of_hits nv_hit
theorem ne_hit : hits "(internal/reflectlite.rtype).Elem" Tryz.prog.funcs.toList 0 = [780] := by kernel_rfl
theorem ne_is : Tryz.prog.funcNamed "(internal/reflectlite.rtype).Elem" = some 780 := named_of_hits ne_hit
theorem nl_hit : hits "tidewaiter/tidewaiterlaw32.TaleNames" Tryz.prog.funcs.toList 0 = [3] := by kernel_rfl
theorem nl_is : Tryz.prog.funcNamed "tidewaiter/tidewaiterlaw32.TaleNames" = some 3 := named_of_hits nl_hit
theorem vid : varsId Tryz.prog = 803 := by
  unfold varsId
  rw [nv_is]
  rfl
end Go.Proofs.YtknjkljigmepjaaGreatDoor.taleNamesDone
end
