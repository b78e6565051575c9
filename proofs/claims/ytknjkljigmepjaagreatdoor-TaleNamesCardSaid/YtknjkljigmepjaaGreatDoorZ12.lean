/- Part 12 of a proof laid in parts, one behind the other; no condition of its own. -/
import Derived.Test.YtknjkljigmepjaaGreatDoorZ11
import Derived.LaidHandle
import Derived.Lib.LaidTab
import Derived.Shelf.Vars
import Derived.Test.YtknjkljigmepjaaGreatDoorRows
import Derived.MakeChecks
import Derived.WalkKit
import Derived.ProofKit
import Derived.OpenShut
import Derived.ChangeOld
import Derived.Below
import Derived.Deep.DeepHandedRow
import Derived.Deep.DeepWitnessRowRef
import Derived.SizedLaws
import Derived.LaidMore
import Derived.LaidOnce
import Derived.Stop.Joined
import Derived.Lib.LaidU8
import Derived.Shelf.LaysM
import Derived.Lib.DecodeN
import Derived.JoinedCond
import Derived.LaidSub
import Derived.Lay
set_option linter.all false
section
namespace Go.Proofs.YtknjkljigmepjaaGreatDoor
open Go.Proofs.YtknjkljigmepjaaGreatDoor.Clo Go.Lib
set_option maxRecDepth 100000
noncomputable def intsRow (k : IntKind) : List Int → AV
  | [] => .nil
  | z :: zs => .cons (.i k z) (intsRow k zs)
theorem intsRow_says (φ : Clo.Id → Option Plc) (k : IntKind) : ∀ zs : List Int, VL φ (intsRow k zs) (zs.map fun z => Value.int k z)
  | [] => rfl
  | _ :: zs => ⟨_, _, rfl, rfl, intsRow_says φ k zs⟩
def powInts : List Int := [1, 10, 100, 1000, 10000, 100000, 1000000, 10000000, 100000000, 1000000000, 10000000000, 100000000000, 1000000000000, 10000000000000, 100000000000000, 1000000000000000, 10000000000000000, 100000000000000000, 1000000000000000000, 10000000000000000000]
theorem powRow_is : powRow = intsRow .u64 powInts := by kernel_rfl
theorem cells_at {W : World} (h : W.ShapedOpen Tryz.prog) (g : Nat) (t : TypeId) (n : Nat) (hg : (g < Tryz.prog.globals.size) = True) (h0 : (((begin Tryz.prog (fun _ _ => 0) default).world.heap[g]?).bind Obj.row?).map (fun x => (x.1.size, x.2)) = some (n, t)) :
    ∃ cs m, W.heap[g]? = some (.cells cs t m) ∧ cs.size = n ∧ m = (0, 0) := by
  obtain ⟨⟨zero, t'⟩, h1, h2⟩ := Option.map_eq_some_iff.1 h0
  simp only [Prod.mk.injEq] at h2
  obtain ⟨rfl, rfl⟩ := h2
  obtain ⟨cs, hh, hs, _⟩ := h.1 g zero t' (of_eq_true hg) h1
  exact ⟨cs, _, hh, hs, rfl⟩
theorem one_cell {W : World} {g : Nat} {cs : Array Value} {t : TypeId} {m : Nat × Nat} {v : Value} (h : W.heap[g]? = some (.cells cs t m)) (hs : cs.size = 1) (hc : W.cell? ⟨g, 0, none⟩ = some v) : cs = #[v] := by
  have : cs[0]? = some v := by simpa [World.cell?, h] using hc
  apply Array.ext (by simp [hs])
  intro i h1 h2
  obtain rfl : i = 0 := by omega
  rw [Array.getElem?_eq_getElem h1] at this
  simpa using this
theorem tabs_of {W : World} (h : W.ShapedOpen Tryz.prog) (he : W.cell? ⟨4, 0, none⟩ = some asHandle) (hp : TabIs Tryz.prog W "internal/strconv.uint64pow10" .u64 powInts) : TabsR W.heap.size W := by
  have hm : ∃ m, W.cell? ⟨1, 0, none⟩ = some (.int .i64 m) :=
    Go.Proofs.cell_of_shapedOpen_int (zero := #[.int .i64 0]) (t := 3) h (of_decide_eq_true (by kernel_rfl)) (by kernel_rfl) rfl (by kernel_rfl) (by kernel_rfl) Tryz.underlying3
  intro p hpm
  have hl : p = (0, .row 338 false none true powRow) ∨ p = (1, .num .i64) ∨ p = (4, .fix asHandle) := by
    have h1 : p ∈ [((0 : Nat), Blk.row 338 false none true powRow), (1, .num .i64), (4, .fix asHandle)] := hpm
    simpa using h1
  rcases hl with rfl | rfl | rfl
  · obtain ⟨cs, m, hh, hs, _⟩ := cells_at h 0 338 20 (eq_true (of_decide_eq_true (by kernel_rfl))) (by kernel_rfl)
    have hc : cs = (powInts.map fun z => Value.int .u64 z).toArray := by
      have hg : Tryz.prog.globalNamed "internal/strconv.uint64pow10" = some 0 := by kernel_rfl
      have hp' := hp
      unfold TabIs World.var? at hp'
      rw [hg] at hp'
      simpa [hh] using hp'
    refine ⟨(Array.getElem?_eq_some_iff.1 hh).1, rfl, _, hh, fun φ => ⟨cs, [], powInts.map fun z => Value.int .u64 z, [], m, rfl, ?_, ?_, fun _ => ⟨rfl, rfl⟩, ?_, rfl, trivial⟩⟩
    · rw [hc]; simp
    · rw [powRow_is]; exact intsRow_says φ _ _
    · rw [hs]; rfl
  · obtain ⟨cs, m, hh, hs, _⟩ := cells_at h 1 _ 1 (eq_true (of_decide_eq_true (by kernel_rfl))) rfl
    obtain ⟨n, hn⟩ := hm
    obtain rfl := one_cell hh hs hn
    exact ⟨(Array.getElem?_eq_some_iff.1 hh).1, rfl, _, hh, fun φ => ⟨_, _, _, rfl⟩⟩
  · obtain ⟨cs, m, hh, hs, _⟩ := cells_at h 4 _ 1 (eq_true (of_decide_eq_true (by kernel_rfl))) rfl
    obtain rfl := one_cell hh hs he
    exact ⟨(Array.getElem?_eq_some_iff.1 hh).1, rfl, _, hh, fun φ => ⟨_, _, rfl⟩⟩
end Go.Proofs.YtknjkljigmepjaaGreatDoor
end
section
namespace Go.Proofs.YtknjkljigmepjaaGreatDoor.taleNamesDone
open Go.ChangeShapes Go.WideShapes Go.ChangeAt Go.RowKit Go.Lib
set_option linter.unusedVariables false
set_option maxRecDepth 100000
abbrev plainL : List (String × DataW Unit) := Rows.taleNamesRow.laid.filter fun x => x.2.handleName?.isNone
abbrev sentN : List String := ["strconv.ErrSyntax", "strconv.ErrRange"]
abbrev tabL : List (String × DataW Unit) := plainL.filter fun x => !sentN.contains x.1
abbrev sentL : List (String × DataW Unit) := plainL.filter fun x => sentN.contains x.1
def bytesOf (d : DataW Unit) : ByteArray := match d with
  | .iface _ (.ptr (.agg [.lit (.string bs)])) => ⟨bs.toArray⟩
  | _ => ⟨#[]⟩
noncomputable def w0h (os : Os) : World :=
  let w0 := World.holding Tryz.prog os ⟨#[], #[], []⟩
  let put := fun (v : Value) (o : Obj) => match o with
    | .cells _ t frozen => Obj.cells #[v] t frozen
    | o => o
  { w0 with heap := (((w0.heap.modify 4 (put (.iface 663 (.agg #[.pointer (some ⟨9, 54, none⟩)])))).modify 7 (put (.iface 887 (.pointer (some ⟨w0.heap.size, 0, none⟩))))).modify 8
      (put (.iface 887 (.pointer (some ⟨w0.heap.size + 1, 0, none⟩))))) ++ #[Obj.cells #[.string (bytesOf Rows.laid_strconv_ErrSyntax)] 889 (0, 0), Obj.cells #[.string (bytesOf Rows.laid_strconv_ErrRange)] 889 (0, 0)] }
noncomputable def laidWorld (os : Os) : World := (w0h os).layVars Tryz.prog tabL
noncomputable abbrev laidW (os : Os) (args : Array Value) : World := ((laidWorld os).forCall (fun _ _ => 0) ⟨#[], args, []⟩).memory
noncomputable abbrev callW (os : Os) : World := (laidWorld os).forCall (fun _ _ => 0) ⟨#[], #[], []⟩
abbrev sentB : List Nat := [7, 8, 14, 15]
end Go.Proofs.YtknjkljigmepjaaGreatDoor.taleNamesDone
end
section
namespace Go.Proofs.YtknjkljigmepjaaGreatDoor.taleNamesDone
open Go.ChangeShapes Go.WideShapes Go.ChangeAt Go.RowKit Go.Lib
set_option linter.unusedVariables false
set_option maxRecDepth 100000
theorem f0 (os : Os) : (w0h os).heap.size = 16 := by kernel_rfl
theorem f1 (os : Os) : (w0h os).layFits Tryz.prog tabL sentB = true := by kernel_rfl
theorem f2 (os : Os) : (w0h os).layIfaces Tryz.prog tabL (laidWorld os) = true := by kernel_rfl
end Go.Proofs.YtknjkljigmepjaaGreatDoor.taleNamesDone
end
section
namespace Go.Proofs.YtknjkljigmepjaaGreatDoor.taleNamesDone
open Go.ChangeShapes Go.WideShapes Go.ChangeAt Go.RowKit Go.Lib
set_option linter.unusedVariables false
set_option maxRecDepth 100000
theorem s1 (os : Os) : (DataW.laidRun Tryz.prog (laidWorld os) 8 (sentL.map (·.1))).map (·.1) = some sentL := by kernel_rfl
theorem s2 (os : Os) : (DataW.laidRun Tryz.prog (laidWorld os) 8 (sentL.map (·.1))).map (fun x => nodupB (x.2.map MemPlace.codeOf)) = some true := by kernel_rfl
theorem s3 (os : Os) : (DataW.laidRun Tryz.prog (laidWorld os) 8 (sentL.map (·.1))).map (fun x => laidRowsB Tryz.prog (laidWorld os) x.2) = some true := by kernel_rfl
theorem s4 (os : Os) : (DataW.laidRun Tryz.prog (laidWorld os) 8 (sentL.map (·.1))).map (fun x => x.2.all fun p => sentB.contains p.block) = some true := by kernel_rfl
end Go.Proofs.YtknjkljigmepjaaGreatDoor.taleNamesDone
end
section
namespace Go.Proofs.YtknjkljigmepjaaGreatDoor.taleNamesDone
open Go.ChangeShapes Go.WideShapes Go.ChangeAt Go.RowKit Go.Lib
set_option linter.unusedVariables false
set_option maxRecDepth 100000
theorem p4 (os : Os) (args : Array Value) : ((Rows.taleNamesRow.laid.filter fun x => x.2.handleName?.isSome && x.2.funcsIn?.isNone).all (handleAtB Tryz.prog (laidW os args))) = true := by kernel_rfl
end Go.Proofs.YtknjkljigmepjaaGreatDoor.taleNamesDone
end
section
namespace Go.Proofs.YtknjkljigmepjaaGreatDoor.taleNamesDone
open Go.ChangeShapes Go.WideShapes Go.ChangeAt Go.RowKit Go.Lib
set_option linter.unusedVariables false
set_option maxRecDepth 100000
theorem p5 (os : Os) (args : Array Value) : funcsRun Tryz.prog (laidW os args) 8 ((funcsListed Rows.taleNamesRow.laid).map (·.1)) = some ((funcsListed Rows.taleNamesRow.laid).map (·.2.funcsOut)) := by kernel_rfl
end Go.Proofs.YtknjkljigmepjaaGreatDoor.taleNamesDone
end
section
namespace Go.Proofs.YtknjkljigmepjaaGreatDoor.taleNamesDone
open Go.ChangeShapes Go.WideShapes Go.ChangeAt Go.RowKit Go.Lib
set_option linter.unusedVariables false
set_option maxRecDepth 100000
theorem zip_ok (os : Os) : (callW os).variablesZipB Tryz.prog = true := by kernel_rfl
end Go.Proofs.YtknjkljigmepjaaGreatDoor.taleNamesDone
end
section
namespace Go.Proofs.YtknjkljigmepjaaGreatDoor.taleNamesDone
open Go.ChangeShapes Go.WideShapes Go.ChangeAt Go.RowKit Go.Lib
set_option linter.unusedVariables false
set_option maxRecDepth 100000
theorem rest_ok (os : Os) : ((callW os).heap.toList.drop Tryz.prog.globals.size).take ((begin Tryz.prog (fun _ _ => 0) default).world.heap.size - Tryz.prog.globals.size) =
      (begin Tryz.prog (fun _ _ => 0) default).world.heap.toList.drop Tryz.prog.globals.size := by kernel_rfl
end Go.Proofs.YtknjkljigmepjaaGreatDoor.taleNamesDone
end
section
namespace Go.Proofs.YtknjkljigmepjaaGreatDoor.taleNamesDone
open Go.ChangeShapes Go.WideShapes Go.ChangeAt Go.RowKit Go.Lib
set_option linter.unusedVariables false
set_option maxRecDepth 100000
theorem wide_ok (os : Os) : Input.okWideB Tryz.prog (callW os) 3 ⟨#[], #[], []⟩ = true := by kernel_rfl
end Go.Proofs.YtknjkljigmepjaaGreatDoor.taleNamesDone
end
section
namespace Go.Proofs.YtknjkljigmepjaaGreatDoor.taleNamesDone
open Go.ChangeShapes Go.WideShapes Go.ChangeAt Go.RowKit Go.Lib
set_option linter.unusedVariables false
set_option maxRecDepth 100000
theorem whole_ok (os : Os) {H : Type} (enc : TypeId × Value → H) : (DataW.whole enc Tryz.prog (callW os).memory Tryz.f3.params.toList (OpenSpec.ofChange Rows.taleNamesSpec).vars false (#[] : Array Value).toList 8).map (fun x => (x.1, x.2.1)) =
      some ([], []) := by kernel_rfl
theorem conds_ok {H : Type} : Rows.taleNamesRow.domain.all (PathCond.test (H := H) Tryz.prog ⟨Tryz.f3.params.toList, [], (OpenSpec.ofChange Rows.taleNamesSpec).bare.plain.varTypes Tryz.prog, []⟩) = true := by kernel_rfl
theorem sized_ok (os : Os) {H : Type} (enc : TypeId × Value → H) : (OpenSpec.ofChange Rows.taleNamesSpec).bare.sizedB enc Tryz.prog Tryz.f3 false (callW os).memory #[] 8 = true := by kernel_rfl
end Go.Proofs.YtknjkljigmepjaaGreatDoor.taleNamesDone
end
section
namespace Go.Proofs.YtknjkljigmepjaaGreatDoor.taleNamesDone
open Go.ChangeShapes Go.WideShapes Go.ChangeAt Go.RowKit Go.Lib
set_option linter.unusedVariables false
set_option maxRecDepth 100000
theorem size8 : (((begin Tryz.prog (fun _ _ => 0) default).world.heap[8]?).bind Obj.row?).isSome = true := by kernel_rfl
theorem glob8 : decide (8 < Tryz.prog.globals.size) = true := by kernel_rfl
end Go.Proofs.YtknjkljigmepjaaGreatDoor.taleNamesDone
end
section
namespace Go.Proofs.YtknjkljigmepjaaGreatDoor.taleNamesDone
open Go.ChangeShapes Go.WideShapes Go.ChangeAt Go.RowKit Go.Lib
set_option linter.unusedVariables false
set_option maxRecDepth 100000
theorem one_pow : Rows.taleNamesRow.laid.filter (fun x => x.1 == "internal/strconv.uint64pow10") = [("internal/strconv.uint64pow10", Rows.laid_internal_strconv_uint64pow10)] := by kernel_rfl
theorem one_err : Rows.taleNamesRow.laid.filter (fun x => x.1 == "errors.errorType") = [("errors.errorType", Rows.laid_errors_errorType)] := by kernel_rfl
theorem pow_g : Tryz.prog.globalNamed "internal/strconv.uint64pow10" = some 0 := by kernel_rfl
theorem pow_t : (Tryz.prog.globals[0]?).map (·.type) = some 338 := by kernel_rfl
theorem err_g : Tryz.prog.globalNamed "errors.errorType" = some 4 := by kernel_rfl
theorem rt_of : (Tryz.prog.cutTypes.find? (·.1 == "internal/reflectlite.rtype")).map (·.2) = some 663 := by kernel_rfl
theorem types_size : Tryz.prog.types.size = 931 := by kernel_rfl
theorem err_h : typeHandle Tryz.prog 54 = .pointer (some ⟨9, 54, none⟩) := by kernel_rfl
end Go.Proofs.YtknjkljigmepjaaGreatDoor.taleNamesDone
end
