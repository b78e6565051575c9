/- Part 2 of a proof laid in parts, one behind the other; no condition of its own. -/
import Derived.Test.YtknjkljigmepjaaGreatDoorRows
import Derived.Test.YtknjkljigmepjaaGreatDoorZ01
import Derived.JoinedOf
set_option linter.all false
section
namespace Go.Proofs.YtknjkljigmepjaaGreatDoor
def initSigns : List Char := List.map Char.ofNat [104, 97, 114, 110, 101, 115, 115, 32, 49, 51, 48, 56, 55, 99, 100, 50, 48, 98, 50, 52, 100, 102, 55, 52, 56, 101, 54, 53, 57, 55, 99, 51, 55, 48, 53, 53, 101, 54, 98, 50, 100, 56, 100, 100, 102, 54, 48, 53, 56, 97, 97, 101, 53, 57, 98, 55, 101, 49, 56, 54, 56, 102, 99, 52, 101, 101, 56, 50, 52, 51, 102, 99, 32, 99, 117, 116, 32, 97, 116, 32, 116, 105, 100, 101, 119, 97, 105, 116, 101, 114, 47, 116, 105, 100, 101, 119, 97, 105, 116, 101, 114, 108, 97, 119, 51, 50, 46, 84, 97, 108, 101, 78, 97, 109, 101, 115]
theorem init_of : Tryz.prog.initOrder = String.ofList initSigns := by kernel_rfl
theorem init_list : Tryz.prog.initOrder.toList = initSigns := by rw [init_of, String.toList_ofList]
def headWords : List (List Char) := [[Char.ofNat 104, Char.ofNat 97, Char.ofNat 114, Char.ofNat 110, Char.ofNat 101, Char.ofNat 115, Char.ofNat 115], [Char.ofNat 49, Char.ofNat 51, Char.ofNat 48, Char.ofNat 56, Char.ofNat 55, Char.ofNat 99, Char.ofNat 100, Char.ofNat 50, Char.ofNat 48, Char.ofNat 98, Char.ofNat 50, Char.ofNat 52, Char.ofNat 100, Char.ofNat 102, Char.ofNat 55, Char.ofNat 52, Char.ofNat 56, Char.ofNat 101, Char.ofNat 54, Char.ofNat 53, Char.ofNat 57, Char.ofNat 55, Char.ofNat 99, Char.ofNat 51, Char.ofNat 55, Char.ofNat 48, Char.ofNat 53, Char.ofNat 53, Char.ofNat 101, Char.ofNat 54, Char.ofNat 98, Char.ofNat 50, Char.ofNat 100, Char.ofNat 56, Char.ofNat 100, Char.ofNat 100, Char.ofNat 102, Char.ofNat 54, Char.ofNat 48, Char.ofNat 53, Char.ofNat 56, Char.ofNat 97, Char.ofNat 97, Char.ofNat 101, Char.ofNat 53, Char.ofNat 57, Char.ofNat 98, Char.ofNat 55, Char.ofNat 101, Char.ofNat 49, Char.ofNat 56, Char.ofNat 54, Char.ofNat 56, Char.ofNat 102, Char.ofNat 99, Char.ofNat 52, Char.ofNat 101, Char.ofNat 101, Char.ofNat 56, Char.ofNat 50, Char.ofNat 52, Char.ofNat 51, Char.ofNat 102, Char.ofNat 99], [Char.ofNat 99, Char.ofNat 117, Char.ofNat 116], [Char.ofNat 97, Char.ofNat 116], [Char.ofNat 116, Char.ofNat 105, Char.ofNat 100, Char.ofNat 101, Char.ofNat 119, Char.ofNat 97, Char.ofNat 105, Char.ofNat 116, Char.ofNat 101, Char.ofNat 114, Char.ofNat 47, Char.ofNat 116, Char.ofNat 105, Char.ofNat 100, Char.ofNat 101, Char.ofNat 119, Char.ofNat 97, Char.ofNat 105, Char.ofNat 116, Char.ofNat 101, Char.ofNat 114, Char.ofNat 108, Char.ofNat 97, Char.ofNat 119, Char.ofNat 51, Char.ofNat 50, Char.ofNat 46, Char.ofNat 84, Char.ofNat 97, Char.ofNat 108, Char.ofNat 101, Char.ofNat 78, Char.ofNat 97, Char.ofNat 109, Char.ofNat 101, Char.ofNat 115]]
def cutWord : List Char := [Char.ofNat 99, Char.ofNat 117, Char.ofNat 116]
def restWords : List (List Char) := [[Char.ofNat 97, Char.ofNat 116], [Char.ofNat 116, Char.ofNat 105, Char.ofNat 100, Char.ofNat 101, Char.ofNat 119, Char.ofNat 97, Char.ofNat 105, Char.ofNat 116, Char.ofNat 101, Char.ofNat 114, Char.ofNat 47, Char.ofNat 116, Char.ofNat 105, Char.ofNat 100, Char.ofNat 101, Char.ofNat 119, Char.ofNat 97, Char.ofNat 105, Char.ofNat 116, Char.ofNat 101, Char.ofNat 114, Char.ofNat 108, Char.ofNat 97, Char.ofNat 119, Char.ofNat 51, Char.ofNat 50, Char.ofNat 46, Char.ofNat 84, Char.ofNat 97, Char.ofNat 108, Char.ofNat 101, Char.ofNat 78, Char.ofNat 97, Char.ofNat 109, Char.ofNat 101, Char.ofNat 115]]
theorem words_eq : wordsSigns initSigns = headWords := by kernel_rfl
theorem tail_eq : behindMainWord headWords = (cutWord :: restWords) := by kernel_rfl
theorem tail_of : behindMainWord (wordsSigns Tryz.prog.initOrder.toList) = (cutWord :: restWords) := by rw [init_list, words_eq, tail_eq]
theorem strip_eq : stripLifts liftWords (cutWord :: restWords) = ([], (cutWord :: restWords)) := by kernel_rfl
theorem head_lifts : Tryz.prog.headLifts = [] := by unfold Program.headLifts; rw [tail_of, strip_eq]; kernel_rfl
theorem make_of (P : Program) (c : List Char) (rest : List (List Char)) (h : behindMainWord (wordsSigns P.initOrder.toList) = c :: rest) (h1 : (c == "gc".toList || c == "spec".toList) = false) (h2 : (c == "cut".toList) = true) : P.make = some .cut := by
  delta Program.make
  rewrite [h]
  simp only [h1, h2]
  rfl
theorem enter_of (P : Program) (c : List Char) (rest : List (List Char)) (h : behindMainWord (wordsSigns P.initOrder.toList) = c :: rest) (h1 : stripLifts liftWords (c :: rest) = ([], c :: rest)) (h2 : (c == "cut".toList) = true) (h3 : P.laysLater = false) (h4 : P.bearsReflect = false) (h5 : P.doorFits [] = true) : P.mayEnter = true := by
  delta Program.mayEnter
  rewrite [h]
  dsimp only
  rewrite [h1]
  have e : ((c :: rest).head? == some "cut".toList) = true := by simpa using h2
  simp only [e, h3, h4, h5]
  simp
theorem lifts_of (P : Program) (c : List Char) (rest : List (List Char)) (h : behindMainWord (wordsSigns P.initOrder.toList) = c :: rest) (h1 : (c == "carried".toList) = false) (h2 : P.headLifts = []) : P.liftsFinal = false := by
  delta Program.liftsFinal
  rewrite [h, h2]
  have e : ((c :: rest).head? == some "carried".toList) = false := by simpa using h1
  simp only [e]
  simp
theorem may_enter : Tryz.prog.mayEnter = true := enter_of _ cutWord restWords tail_of strip_eq (by kernel_rfl) (by kernel_rfl) (by kernel_rfl) (by kernel_rfl)
theorem lifts_final : Tryz.prog.liftsFinal = false := lifts_of _ cutWord restWords tail_of (by kernel_rfl) head_lifts
theorem make_cut : Tryz.prog.make = some .cut := make_of _ cutWord restWords tail_of (by kernel_rfl) (by kernel_rfl)
theorem own : ownKnob Tryz.prog.godebug = none := by kernel_rfl
theorem maps_rowed : mapsRowed Tryz.prog = true := by kernel_rfl
theorem stops_none : Tryz.prog.stops = [] := by kernel_rfl
theorem stopKnobs_none : Tryz.prog.stopKnobs = [] := by kernel_rfl
theorem stops_heard : Tryz.prog.stopsHeard = true := by kernel_rfl
end Go.Proofs.YtknjkljigmepjaaGreatDoor
end
