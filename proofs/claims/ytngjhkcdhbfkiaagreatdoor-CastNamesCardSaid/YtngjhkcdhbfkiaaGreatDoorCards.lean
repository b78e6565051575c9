/-
  DERIVED. GIVEN WITH THE SEED: THE CARDS: each row of YtngjhkcdhbfkiaaGreatDoorRows.lean that lists a variable, with what it lists TIED to the program's text (the seventh form; the later family's looks); each row that meets fmt, with fmt's text TOLD by the authors' own Lean function (tested against real Go, not proved from fmt's source: count such statements apart). THE CARD IS WHAT COUNTS. Prove the row's statement (the work); the ties are given (YtngjhkcdhbfkiaaGreatDoorTie.lean); close each card by the builder's one call (the guide's Derived/Test/ToyasCard.lean, 'card_holds'). Laid BY PROGRAM, IN A SANDBOX (cutbox-door.mjs). By AI agents, Wed Nov 11 2026. No macro, syntax, notation, axiom, sorry.
-/
import Derived.Test.YtngjhkcdhbfkiaaGreatDoorRows
import GoSem.ClaimSeven
namespace Go.Proofs.YtngjhkcdhbfkiaaGreatDoor
namespace Rows

/-- THE TIED CARD OF 'tidewaiterlaw25.CastNames'. -/
def castNamesCard : Claim7 := { stood := { row := castNamesRow, standIns := [], harness := (true, "6df26e4fb4d4e94d1362140cc433ff2a31436d8a989358e91b1a59a2e4af0994"), looks := true }, kinds := [], alts := [], laidByText := true, laidKinds := [.data, .data, .data, .data, .handle, .sentinel, .sentinel, .pinned], laidTests := true, laidLooks := .later }
def CastNamesCardSaid : Prop := Claim7.holds Tryz.pinned (.plain (OpenSpec.ofChange castNamesSpec)) castNamesCard

/-- THE SECOND FORM's CARD OF 'tidewaiterlaw25.CastNames'. -/
def castNamesUptoCard : Claim7 := { stood := { row := castNamesUptoRow, standIns := [], harness := (true, "6df26e4fb4d4e94d1362140cc433ff2a31436d8a989358e91b1a59a2e4af0994"), looks := true }, kinds := [], alts := [], laidByText := true, laidKinds := [.data, .data, .data, .data, .handle, .sentinel, .sentinel, .pinned], laidTests := true, laidLooks := .later }
def CastNamesUptoCardSaid : Prop := Claim7.holds Tryz.pinned (.plain (OpenSpec.upto castNamesSpec)) castNamesUptoCard
end Rows
end Go.Proofs.YtngjhkcdhbfkiaaGreatDoor
