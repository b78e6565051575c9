/-
  DERIVED. GIVEN WITH THE SEED: THE CARDS: each row of YtafoemfdchegkaaGreatDoorRows.lean that lists a variable, with what it lists TIED to the program's text (the seventh form; the later family's looks); each row that meets fmt, with fmt's text TOLD by the authors' own Lean function (tested against real Go, not proved from fmt's source: count such statements apart). THE CARD IS WHAT COUNTS. Prove the row's statement (the work); the ties are given (YtafoemfdchegkaaGreatDoorTie.lean); close each card by the builder's one call (the guide's Derived/Test/ToyasCard.lean, 'card_holds'). Laid BY PROGRAM, IN A SANDBOX (cutbox-door.mjs). By AI agents, Wed Nov 11 2026. No macro, syntax, notation, axiom, sorry.
-/
import Derived.Test.YtafoemfdchegkaaGreatDoorRows
import GoSem.ClaimSeven
namespace Go.Proofs.YtafoemfdchegkaaGreatDoor
namespace Rows

/-- THE TIED CARD OF 'tidewaiterlaw30.GateNames'. -/
def gateNamesCard : Claim7 := { stood := { row := gateNamesRow, standIns := [], harness := (true, "7c0830330b333ed1f679b50cdae349b40b3e06493172178c2633f3673de5209b"), looks := true }, kinds := [], alts := [], laidByText := true, laidKinds := [.pinned, .data, .data, .data, .data, .handle, .sentinel, .sentinel], laidTests := true, laidLooks := .later }
def GateNamesCardSaid : Prop := Claim7.holds Tryz.pinned (.plain (OpenSpec.ofChange gateNamesSpec)) gateNamesCard

/-- THE SECOND FORM's CARD OF 'tidewaiterlaw30.GateNames'. -/
def gateNamesUptoCard : Claim7 := { stood := { row := gateNamesUptoRow, standIns := [], harness := (true, "7c0830330b333ed1f679b50cdae349b40b3e06493172178c2633f3673de5209b"), looks := true }, kinds := [], alts := [], laidByText := true, laidKinds := [.pinned, .data, .data, .data, .data, .handle, .sentinel, .sentinel], laidTests := true, laidLooks := .later }
def GateNamesUptoCardSaid : Prop := Claim7.holds Tryz.pinned (.plain (OpenSpec.upto gateNamesSpec)) gateNamesUptoCard
end Rows
end Go.Proofs.YtafoemfdchegkaaGreatDoor
