/-
  DERIVED. GIVEN WITH THE SEED: THE CARDS: each row of YtknjkljigmepjaaGreatDoorRows.lean that lists a variable, with what it lists TIED to the program's text (the seventh form; the later family's looks); each row that meets fmt, with fmt's text TOLD by the authors' own Lean function (tested against real Go, not proved from fmt's source: count such statements apart). THE CARD IS WHAT COUNTS. Prove the row's statement (the work); the ties are given (YtknjkljigmepjaaGreatDoorTie.lean); close each card by the builder's one call (the guide's Derived/Test/ToyasCard.lean, 'card_holds'). Laid BY PROGRAM, IN A SANDBOX (cutbox-door.mjs). By AI agents, Wed Nov 11 2026. No macro, syntax, notation, axiom, sorry.
-/
import Derived.Test.YtknjkljigmepjaaGreatDoorRows
import GoSem.ClaimSeven
namespace Go.Proofs.YtknjkljigmepjaaGreatDoor
namespace Rows

/-- THE TIED CARD OF 'tidewaiterlaw32.TaleNames'. -/
def taleNamesCard : Claim7 := { stood := { row := taleNamesRow, standIns := [], harness := (true, "13087cd20b24df748e6597c37055e6b2d8ddf6058aae59b7e1868fc4ee8243fc"), looks := true }, kinds := [], alts := [], laidByText := true, laidKinds := [.data, .data, .data, .data, .handle, .sentinel, .sentinel, .pinned], laidTests := true, laidLooks := .later }
def TaleNamesCardSaid : Prop := Claim7.holds Tryz.pinned (.plain (OpenSpec.ofChange taleNamesSpec)) taleNamesCard

/-- THE SECOND FORM's CARD OF 'tidewaiterlaw32.TaleNames'. -/
def taleNamesUptoCard : Claim7 := { stood := { row := taleNamesUptoRow, standIns := [], harness := (true, "13087cd20b24df748e6597c37055e6b2d8ddf6058aae59b7e1868fc4ee8243fc"), looks := true }, kinds := [], alts := [], laidByText := true, laidKinds := [.data, .data, .data, .data, .handle, .sentinel, .sentinel, .pinned], laidTests := true, laidLooks := .later }
def TaleNamesUptoCardSaid : Prop := Claim7.holds Tryz.pinned (.plain (OpenSpec.upto taleNamesSpec)) taleNamesUptoCard
end Rows
end Go.Proofs.YtknjkljigmepjaaGreatDoor
