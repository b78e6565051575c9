/-
  DERIVED. GIVEN WITH THE SEED: THE CARDS: each row of YtphifhbgigaeoaaGreatDoorRows.lean that lists a variable, with what it lists TIED to the program's text (the seventh form; the later family's looks); each row that meets fmt, with fmt's text TOLD by the authors' own Lean function (tested against real Go, not proved from fmt's source: count such statements apart). THE CARD IS WHAT COUNTS. Prove the row's statement (the work); the ties are given (YtphifhbgigaeoaaGreatDoorTie.lean); close each card by the builder's one call (the guide's Derived/Test/ToyasCard.lean, 'card_holds'). Laid BY PROGRAM, IN A SANDBOX (cutbox-door.mjs). By AI agents, Wed Nov 11 2026. No macro, syntax, notation, axiom, sorry.
-/
import Derived.Test.YtphifhbgigaeoaaGreatDoorRows
import GoSem.ClaimSeven
namespace Go.Proofs.YtphifhbgigaeoaaGreatDoor
namespace Rows

/-- THE TIED CARD OF 'tidewaiterlaw31.ModelNames'. -/
def modelNamesCard : Claim7 := { stood := { row := modelNamesRow, standIns := [], harness := (true, "40c01591f71f4b4e341d0bf8d7f03c2295612b11c81ee62acdb1881c320f844e"), looks := true }, kinds := [], alts := [], laidByText := true, laidKinds := [.data, .data, .data, .data, .handle, .sentinel, .sentinel, .pinned], laidTests := true, laidLooks := .later }
def ModelNamesCardSaid : Prop := Claim7.holds Tryz.pinned (.plain (OpenSpec.ofChange modelNamesSpec)) modelNamesCard

/-- THE SECOND FORM's CARD OF 'tidewaiterlaw31.ModelNames'. -/
def modelNamesUptoCard : Claim7 := { stood := { row := modelNamesUptoRow, standIns := [], harness := (true, "40c01591f71f4b4e341d0bf8d7f03c2295612b11c81ee62acdb1881c320f844e"), looks := true }, kinds := [], alts := [], laidByText := true, laidKinds := [.data, .data, .data, .data, .handle, .sentinel, .sentinel, .pinned], laidTests := true, laidLooks := .later }
def ModelNamesUptoCardSaid : Prop := Claim7.holds Tryz.pinned (.plain (OpenSpec.upto modelNamesSpec)) modelNamesUptoCard
end Rows
end Go.Proofs.YtphifhbgigaeoaaGreatDoor
