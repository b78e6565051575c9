/-
  DERIVED. GIVEN WITH THE SEED: THE CARDS: each row of YtnmnpnofdgdigaaGreatDoorRows.lean that lists a variable, with what it lists TIED to the program's text (the seventh form; the later family's looks); each row that meets fmt, with fmt's text TOLD by the authors' own Lean function (tested against real Go, not proved from fmt's source: count such statements apart). THE CARD IS WHAT COUNTS. Prove the row's statement (the work); the ties are given (YtnmnpnofdgdigaaGreatDoorTie.lean); close each card by the builder's one call (the guide's Derived/Test/ToyasCard.lean, 'card_holds'). Laid BY PROGRAM, IN A SANDBOX (cutbox-door.mjs). By AI agents, Wed Nov 11 2026. No macro, syntax, notation, axiom, sorry.
-/
import Derived.Test.YtnmnpnofdgdigaaGreatDoorRows
import GoSem.ClaimSeven
namespace Go.Proofs.YtnmnpnofdgdigaaGreatDoor
namespace Rows

/-- THE TIED CARD OF 'tidewaiterlaw22.StanzaReads'. -/
def stanzaReadsCard : Claim7 := { stood := { row := stanzaReadsRow, standIns := [], harness := (true, "89ded513e3b69e433ca6889fb9ec701f12fd24858b342dc03a31828d4c60f8aa"), looks := false }, kinds := [], alts := [], laidByText := true, laidKinds := [.data, .pinned], laidTests := true, laidLooks := .later }
def StanzaReadsCardSaid : Prop := Claim7.holds Tryz.pinned (.plain (OpenSpec.ofChange stanzaReadsSpec)) stanzaReadsCard

/-- THE TIED CARD OF 'tidewaiterlaw22.StanzaTells'. -/
def stanzaTellsCard : Claim7 := { stood := { row := stanzaTellsRow, standIns := [], harness := (true, "89ded513e3b69e433ca6889fb9ec701f12fd24858b342dc03a31828d4c60f8aa"), looks := false }, kinds := [], alts := [], laidByText := true, laidKinds := [.data, .pinned], laidTests := true, laidLooks := .later }
def StanzaTellsCardSaid : Prop := Claim7.holds Tryz.pinned (.plain (OpenSpec.ofChange stanzaTellsSpec)) stanzaTellsCard

/-- THE TIED CARD OF 'tidewaiterlaw22.StanzaRosters'. -/
def stanzaRostersCard : Claim7 := { stood := { row := stanzaRostersRow, standIns := [], harness := (true, "89ded513e3b69e433ca6889fb9ec701f12fd24858b342dc03a31828d4c60f8aa"), looks := false }, kinds := [], alts := [], laidByText := true, laidKinds := [.data, .data, .data, .data, .pinned], laidTests := true, laidLooks := .later }
def StanzaRostersCardSaid : Prop := Claim7.holds Tryz.pinned (.plain (OpenSpec.ofChange stanzaRostersSpec)) stanzaRostersCard

/-- THE SECOND FORM's CARD OF 'tidewaiterlaw22.StanzaReads'. -/
def stanzaReadsUptoCard : Claim7 := { stood := { row := stanzaReadsUptoRow, standIns := [], harness := (true, "89ded513e3b69e433ca6889fb9ec701f12fd24858b342dc03a31828d4c60f8aa"), looks := false }, kinds := [], alts := [], laidByText := true, laidKinds := [.data, .pinned], laidTests := true, laidLooks := .later }
def StanzaReadsUptoCardSaid : Prop := Claim7.holds Tryz.pinned (.plain (OpenSpec.upto stanzaReadsSpec)) stanzaReadsUptoCard

/-- THE SECOND FORM's CARD OF 'tidewaiterlaw22.StanzaTells'. -/
def stanzaTellsUptoCard : Claim7 := { stood := { row := stanzaTellsUptoRow, standIns := [], harness := (true, "89ded513e3b69e433ca6889fb9ec701f12fd24858b342dc03a31828d4c60f8aa"), looks := false }, kinds := [], alts := [], laidByText := true, laidKinds := [.data, .pinned], laidTests := true, laidLooks := .later }
def StanzaTellsUptoCardSaid : Prop := Claim7.holds Tryz.pinned (.plain (OpenSpec.upto stanzaTellsSpec)) stanzaTellsUptoCard

/-- THE SECOND FORM's CARD OF 'tidewaiterlaw22.StanzaRosters'. -/
def stanzaRostersUptoCard : Claim7 := { stood := { row := stanzaRostersUptoRow, standIns := [], harness := (true, "89ded513e3b69e433ca6889fb9ec701f12fd24858b342dc03a31828d4c60f8aa"), looks := false }, kinds := [], alts := [], laidByText := true, laidKinds := [.data, .data, .data, .data, .pinned], laidTests := true, laidLooks := .later }
def StanzaRostersUptoCardSaid : Prop := Claim7.holds Tryz.pinned (.plain (OpenSpec.upto stanzaRostersSpec)) stanzaRostersUptoCard
end Rows
end Go.Proofs.YtnmnpnofdgdigaaGreatDoor
