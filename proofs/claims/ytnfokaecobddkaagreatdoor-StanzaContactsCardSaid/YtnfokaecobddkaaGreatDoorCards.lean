/-
  DERIVED. GIVEN WITH THE SEED: THE CARDS: each row of YtnfokaecobddkaaGreatDoorRows.lean that lists a variable, with what it lists TIED to the program's text (the seventh form; the later family's looks); each row that meets fmt, with fmt's text TOLD by the authors' own Lean function (tested against real Go, not proved from fmt's source: count such statements apart). THE CARD IS WHAT COUNTS. Prove the row's statement (the work); the ties are given (YtnfokaecobddkaaGreatDoorTie.lean); close each card by the builder's one call (the guide's Derived/Test/ToyasCard.lean, 'card_holds'). Laid BY PROGRAM, IN A SANDBOX (cutbox-door.mjs). By AI agents, Wed Nov 11 2026. No macro, syntax, notation, axiom, sorry.
-/
import Derived.Test.YtnfokaecobddkaaGreatDoorRows
import GoSem.ClaimSeven
namespace Go.Proofs.YtnfokaecobddkaaGreatDoor
namespace Rows

/-- THE TIED CARD OF 'tidewaiterlaw22.StanzaFails'. -/
def stanzaFailsCard : Claim7 := { stood := { row := stanzaFailsRow, standIns := [], harness := (true, "abfa91dde2a6f935aa99e589864e0708bd7b244e11d42d0d05ae914af1c71258"), looks := true }, kinds := [], alts := [], laidByText := true, laidKinds := [.data, .data, .data, .data, .handle, .sentinel, .sentinel, .pinned], laidTests := true, laidLooks := .later }
def StanzaFailsCardSaid : Prop := Claim7.holds Tryz.pinned (.plain (OpenSpec.ofChange stanzaFailsSpec)) stanzaFailsCard

/-- THE TIED CARD OF 'tidewaiterlaw22.StanzaBack'. -/
def stanzaBackCard : Claim7 := { stood := { row := stanzaBackRow, standIns := [], harness := (true, "abfa91dde2a6f935aa99e589864e0708bd7b244e11d42d0d05ae914af1c71258"), looks := true }, kinds := [], alts := [], laidByText := true, laidKinds := [.data, .data, .data, .data, .handle, .sentinel, .sentinel, .pinned], laidTests := true, laidLooks := .later }
def StanzaBackCardSaid : Prop := Claim7.holds Tryz.pinned (.plain (OpenSpec.ofChange stanzaBackSpec)) stanzaBackCard

/-- THE TIED CARD OF 'tidewaiterlaw22.StanzaContacts'. -/
def stanzaContactsCard : Claim7 := { stood := { row := stanzaContactsRow, standIns := [], harness := (true, "abfa91dde2a6f935aa99e589864e0708bd7b244e11d42d0d05ae914af1c71258"), looks := true }, kinds := [], alts := [], laidByText := true, laidKinds := [.data, .data, .data, .data, .handle, .sentinel, .sentinel, .pinned], laidTests := true, laidLooks := .later }
def StanzaContactsCardSaid : Prop := Claim7.holds Tryz.pinned (.plain (OpenSpec.ofChange stanzaContactsSpec)) stanzaContactsCard

/-- THE TIED CARD OF 'tidewaiterlaw22.StanzaNames'. -/
def stanzaNamesCard : Claim7 := { stood := { row := stanzaNamesRow, standIns := [], harness := (true, "abfa91dde2a6f935aa99e589864e0708bd7b244e11d42d0d05ae914af1c71258"), looks := true }, kinds := [], alts := [], laidByText := true, laidKinds := [.data, .data, .data, .data, .handle, .sentinel, .sentinel, .pinned], laidTests := true, laidLooks := .later }
def StanzaNamesCardSaid : Prop := Claim7.holds Tryz.pinned (.plain (OpenSpec.ofChange stanzaNamesSpec)) stanzaNamesCard

/-- THE SECOND FORM's CARD OF 'tidewaiterlaw22.StanzaFails'. -/
def stanzaFailsUptoCard : Claim7 := { stood := { row := stanzaFailsUptoRow, standIns := [], harness := (true, "abfa91dde2a6f935aa99e589864e0708bd7b244e11d42d0d05ae914af1c71258"), looks := true }, kinds := [], alts := [], laidByText := true, laidKinds := [.data, .data, .data, .data, .handle, .sentinel, .sentinel, .pinned], laidTests := true, laidLooks := .later }
def StanzaFailsUptoCardSaid : Prop := Claim7.holds Tryz.pinned (.plain (OpenSpec.upto stanzaFailsSpec)) stanzaFailsUptoCard

/-- THE SECOND FORM's CARD OF 'tidewaiterlaw22.StanzaBack'. -/
def stanzaBackUptoCard : Claim7 := { stood := { row := stanzaBackUptoRow, standIns := [], harness := (true, "abfa91dde2a6f935aa99e589864e0708bd7b244e11d42d0d05ae914af1c71258"), looks := true }, kinds := [], alts := [], laidByText := true, laidKinds := [.data, .data, .data, .data, .handle, .sentinel, .sentinel, .pinned], laidTests := true, laidLooks := .later }
def StanzaBackUptoCardSaid : Prop := Claim7.holds Tryz.pinned (.plain (OpenSpec.upto stanzaBackSpec)) stanzaBackUptoCard

/-- THE SECOND FORM's CARD OF 'tidewaiterlaw22.StanzaContacts'. -/
def stanzaContactsUptoCard : Claim7 := { stood := { row := stanzaContactsUptoRow, standIns := [], harness := (true, "abfa91dde2a6f935aa99e589864e0708bd7b244e11d42d0d05ae914af1c71258"), looks := true }, kinds := [], alts := [], laidByText := true, laidKinds := [.data, .data, .data, .data, .handle, .sentinel, .sentinel, .pinned], laidTests := true, laidLooks := .later }
def StanzaContactsUptoCardSaid : Prop := Claim7.holds Tryz.pinned (.plain (OpenSpec.upto stanzaContactsSpec)) stanzaContactsUptoCard

/-- THE SECOND FORM's CARD OF 'tidewaiterlaw22.StanzaNames'. -/
def stanzaNamesUptoCard : Claim7 := { stood := { row := stanzaNamesUptoRow, standIns := [], harness := (true, "abfa91dde2a6f935aa99e589864e0708bd7b244e11d42d0d05ae914af1c71258"), looks := true }, kinds := [], alts := [], laidByText := true, laidKinds := [.data, .data, .data, .data, .handle, .sentinel, .sentinel, .pinned], laidTests := true, laidLooks := .later }
def StanzaNamesUptoCardSaid : Prop := Claim7.holds Tryz.pinned (.plain (OpenSpec.upto stanzaNamesSpec)) stanzaNamesUptoCard
end Rows
end Go.Proofs.YtnfokaecobddkaaGreatDoor
