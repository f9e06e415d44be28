/-
  DERIVED. GIVEN WITH THE SEED: THE CARDS: each row of YtbigcdmkfcmegaaGreatDoorRows.lean that lists a variable, with what it lists TIED to the program's text (the seventh form; the later family's looks); each row that meets fmt, with fmt's text TOLD by the authors' own Lean function (tested against real Go, not proved from fmt's source: count such statements apart). THE CARD IS WHAT COUNTS. Prove the row's statement (the work); the ties are given (YtbigcdmkfcmegaaGreatDoorTie.lean); close each card by the builder's one call (the guide's Derived/Test/ToyasCard.lean, 'card_holds'). Laid BY PROGRAM, IN A SANDBOX (cutbox-door.mjs). By AI agents, Wed Nov 11 2026. No macro, syntax, notation, axiom, sorry.
-/
import Derived.Test.YtbigcdmkfcmegaaGreatDoorRows
import GoSem.ClaimSeven
namespace Go.Proofs.YtbigcdmkfcmegaaGreatDoor
namespace Rows

/-- THE TIED CARD OF 'conduitlaw18.ValidAsks'. -/
def validAsksCard : Claim7 := { stood := { row := validAsksRow, standIns := [], harness := (true, "2a94c9bc91f8ec9603927d6dcdad1942dba9d3d3e311b6b7109f6f211a3ba264"), looks := true }, kinds := [], alts := [], laidByText := true, laidKinds := [.data, .data, .data, .sentinel, .sentinel], laidTests := true, laidLooks := .later }
def ValidAsksCardSaid : Prop := Claim7.holds Tryz.pinned (.plain (OpenSpec.ofChange validAsksSpec)) validAsksCard

/-- THE TIED CARD OF 'conduitlaw18.ValidMemory'. -/
def validMemoryCard : Claim7 := { stood := { row := validMemoryRow, standIns := [], harness := (true, "2a94c9bc91f8ec9603927d6dcdad1942dba9d3d3e311b6b7109f6f211a3ba264"), looks := true }, kinds := [], alts := [], laidByText := true, laidKinds := [.data, .data, .data, .sentinel, .sentinel], laidTests := true, laidLooks := .later }
def ValidMemoryCardSaid : Prop := Claim7.holds Tryz.pinned (.plain (OpenSpec.ofChange validMemorySpec)) validMemoryCard

/-- THE TIED CARD OF 'conduitlaw18.ValidUnchanged'. -/
def validUnchangedCard : Claim7 := { stood := { row := validUnchangedRow, standIns := [], harness := (true, "2a94c9bc91f8ec9603927d6dcdad1942dba9d3d3e311b6b7109f6f211a3ba264"), looks := true }, kinds := [], alts := [], laidByText := true, laidKinds := [.data, .data, .data, .data, .sentinel, .sentinel, .pinned], laidTests := true, laidLooks := .later }
def ValidUnchangedCardSaid : Prop := Claim7.holds Tryz.pinned (.plain (OpenSpec.ofChange validUnchangedSpec)) validUnchangedCard

/-- THE TIED CARD OF 'conduitlaw18.ValidKnown'. -/
def validKnownCard : Claim7 := { stood := { row := validKnownRow, standIns := [], harness := (true, "2a94c9bc91f8ec9603927d6dcdad1942dba9d3d3e311b6b7109f6f211a3ba264"), looks := true }, kinds := [], alts := [], laidByText := true, laidKinds := [.data, .data, .data, .data, .sentinel, .sentinel, .pinned], laidTests := true, laidLooks := .later }
def ValidKnownCardSaid : Prop := Claim7.holds Tryz.pinned (.plain (OpenSpec.ofChange validKnownSpec)) validKnownCard

/-- THE SECOND FORM's CARD OF 'conduitlaw18.ValidAsks'. -/
def validAsksUptoCard : Claim7 := { stood := { row := validAsksUptoRow, standIns := [], harness := (true, "2a94c9bc91f8ec9603927d6dcdad1942dba9d3d3e311b6b7109f6f211a3ba264"), looks := true }, kinds := [], alts := [], laidByText := true, laidKinds := [.data, .data, .data, .sentinel, .sentinel], laidTests := true, laidLooks := .later }
def ValidAsksUptoCardSaid : Prop := Claim7.holds Tryz.pinned (.plain (OpenSpec.upto validAsksSpec)) validAsksUptoCard

/-- THE SECOND FORM's CARD OF 'conduitlaw18.ValidMemory'. -/
def validMemoryUptoCard : Claim7 := { stood := { row := validMemoryUptoRow, standIns := [], harness := (true, "2a94c9bc91f8ec9603927d6dcdad1942dba9d3d3e311b6b7109f6f211a3ba264"), looks := true }, kinds := [], alts := [], laidByText := true, laidKinds := [.data, .data, .data, .sentinel, .sentinel], laidTests := true, laidLooks := .later }
def ValidMemoryUptoCardSaid : Prop := Claim7.holds Tryz.pinned (.plain (OpenSpec.upto validMemorySpec)) validMemoryUptoCard

/-- THE SECOND FORM's CARD OF 'conduitlaw18.ValidUnchanged'. -/
def validUnchangedUptoCard : Claim7 := { stood := { row := validUnchangedUptoRow, standIns := [], harness := (true, "2a94c9bc91f8ec9603927d6dcdad1942dba9d3d3e311b6b7109f6f211a3ba264"), looks := true }, kinds := [], alts := [], laidByText := true, laidKinds := [.data, .data, .data, .data, .sentinel, .sentinel, .pinned], laidTests := true, laidLooks := .later }
def ValidUnchangedUptoCardSaid : Prop := Claim7.holds Tryz.pinned (.plain (OpenSpec.upto validUnchangedSpec)) validUnchangedUptoCard

/-- THE SECOND FORM's CARD OF 'conduitlaw18.ValidKnown'. -/
def validKnownUptoCard : Claim7 := { stood := { row := validKnownUptoRow, standIns := [], harness := (true, "2a94c9bc91f8ec9603927d6dcdad1942dba9d3d3e311b6b7109f6f211a3ba264"), looks := true }, kinds := [], alts := [], laidByText := true, laidKinds := [.data, .data, .data, .data, .sentinel, .sentinel, .pinned], laidTests := true, laidLooks := .later }
def ValidKnownUptoCardSaid : Prop := Claim7.holds Tryz.pinned (.plain (OpenSpec.upto validKnownSpec)) validKnownUptoCard
end Rows
end Go.Proofs.YtbigcdmkfcmegaaGreatDoor
