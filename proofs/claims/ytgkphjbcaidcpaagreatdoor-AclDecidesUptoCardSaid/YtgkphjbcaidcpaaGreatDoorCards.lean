/-
  DERIVED. GIVEN WITH THE SEED: THE CARDS: each row of YtgkphjbcaidcpaaGreatDoorRows.lean that lists a variable, with what it lists TIED to the program's text (the seventh form; the later family's looks); each row that meets fmt, with fmt's text TOLD by the authors' own Lean function (tested against real Go, not proved from fmt's source: count such statements apart). THE CARD IS WHAT COUNTS. Prove the row's statement (the work); the ties are given (YtgkphjbcaidcpaaGreatDoorTie.lean); close each card by the builder's one call (the guide's Derived/Test/ToyasCard.lean, 'card_holds'). Laid BY PROGRAM, IN A SANDBOX (cutbox-door.mjs). By AI agents, Wed Nov 11 2026. No macro, syntax, notation, axiom, sorry.
-/
import Derived.Test.YtgkphjbcaidcpaaGreatDoorRows
import GoSem.ClaimSeven
namespace Go.Proofs.YtgkphjbcaidcpaaGreatDoor
namespace Rows

/-- THE TIED CARD OF 'conduitlaw21.AclDecides'. -/
def aclDecidesCard : Claim7 := { stood := { row := aclDecidesRow, standIns := [], harness := (true, "0f329a0b8d64b7a996442aa5738eba13c344d3cd83ef3a24e88739ddbc242fcf"), looks := true }, kinds := [], alts := [], laidByText := true, laidKinds := [.data, .data, .data, .data, .sentinel, .sentinel, .pinned], laidTests := true, laidLooks := .later }
def AclDecidesCardSaid : Prop := Claim7.holds Tryz.pinned (.plain (OpenSpec.ofChange aclDecidesSpec)) aclDecidesCard

/-- THE TIED CARD OF 'conduitlaw21.AclDefault'. -/
def aclDefaultCard : Claim7 := { stood := { row := aclDefaultRow, standIns := [], harness := (true, "0f329a0b8d64b7a996442aa5738eba13c344d3cd83ef3a24e88739ddbc242fcf"), looks := true }, kinds := [], alts := [], laidByText := true, laidKinds := [.data, .data, .data, .data, .sentinel, .sentinel, .pinned], laidTests := true, laidLooks := .later }
def AclDefaultCardSaid : Prop := Claim7.holds Tryz.pinned (.plain (OpenSpec.ofChange aclDefaultSpec)) aclDefaultCard

/-- THE TIED CARD OF 'conduitlaw21.AclNot'. -/
def aclNotCard : Claim7 := { stood := { row := aclNotRow, standIns := [], harness := (true, "0f329a0b8d64b7a996442aa5738eba13c344d3cd83ef3a24e88739ddbc242fcf"), looks := true }, kinds := [], alts := [], laidByText := true, laidKinds := [.data, .data, .data, .data, .sentinel, .sentinel, .pinned], laidTests := true, laidLooks := .later }
def AclNotCardSaid : Prop := Claim7.holds Tryz.pinned (.plain (OpenSpec.ofChange aclNotSpec)) aclNotCard

/-- THE TIED CARD OF 'conduitlaw21.AclHosts'. -/
def aclHostsCard : Claim7 := { stood := { row := aclHostsRow, standIns := [], harness := (true, "0f329a0b8d64b7a996442aa5738eba13c344d3cd83ef3a24e88739ddbc242fcf"), looks := true }, kinds := [], alts := [], laidByText := true, laidKinds := [.data, .data, .data, .data, .sentinel, .sentinel, .pinned], laidTests := true, laidLooks := .later }
def AclHostsCardSaid : Prop := Claim7.holds Tryz.pinned (.plain (OpenSpec.ofChange aclHostsSpec)) aclHostsCard

/-- THE SECOND FORM's CARD OF 'conduitlaw21.AclDecides'. -/
def aclDecidesUptoCard : Claim7 := { stood := { row := aclDecidesUptoRow, standIns := [], harness := (true, "0f329a0b8d64b7a996442aa5738eba13c344d3cd83ef3a24e88739ddbc242fcf"), looks := true }, kinds := [], alts := [], laidByText := true, laidKinds := [.data, .data, .data, .data, .sentinel, .sentinel, .pinned], laidTests := true, laidLooks := .later }
def AclDecidesUptoCardSaid : Prop := Claim7.holds Tryz.pinned (.plain (OpenSpec.upto aclDecidesSpec)) aclDecidesUptoCard

/-- THE SECOND FORM's CARD OF 'conduitlaw21.AclDefault'. -/
def aclDefaultUptoCard : Claim7 := { stood := { row := aclDefaultUptoRow, standIns := [], harness := (true, "0f329a0b8d64b7a996442aa5738eba13c344d3cd83ef3a24e88739ddbc242fcf"), looks := true }, kinds := [], alts := [], laidByText := true, laidKinds := [.data, .data, .data, .data, .sentinel, .sentinel, .pinned], laidTests := true, laidLooks := .later }
def AclDefaultUptoCardSaid : Prop := Claim7.holds Tryz.pinned (.plain (OpenSpec.upto aclDefaultSpec)) aclDefaultUptoCard

/-- THE SECOND FORM's CARD OF 'conduitlaw21.AclNot'. -/
def aclNotUptoCard : Claim7 := { stood := { row := aclNotUptoRow, standIns := [], harness := (true, "0f329a0b8d64b7a996442aa5738eba13c344d3cd83ef3a24e88739ddbc242fcf"), looks := true }, kinds := [], alts := [], laidByText := true, laidKinds := [.data, .data, .data, .data, .sentinel, .sentinel, .pinned], laidTests := true, laidLooks := .later }
def AclNotUptoCardSaid : Prop := Claim7.holds Tryz.pinned (.plain (OpenSpec.upto aclNotSpec)) aclNotUptoCard

/-- THE SECOND FORM's CARD OF 'conduitlaw21.AclHosts'. -/
def aclHostsUptoCard : Claim7 := { stood := { row := aclHostsUptoRow, standIns := [], harness := (true, "0f329a0b8d64b7a996442aa5738eba13c344d3cd83ef3a24e88739ddbc242fcf"), looks := true }, kinds := [], alts := [], laidByText := true, laidKinds := [.data, .data, .data, .data, .sentinel, .sentinel, .pinned], laidTests := true, laidLooks := .later }
def AclHostsUptoCardSaid : Prop := Claim7.holds Tryz.pinned (.plain (OpenSpec.upto aclHostsSpec)) aclHostsUptoCard
end Rows
end Go.Proofs.YtgkphjbcaidcpaaGreatDoor
