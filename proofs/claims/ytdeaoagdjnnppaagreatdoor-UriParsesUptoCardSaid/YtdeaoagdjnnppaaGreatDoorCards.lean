/-
  DERIVED. GIVEN WITH THE SEED: THE CARDS: each row of YtdeaoagdjnnppaaGreatDoorRows.lean that lists a variable, with what it lists TIED to the program's text (the seventh form; the later family's looks); each row that meets fmt, with fmt's text TOLD by the authors' own Lean function (tested against real Go, not proved from fmt's source: count such statements apart). THE CARD IS WHAT COUNTS. Prove the row's statement (the work); the ties are given (YtdeaoagdjnnppaaGreatDoorTie.lean); close each card by the builder's one call (the guide's Derived/Test/ToyasCard.lean, 'card_holds'). Laid BY PROGRAM, IN A SANDBOX (cutbox-door.mjs). By AI agents, Wed Nov 11 2026. No macro, syntax, notation, axiom, sorry.
-/
import Derived.Test.YtdeaoagdjnnppaaGreatDoorRows
import GoSem.ClaimSeven
namespace Go.Proofs.YtdeaoagdjnnppaaGreatDoor
namespace Rows

/-- THE TIED CARD OF 'conduitlaw03.UriParses'. -/
def uriParsesCard : Claim7 := { stood := { row := uriParsesRow, standIns := [], harness := (true, "d6c84cf1f729f3e58d1f605800288e5126284c3766b4e68094d883dc1eccf7ec"), looks := true }, kinds := [], alts := [], laidByText := true, laidKinds := [.data, .data, .data, .data, .sentinel, .sentinel, .pinned, .pinned], laidTests := true, laidLooks := .later }
def UriParsesCardSaid : Prop := Claim7.holds Tryz.pinned (.plain (OpenSpec.ofChange uriParsesSpec)) uriParsesCard

/-- THE TIED CARD OF 'conduitlaw03.UriRound'. -/
def uriRoundCard : Claim7 := { stood := { row := uriRoundRow, standIns := [], harness := (true, "d6c84cf1f729f3e58d1f605800288e5126284c3766b4e68094d883dc1eccf7ec"), looks := true }, kinds := [], alts := [], laidByText := true, laidKinds := [.data, .data, .data, .data, .sentinel, .sentinel, .pinned, .pinned], laidTests := true, laidLooks := .later }
def UriRoundCardSaid : Prop := Claim7.holds Tryz.pinned (.plain (OpenSpec.ofChange uriRoundSpec)) uriRoundCard

/-- THE SECOND FORM's CARD OF 'conduitlaw03.UriParses'. -/
def uriParsesUptoCard : Claim7 := { stood := { row := uriParsesUptoRow, standIns := [], harness := (true, "d6c84cf1f729f3e58d1f605800288e5126284c3766b4e68094d883dc1eccf7ec"), looks := true }, kinds := [], alts := [], laidByText := true, laidKinds := [.data, .data, .data, .data, .sentinel, .sentinel, .pinned, .pinned], laidTests := true, laidLooks := .later }
def UriParsesUptoCardSaid : Prop := Claim7.holds Tryz.pinned (.plain (OpenSpec.upto uriParsesSpec)) uriParsesUptoCard

/-- THE SECOND FORM's CARD OF 'conduitlaw03.UriRound'. -/
def uriRoundUptoCard : Claim7 := { stood := { row := uriRoundUptoRow, standIns := [], harness := (true, "d6c84cf1f729f3e58d1f605800288e5126284c3766b4e68094d883dc1eccf7ec"), looks := true }, kinds := [], alts := [], laidByText := true, laidKinds := [.data, .data, .data, .data, .sentinel, .sentinel, .pinned, .pinned], laidTests := true, laidLooks := .later }
def UriRoundUptoCardSaid : Prop := Claim7.holds Tryz.pinned (.plain (OpenSpec.upto uriRoundSpec)) uriRoundUptoCard
end Rows
end Go.Proofs.YtdeaoagdjnnppaaGreatDoor
