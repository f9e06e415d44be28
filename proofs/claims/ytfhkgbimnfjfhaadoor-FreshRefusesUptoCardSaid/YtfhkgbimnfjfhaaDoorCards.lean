/-
  DERIVED. GIVEN WITH THE SEED: THE CARDS: each row of YtfhkgbimnfjfhaaDoorRows.lean that lists a variable, with what it lists TIED to the program's text (the seventh form; the later family's looks); each row that meets fmt, with fmt's text TOLD by the authors' own Lean function (tested against real Go, not proved from fmt's source: count such statements apart). THE CARD IS WHAT COUNTS. Prove the row's statement (the work); the ties are given (YtfhkgbimnfjfhaaDoorTie.lean); close each card by the builder's one call (the guide's Derived/Test/ToyasCard.lean, 'card_holds'). Laid BY PROGRAM, IN A SANDBOX (cutbox-door.mjs). By AI agents, Wed Nov 11 2026. No macro, syntax, notation, axiom, sorry.
-/
import Derived.Test.YtfhkgbimnfjfhaaDoorRows
import GoSem.ClaimSeven
namespace Go.Proofs.YtfhkgbimnfjfhaaDoor
namespace Rows

/-- THE TIED CARD OF 'conduitlaw16.FreshStorables'. -/
def freshStorablesCard : Claim7 := { stood := { row := freshStorablesRow, standIns := [], harness := (true, "70af3f4233294688aa75a305b26997ad96a059d08b67e7586fc2a690fc53b01f"), looks := false }, kinds := [], alts := [], laidByText := true, laidKinds := [.data, .pinned], laidTests := true, laidLooks := .later }
def FreshStorablesCardSaid : Prop := Claim7.holds Tryd.pinned (.plain (OpenSpec.ofChange freshStorablesSpec)) freshStorablesCard

/-- THE TIED CARD OF 'conduitlaw16.FreshRefuses'. -/
def freshRefusesCard : Claim7 := { stood := { row := freshRefusesRow, standIns := [], harness := (true, "70af3f4233294688aa75a305b26997ad96a059d08b67e7586fc2a690fc53b01f"), looks := false }, kinds := [], alts := [], laidByText := true, laidKinds := [.data, .pinned], laidTests := true, laidLooks := .later }
def FreshRefusesCardSaid : Prop := Claim7.holds Tryd.pinned (.plain (OpenSpec.ofChange freshRefusesSpec)) freshRefusesCard

/-- THE SECOND FORM's CARD OF 'conduitlaw16.FreshStorables'. -/
def freshStorablesUptoCard : Claim7 := { stood := { row := freshStorablesUptoRow, standIns := [], harness := (true, "70af3f4233294688aa75a305b26997ad96a059d08b67e7586fc2a690fc53b01f"), looks := false }, kinds := [], alts := [], laidByText := true, laidKinds := [.data, .pinned], laidTests := true, laidLooks := .later }
def FreshStorablesUptoCardSaid : Prop := Claim7.holds Tryd.pinned (.plain (OpenSpec.upto freshStorablesSpec)) freshStorablesUptoCard

/-- THE SECOND FORM's CARD OF 'conduitlaw16.FreshRefuses'. -/
def freshRefusesUptoCard : Claim7 := { stood := { row := freshRefusesUptoRow, standIns := [], harness := (true, "70af3f4233294688aa75a305b26997ad96a059d08b67e7586fc2a690fc53b01f"), looks := false }, kinds := [], alts := [], laidByText := true, laidKinds := [.data, .pinned], laidTests := true, laidLooks := .later }
def FreshRefusesUptoCardSaid : Prop := Claim7.holds Tryd.pinned (.plain (OpenSpec.upto freshRefusesSpec)) freshRefusesUptoCard
end Rows
end Go.Proofs.YtfhkgbimnfjfhaaDoor
