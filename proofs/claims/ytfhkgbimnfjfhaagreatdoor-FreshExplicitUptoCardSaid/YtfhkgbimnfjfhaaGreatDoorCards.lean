/-
  DERIVED. GIVEN WITH THE SEED: THE CARDS: each row of YtfhkgbimnfjfhaaGreatDoorRows.lean that lists a variable, with what it lists TIED to the program's text (the seventh form; the later family's looks); each row that meets fmt, with fmt's text TOLD by the authors' own Lean function (tested against real Go, not proved from fmt's source: count such statements apart). THE CARD IS WHAT COUNTS. Prove the row's statement (the work); the ties are given (YtfhkgbimnfjfhaaGreatDoorTie.lean); close each card by the builder's one call (the guide's Derived/Test/ToyasCard.lean, 'card_holds'). Laid BY PROGRAM, IN A SANDBOX (cutbox-door.mjs). By AI agents, Wed Nov 11 2026. No macro, syntax, notation, axiom, sorry.
-/
import Derived.Test.YtfhkgbimnfjfhaaGreatDoorRows
import GoSem.ClaimSeven
namespace Go.Proofs.YtfhkgbimnfjfhaaGreatDoor
namespace Rows

/-- THE TIED CARD OF 'conduitlaw16.FreshTimes'. -/
def freshTimesCard : Claim7 := { stood := { row := freshTimesRow, standIns := [], harness := (true, "acea0694b2d2bee5ec79f317b94c8427610d0b88db5f6deb5dde4b85713afe3f"), looks := true }, kinds := [], alts := [], laidByText := true, laidKinds := [.data, .data, .data, .data, .sentinel, .sentinel, .pinned], laidTests := true, laidLooks := .later }
def FreshTimesCardSaid : Prop := Claim7.holds Tryz.pinned (.plain (OpenSpec.ofChange freshTimesSpec)) freshTimesCard

/-- THE TIED CARD OF 'conduitlaw16.FreshJudges'. -/
def freshJudgesCard : Claim7 := { stood := { row := freshJudgesRow, standIns := [], harness := (true, "acea0694b2d2bee5ec79f317b94c8427610d0b88db5f6deb5dde4b85713afe3f"), looks := true }, kinds := [], alts := [], laidByText := true, laidKinds := [.data, .data, .data, .data, .sentinel, .sentinel, .pinned], laidTests := true, laidLooks := .later }
def FreshJudgesCardSaid : Prop := Claim7.holds Tryz.pinned (.plain (OpenSpec.ofChange freshJudgesSpec)) freshJudgesCard

/-- THE TIED CARD OF 'conduitlaw16.FreshAges'. -/
def freshAgesCard : Claim7 := { stood := { row := freshAgesRow, standIns := [], harness := (true, "acea0694b2d2bee5ec79f317b94c8427610d0b88db5f6deb5dde4b85713afe3f"), looks := true }, kinds := [], alts := [], laidByText := true, laidKinds := [.data, .data, .data, .data, .sentinel, .sentinel, .pinned], laidTests := true, laidLooks := .later }
def FreshAgesCardSaid : Prop := Claim7.holds Tryz.pinned (.plain (OpenSpec.ofChange freshAgesSpec)) freshAgesCard

/-- THE TIED CARD OF 'conduitlaw16.FreshOnce'. -/
def freshOnceCard : Claim7 := { stood := { row := freshOnceRow, standIns := [], harness := (true, "acea0694b2d2bee5ec79f317b94c8427610d0b88db5f6deb5dde4b85713afe3f"), looks := true }, kinds := [], alts := [], laidByText := true, laidKinds := [.data, .data, .data, .data, .sentinel, .sentinel, .pinned], laidTests := true, laidLooks := .later }
def FreshOnceCardSaid : Prop := Claim7.holds Tryz.pinned (.plain (OpenSpec.ofChange freshOnceSpec)) freshOnceCard

/-- THE TIED CARD OF 'conduitlaw16.FreshServed'. -/
def freshServedCard : Claim7 := { stood := { row := freshServedRow, standIns := [], harness := (true, "acea0694b2d2bee5ec79f317b94c8427610d0b88db5f6deb5dde4b85713afe3f"), looks := true }, kinds := [], alts := [], laidByText := true, laidKinds := [.data, .data, .data, .data, .sentinel, .sentinel, .pinned], laidTests := true, laidLooks := .later }
def FreshServedCardSaid : Prop := Claim7.holds Tryz.pinned (.plain (OpenSpec.ofChange freshServedSpec)) freshServedCard

/-- THE TIED CARD OF 'conduitlaw16.FreshExplicit'. -/
def freshExplicitCard : Claim7 := { stood := { row := freshExplicitRow, standIns := [], harness := (true, "acea0694b2d2bee5ec79f317b94c8427610d0b88db5f6deb5dde4b85713afe3f"), looks := true }, kinds := [], alts := [], laidByText := true, laidKinds := [.data, .data, .data, .data, .sentinel, .sentinel, .pinned], laidTests := true, laidLooks := .later }
def FreshExplicitCardSaid : Prop := Claim7.holds Tryz.pinned (.plain (OpenSpec.ofChange freshExplicitSpec)) freshExplicitCard

/-- THE SECOND FORM's CARD OF 'conduitlaw16.FreshTimes'. -/
def freshTimesUptoCard : Claim7 := { stood := { row := freshTimesUptoRow, standIns := [], harness := (true, "acea0694b2d2bee5ec79f317b94c8427610d0b88db5f6deb5dde4b85713afe3f"), looks := true }, kinds := [], alts := [], laidByText := true, laidKinds := [.data, .data, .data, .data, .sentinel, .sentinel, .pinned], laidTests := true, laidLooks := .later }
def FreshTimesUptoCardSaid : Prop := Claim7.holds Tryz.pinned (.plain (OpenSpec.upto freshTimesSpec)) freshTimesUptoCard

/-- THE SECOND FORM's CARD OF 'conduitlaw16.FreshJudges'. -/
def freshJudgesUptoCard : Claim7 := { stood := { row := freshJudgesUptoRow, standIns := [], harness := (true, "acea0694b2d2bee5ec79f317b94c8427610d0b88db5f6deb5dde4b85713afe3f"), looks := true }, kinds := [], alts := [], laidByText := true, laidKinds := [.data, .data, .data, .data, .sentinel, .sentinel, .pinned], laidTests := true, laidLooks := .later }
def FreshJudgesUptoCardSaid : Prop := Claim7.holds Tryz.pinned (.plain (OpenSpec.upto freshJudgesSpec)) freshJudgesUptoCard

/-- THE SECOND FORM's CARD OF 'conduitlaw16.FreshAges'. -/
def freshAgesUptoCard : Claim7 := { stood := { row := freshAgesUptoRow, standIns := [], harness := (true, "acea0694b2d2bee5ec79f317b94c8427610d0b88db5f6deb5dde4b85713afe3f"), looks := true }, kinds := [], alts := [], laidByText := true, laidKinds := [.data, .data, .data, .data, .sentinel, .sentinel, .pinned], laidTests := true, laidLooks := .later }
def FreshAgesUptoCardSaid : Prop := Claim7.holds Tryz.pinned (.plain (OpenSpec.upto freshAgesSpec)) freshAgesUptoCard

/-- THE SECOND FORM's CARD OF 'conduitlaw16.FreshOnce'. -/
def freshOnceUptoCard : Claim7 := { stood := { row := freshOnceUptoRow, standIns := [], harness := (true, "acea0694b2d2bee5ec79f317b94c8427610d0b88db5f6deb5dde4b85713afe3f"), looks := true }, kinds := [], alts := [], laidByText := true, laidKinds := [.data, .data, .data, .data, .sentinel, .sentinel, .pinned], laidTests := true, laidLooks := .later }
def FreshOnceUptoCardSaid : Prop := Claim7.holds Tryz.pinned (.plain (OpenSpec.upto freshOnceSpec)) freshOnceUptoCard

/-- THE SECOND FORM's CARD OF 'conduitlaw16.FreshServed'. -/
def freshServedUptoCard : Claim7 := { stood := { row := freshServedUptoRow, standIns := [], harness := (true, "acea0694b2d2bee5ec79f317b94c8427610d0b88db5f6deb5dde4b85713afe3f"), looks := true }, kinds := [], alts := [], laidByText := true, laidKinds := [.data, .data, .data, .data, .sentinel, .sentinel, .pinned], laidTests := true, laidLooks := .later }
def FreshServedUptoCardSaid : Prop := Claim7.holds Tryz.pinned (.plain (OpenSpec.upto freshServedSpec)) freshServedUptoCard

/-- THE SECOND FORM's CARD OF 'conduitlaw16.FreshExplicit'. -/
def freshExplicitUptoCard : Claim7 := { stood := { row := freshExplicitUptoRow, standIns := [], harness := (true, "acea0694b2d2bee5ec79f317b94c8427610d0b88db5f6deb5dde4b85713afe3f"), looks := true }, kinds := [], alts := [], laidByText := true, laidKinds := [.data, .data, .data, .data, .sentinel, .sentinel, .pinned], laidTests := true, laidLooks := .later }
def FreshExplicitUptoCardSaid : Prop := Claim7.holds Tryz.pinned (.plain (OpenSpec.upto freshExplicitSpec)) freshExplicitUptoCard
end Rows
end Go.Proofs.YtfhkgbimnfjfhaaGreatDoor
