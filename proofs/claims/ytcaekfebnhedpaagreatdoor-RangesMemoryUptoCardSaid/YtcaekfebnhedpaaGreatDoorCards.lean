/-
  DERIVED. GIVEN WITH THE SEED: THE CARDS: each row of YtcaekfebnhedpaaGreatDoorRows.lean that lists a variable, with what it lists TIED to the program's text (the seventh form; the later family's looks); each row that meets fmt, with fmt's text TOLD by the authors' own Lean function (tested against real Go, not proved from fmt's source: count such statements apart). THE CARD IS WHAT COUNTS. Prove the row's statement (the work); the ties are given (YtcaekfebnhedpaaGreatDoorTie.lean); close each card by the builder's one call (the guide's Derived/Test/ToyasCard.lean, 'card_holds'). Laid BY PROGRAM, IN A SANDBOX (cutbox-door.mjs). By AI agents, Wed Nov 11 2026. No macro, syntax, notation, axiom, sorry.
-/
import Derived.Test.YtcaekfebnhedpaaGreatDoorRows
import GoSem.ClaimSeven
namespace Go.Proofs.YtcaekfebnhedpaaGreatDoor
namespace Rows

/-- THE TIED CARD OF 'conduitlaw19.RangesParses'. -/
def rangesParsesCard : Claim7 := { stood := { row := rangesParsesRow, standIns := [], harness := (true, "0b026833fe8f7f3410f50463b6c9112f9143420da14f562babf88bf25ed48a1e"), looks := true }, kinds := [], alts := [], laidByText := true, laidKinds := [.data, .data, .data, .data, .sentinel, .sentinel, .sentinel, .pinned], laidTests := true, laidLooks := .later }
def RangesParsesCardSaid : Prop := Claim7.holds Tryz.pinned (.plain (OpenSpec.ofChange rangesParsesSpec)) rangesParsesCard

/-- THE TIED CARD OF 'conduitlaw19.RangesApplies'. -/
def rangesAppliesCard : Claim7 := { stood := { row := rangesAppliesRow, standIns := [], harness := (true, "0b026833fe8f7f3410f50463b6c9112f9143420da14f562babf88bf25ed48a1e"), looks := true }, kinds := [], alts := [], laidByText := true, laidKinds := [.data, .data, .data, .data, .sentinel, .sentinel, .sentinel, .pinned], laidTests := true, laidLooks := .later }
def RangesAppliesCardSaid : Prop := Claim7.holds Tryz.pinned (.plain (OpenSpec.ofChange rangesAppliesSpec)) rangesAppliesCard

/-- THE TIED CARD OF 'conduitlaw19.RangesWithin'. -/
def rangesWithinCard : Claim7 := { stood := { row := rangesWithinRow, standIns := [], harness := (true, "0b026833fe8f7f3410f50463b6c9112f9143420da14f562babf88bf25ed48a1e"), looks := true }, kinds := [], alts := [], laidByText := true, laidKinds := [.data, .data, .data, .data, .sentinel, .sentinel, .sentinel, .pinned], laidTests := true, laidLooks := .later }
def RangesWithinCardSaid : Prop := Claim7.holds Tryz.pinned (.plain (OpenSpec.ofChange rangesWithinSpec)) rangesWithinCard

/-- THE TIED CARD OF 'conduitlaw19.RangesSingle'. -/
def rangesSingleCard : Claim7 := { stood := { row := rangesSingleRow, standIns := [], harness := (true, "0b026833fe8f7f3410f50463b6c9112f9143420da14f562babf88bf25ed48a1e"), looks := true }, kinds := [], alts := [], laidByText := true, laidKinds := [.data, .data, .data, .data, .sentinel, .sentinel, .sentinel, .pinned], laidTests := true, laidLooks := .later }
def RangesSingleCardSaid : Prop := Claim7.holds Tryz.pinned (.plain (OpenSpec.ofChange rangesSingleSpec)) rangesSingleCard

/-- THE TIED CARD OF 'conduitlaw19.RangesPieces'. -/
def rangesPiecesCard : Claim7 := { stood := { row := rangesPiecesRow, standIns := [], harness := (true, "0b026833fe8f7f3410f50463b6c9112f9143420da14f562babf88bf25ed48a1e"), looks := true }, kinds := [], alts := [], laidByText := true, laidKinds := [.data, .data, .data, .data, .sentinel, .sentinel, .sentinel, .pinned], laidTests := true, laidLooks := .later }
def RangesPiecesCardSaid : Prop := Claim7.holds Tryz.pinned (.plain (OpenSpec.ofChange rangesPiecesSpec)) rangesPiecesCard

/-- THE TIED CARD OF 'conduitlaw19.RangesWhole'. -/
def rangesWholeCard : Claim7 := { stood := { row := rangesWholeRow, standIns := [], harness := (true, "0b026833fe8f7f3410f50463b6c9112f9143420da14f562babf88bf25ed48a1e"), looks := true }, kinds := [], alts := [], laidByText := true, laidKinds := [.data, .data, .data, .data, .sentinel, .sentinel, .sentinel, .pinned], laidTests := true, laidLooks := .later }
def RangesWholeCardSaid : Prop := Claim7.holds Tryz.pinned (.plain (OpenSpec.ofChange rangesWholeSpec)) rangesWholeCard

/-- THE TIED CARD OF 'conduitlaw19.RangesMemory'. -/
def rangesMemoryCard : Claim7 := { stood := { row := rangesMemoryRow, standIns := [], harness := (true, "0b026833fe8f7f3410f50463b6c9112f9143420da14f562babf88bf25ed48a1e"), looks := true }, kinds := [], alts := [], laidByText := true, laidKinds := [.data, .data, .data, .data, .sentinel, .sentinel, .sentinel, .pinned], laidTests := true, laidLooks := .later }
def RangesMemoryCardSaid : Prop := Claim7.holds Tryz.pinned (.plain (OpenSpec.ofChange rangesMemorySpec)) rangesMemoryCard

/-- THE SECOND FORM's CARD OF 'conduitlaw19.RangesParses'. -/
def rangesParsesUptoCard : Claim7 := { stood := { row := rangesParsesUptoRow, standIns := [], harness := (true, "0b026833fe8f7f3410f50463b6c9112f9143420da14f562babf88bf25ed48a1e"), looks := true }, kinds := [], alts := [], laidByText := true, laidKinds := [.data, .data, .data, .data, .sentinel, .sentinel, .sentinel, .pinned], laidTests := true, laidLooks := .later }
def RangesParsesUptoCardSaid : Prop := Claim7.holds Tryz.pinned (.plain (OpenSpec.upto rangesParsesSpec)) rangesParsesUptoCard

/-- THE SECOND FORM's CARD OF 'conduitlaw19.RangesApplies'. -/
def rangesAppliesUptoCard : Claim7 := { stood := { row := rangesAppliesUptoRow, standIns := [], harness := (true, "0b026833fe8f7f3410f50463b6c9112f9143420da14f562babf88bf25ed48a1e"), looks := true }, kinds := [], alts := [], laidByText := true, laidKinds := [.data, .data, .data, .data, .sentinel, .sentinel, .sentinel, .pinned], laidTests := true, laidLooks := .later }
def RangesAppliesUptoCardSaid : Prop := Claim7.holds Tryz.pinned (.plain (OpenSpec.upto rangesAppliesSpec)) rangesAppliesUptoCard

/-- THE SECOND FORM's CARD OF 'conduitlaw19.RangesWithin'. -/
def rangesWithinUptoCard : Claim7 := { stood := { row := rangesWithinUptoRow, standIns := [], harness := (true, "0b026833fe8f7f3410f50463b6c9112f9143420da14f562babf88bf25ed48a1e"), looks := true }, kinds := [], alts := [], laidByText := true, laidKinds := [.data, .data, .data, .data, .sentinel, .sentinel, .sentinel, .pinned], laidTests := true, laidLooks := .later }
def RangesWithinUptoCardSaid : Prop := Claim7.holds Tryz.pinned (.plain (OpenSpec.upto rangesWithinSpec)) rangesWithinUptoCard

/-- THE SECOND FORM's CARD OF 'conduitlaw19.RangesSingle'. -/
def rangesSingleUptoCard : Claim7 := { stood := { row := rangesSingleUptoRow, standIns := [], harness := (true, "0b026833fe8f7f3410f50463b6c9112f9143420da14f562babf88bf25ed48a1e"), looks := true }, kinds := [], alts := [], laidByText := true, laidKinds := [.data, .data, .data, .data, .sentinel, .sentinel, .sentinel, .pinned], laidTests := true, laidLooks := .later }
def RangesSingleUptoCardSaid : Prop := Claim7.holds Tryz.pinned (.plain (OpenSpec.upto rangesSingleSpec)) rangesSingleUptoCard

/-- THE SECOND FORM's CARD OF 'conduitlaw19.RangesPieces'. -/
def rangesPiecesUptoCard : Claim7 := { stood := { row := rangesPiecesUptoRow, standIns := [], harness := (true, "0b026833fe8f7f3410f50463b6c9112f9143420da14f562babf88bf25ed48a1e"), looks := true }, kinds := [], alts := [], laidByText := true, laidKinds := [.data, .data, .data, .data, .sentinel, .sentinel, .sentinel, .pinned], laidTests := true, laidLooks := .later }
def RangesPiecesUptoCardSaid : Prop := Claim7.holds Tryz.pinned (.plain (OpenSpec.upto rangesPiecesSpec)) rangesPiecesUptoCard

/-- THE SECOND FORM's CARD OF 'conduitlaw19.RangesWhole'. -/
def rangesWholeUptoCard : Claim7 := { stood := { row := rangesWholeUptoRow, standIns := [], harness := (true, "0b026833fe8f7f3410f50463b6c9112f9143420da14f562babf88bf25ed48a1e"), looks := true }, kinds := [], alts := [], laidByText := true, laidKinds := [.data, .data, .data, .data, .sentinel, .sentinel, .sentinel, .pinned], laidTests := true, laidLooks := .later }
def RangesWholeUptoCardSaid : Prop := Claim7.holds Tryz.pinned (.plain (OpenSpec.upto rangesWholeSpec)) rangesWholeUptoCard

/-- THE SECOND FORM's CARD OF 'conduitlaw19.RangesMemory'. -/
def rangesMemoryUptoCard : Claim7 := { stood := { row := rangesMemoryUptoRow, standIns := [], harness := (true, "0b026833fe8f7f3410f50463b6c9112f9143420da14f562babf88bf25ed48a1e"), looks := true }, kinds := [], alts := [], laidByText := true, laidKinds := [.data, .data, .data, .data, .sentinel, .sentinel, .sentinel, .pinned], laidTests := true, laidLooks := .later }
def RangesMemoryUptoCardSaid : Prop := Claim7.holds Tryz.pinned (.plain (OpenSpec.upto rangesMemorySpec)) rangesMemoryUptoCard
end Rows
end Go.Proofs.YtcaekfebnhedpaaGreatDoor
