/-
  DERIVED. GIVEN WITH THE SEED: THE CARDS: each row of YtocgnjkikgcjdaaDoorRows.lean that lists a variable, with what it lists TIED to the program's text (the seventh form; the later family's looks); each row that meets fmt, with fmt's text TOLD by the authors' own Lean function (tested against real Go, not proved from fmt's source: count such statements apart). THE CARD IS WHAT COUNTS. Prove the row's statement (the work); the ties are given (YtocgnjkikgcjdaaDoorTie.lean); close each card by the builder's one call (the guide's Derived/Test/ToyasCard.lean, 'card_holds'). Laid BY PROGRAM, IN A SANDBOX (cutbox-door.mjs). By AI agents, Wed Nov 11 2026. No macro, syntax, notation, axiom, sorry.
-/
import Derived.Test.YtocgnjkikgcjdaaDoorRows
import GoSem.ClaimSeven
namespace Go.Proofs.YtocgnjkikgcjdaaDoor
namespace Rows

/-- THE TIED CARD OF 'conduitlaw06.FrameLasts'. -/
def frameLastsCard : Claim7 := { stood := { row := frameLastsRow, standIns := [], harness := (true, "9124994994bf9853b697fb7ccf3cf11d475bc30837a73b33d6bd1274023426a9"), looks := true }, kinds := [], alts := [], laidByText := true, laidKinds := [.data, .pinned], laidTests := true, laidLooks := .later }
def FrameLastsCardSaid : Prop := Claim7.holds Tryd.pinned (.plain (OpenSpec.ofChange frameLastsSpec)) frameLastsCard

/-- THE TIED CARD OF 'conduitlaw06.FrameRequests'. -/
def frameRequestsCard : Claim7 := { stood := { row := frameRequestsRow, standIns := [], harness := (true, "9124994994bf9853b697fb7ccf3cf11d475bc30837a73b33d6bd1274023426a9"), looks := true }, kinds := [], alts := [], laidByText := true, laidKinds := [.data, .data, .data, .data, .sentinel, .sentinel, .pinned], laidTests := true, laidLooks := .later }
def FrameRequestsCardSaid : Prop := Claim7.holds Tryd.pinned (.plain (OpenSpec.ofChange frameRequestsSpec)) frameRequestsCard

/-- THE TIED CARD OF 'conduitlaw06.FrameStrict'. -/
def frameStrictCard : Claim7 := { stood := { row := frameStrictRow, standIns := [], harness := (true, "9124994994bf9853b697fb7ccf3cf11d475bc30837a73b33d6bd1274023426a9"), looks := true }, kinds := [], alts := [], laidByText := true, laidKinds := [.data, .data, .data, .data, .sentinel, .sentinel, .pinned], laidTests := true, laidLooks := .later }
def FrameStrictCardSaid : Prop := Claim7.holds Tryd.pinned (.plain (OpenSpec.ofChange frameStrictSpec)) frameStrictCard

/-- THE TIED CARD OF 'conduitlaw06.FrameOthers'. -/
def frameOthersCard : Claim7 := { stood := { row := frameOthersRow, standIns := [], harness := (true, "9124994994bf9853b697fb7ccf3cf11d475bc30837a73b33d6bd1274023426a9"), looks := true }, kinds := [], alts := [], laidByText := true, laidKinds := [.data, .data, .data, .data, .sentinel, .sentinel, .pinned], laidTests := true, laidLooks := .later }
def FrameOthersCardSaid : Prop := Claim7.holds Tryd.pinned (.plain (OpenSpec.ofChange frameOthersSpec)) frameOthersCard

/-- THE TIED CARD OF 'conduitlaw06.FrameResponses'. -/
def frameResponsesCard : Claim7 := { stood := { row := frameResponsesRow, standIns := [], harness := (true, "9124994994bf9853b697fb7ccf3cf11d475bc30837a73b33d6bd1274023426a9"), looks := true }, kinds := [], alts := [], laidByText := true, laidKinds := [.data, .data, .data, .data, .sentinel, .sentinel, .pinned], laidTests := true, laidLooks := .later }
def FrameResponsesCardSaid : Prop := Claim7.holds Tryd.pinned (.plain (OpenSpec.ofChange frameResponsesSpec)) frameResponsesCard

/-- THE TIED CARD OF 'conduitlaw06.FrameSame'. -/
def frameSameCard : Claim7 := { stood := { row := frameSameRow, standIns := [], harness := (true, "9124994994bf9853b697fb7ccf3cf11d475bc30837a73b33d6bd1274023426a9"), looks := true }, kinds := [], alts := [], laidByText := true, laidKinds := [.data, .data, .data, .data, .sentinel, .sentinel, .pinned], laidTests := true, laidLooks := .later }
def FrameSameCardSaid : Prop := Claim7.holds Tryd.pinned (.plain (OpenSpec.ofChange frameSameSpec)) frameSameCard

/-- THE SECOND FORM's CARD OF 'conduitlaw06.FrameLasts'. -/
def frameLastsUptoCard : Claim7 := { stood := { row := frameLastsUptoRow, standIns := [], harness := (true, "9124994994bf9853b697fb7ccf3cf11d475bc30837a73b33d6bd1274023426a9"), looks := true }, kinds := [], alts := [], laidByText := true, laidKinds := [.data, .pinned], laidTests := true, laidLooks := .later }
def FrameLastsUptoCardSaid : Prop := Claim7.holds Tryd.pinned (.plain (OpenSpec.upto frameLastsSpec)) frameLastsUptoCard

/-- THE SECOND FORM's CARD OF 'conduitlaw06.FrameRequests'. -/
def frameRequestsUptoCard : Claim7 := { stood := { row := frameRequestsUptoRow, standIns := [], harness := (true, "9124994994bf9853b697fb7ccf3cf11d475bc30837a73b33d6bd1274023426a9"), looks := true }, kinds := [], alts := [], laidByText := true, laidKinds := [.data, .data, .data, .data, .sentinel, .sentinel, .pinned], laidTests := true, laidLooks := .later }
def FrameRequestsUptoCardSaid : Prop := Claim7.holds Tryd.pinned (.plain (OpenSpec.upto frameRequestsSpec)) frameRequestsUptoCard

/-- THE SECOND FORM's CARD OF 'conduitlaw06.FrameStrict'. -/
def frameStrictUptoCard : Claim7 := { stood := { row := frameStrictUptoRow, standIns := [], harness := (true, "9124994994bf9853b697fb7ccf3cf11d475bc30837a73b33d6bd1274023426a9"), looks := true }, kinds := [], alts := [], laidByText := true, laidKinds := [.data, .data, .data, .data, .sentinel, .sentinel, .pinned], laidTests := true, laidLooks := .later }
def FrameStrictUptoCardSaid : Prop := Claim7.holds Tryd.pinned (.plain (OpenSpec.upto frameStrictSpec)) frameStrictUptoCard

/-- THE SECOND FORM's CARD OF 'conduitlaw06.FrameOthers'. -/
def frameOthersUptoCard : Claim7 := { stood := { row := frameOthersUptoRow, standIns := [], harness := (true, "9124994994bf9853b697fb7ccf3cf11d475bc30837a73b33d6bd1274023426a9"), looks := true }, kinds := [], alts := [], laidByText := true, laidKinds := [.data, .data, .data, .data, .sentinel, .sentinel, .pinned], laidTests := true, laidLooks := .later }
def FrameOthersUptoCardSaid : Prop := Claim7.holds Tryd.pinned (.plain (OpenSpec.upto frameOthersSpec)) frameOthersUptoCard

/-- THE SECOND FORM's CARD OF 'conduitlaw06.FrameResponses'. -/
def frameResponsesUptoCard : Claim7 := { stood := { row := frameResponsesUptoRow, standIns := [], harness := (true, "9124994994bf9853b697fb7ccf3cf11d475bc30837a73b33d6bd1274023426a9"), looks := true }, kinds := [], alts := [], laidByText := true, laidKinds := [.data, .data, .data, .data, .sentinel, .sentinel, .pinned], laidTests := true, laidLooks := .later }
def FrameResponsesUptoCardSaid : Prop := Claim7.holds Tryd.pinned (.plain (OpenSpec.upto frameResponsesSpec)) frameResponsesUptoCard

/-- THE SECOND FORM's CARD OF 'conduitlaw06.FrameSame'. -/
def frameSameUptoCard : Claim7 := { stood := { row := frameSameUptoRow, standIns := [], harness := (true, "9124994994bf9853b697fb7ccf3cf11d475bc30837a73b33d6bd1274023426a9"), looks := true }, kinds := [], alts := [], laidByText := true, laidKinds := [.data, .data, .data, .data, .sentinel, .sentinel, .pinned], laidTests := true, laidLooks := .later }
def FrameSameUptoCardSaid : Prop := Claim7.holds Tryd.pinned (.plain (OpenSpec.upto frameSameSpec)) frameSameUptoCard
end Rows
end Go.Proofs.YtocgnjkikgcjdaaDoor
