/-
  DERIVED. GIVEN WITH THE SEED: THE CARDS: each row of YtdeaoagdjnnppaaDoorRows.lean that lists a variable, with what it lists TIED to the program's text (the seventh form; the later family's looks); each row that meets fmt, with fmt's text TOLD by the authors' own Lean function (tested against real Go, not proved from fmt's source: count such statements apart). THE CARD IS WHAT COUNTS. Prove the row's statement (the work); the ties are given (YtdeaoagdjnnppaaDoorTie.lean); close each card by the builder's one call (the guide's Derived/Test/ToyasCard.lean, 'card_holds'). Laid BY PROGRAM, IN A SANDBOX (cutbox-door.mjs). By AI agents, Wed Nov 11 2026. No macro, syntax, notation, axiom, sorry.
-/
import Derived.Test.YtdeaoagdjnnppaaDoorRows
import GoSem.ClaimSeven
namespace Go.Proofs.YtdeaoagdjnnppaaDoor
namespace Rows

/-- THE TIED CARD OF 'conduitlaw03.UriShows'. -/
def uriShowsCard : Claim7 := { stood := { row := uriShowsRow, standIns := [], harness := (true, "60addc2941ea506e885bcacb01565aec4f140c29a69ae7500fcf0e7f8a4d3897"), looks := true }, kinds := [], alts := [], laidByText := true, laidKinds := [.data, .data, .data], laidTests := true, laidLooks := .later }
def UriShowsCardSaid : Prop := Claim7.holds Tryd.pinned (.plain (OpenSpec.ofChange uriShowsSpec)) uriShowsCard

/-- THE TIED CARD OF 'conduitlaw03.UriAuthorities'. -/
def uriAuthoritiesCard : Claim7 := { stood := { row := uriAuthoritiesRow, standIns := [], harness := (true, "60addc2941ea506e885bcacb01565aec4f140c29a69ae7500fcf0e7f8a4d3897"), looks := true }, kinds := [], alts := [], laidByText := true, laidKinds := [.data, .data, .data, .data, .sentinel, .sentinel, .pinned], laidTests := true, laidLooks := .later }
def UriAuthoritiesCardSaid : Prop := Claim7.holds Tryd.pinned (.plain (OpenSpec.ofChange uriAuthoritiesSpec)) uriAuthoritiesCard

/-- THE TIED CARD OF 'conduitlaw03.UriPlain'. -/
def uriPlainCard : Claim7 := { stood := { row := uriPlainRow, standIns := [], harness := (true, "60addc2941ea506e885bcacb01565aec4f140c29a69ae7500fcf0e7f8a4d3897"), looks := true }, kinds := [], alts := [], laidByText := true, laidKinds := [.data, .data, .data, .data, .sentinel, .sentinel, .pinned, .pinned], laidTests := true, laidLooks := .later }
def UriPlainCardSaid : Prop := Claim7.holds Tryd.pinned (.plain (OpenSpec.ofChange uriPlainSpec)) uriPlainCard

/-- THE TIED CARD OF 'conduitlaw03.UriSame'. -/
def uriSameCard : Claim7 := { stood := { row := uriSameRow, standIns := [], harness := (true, "60addc2941ea506e885bcacb01565aec4f140c29a69ae7500fcf0e7f8a4d3897"), looks := true }, kinds := [], alts := [], laidByText := true, laidKinds := [.data, .data, .data, .data, .sentinel, .sentinel, .pinned, .pinned], laidTests := true, laidLooks := .later }
def UriSameCardSaid : Prop := Claim7.holds Tryd.pinned (.plain (OpenSpec.ofChange uriSameSpec)) uriSameCard

/-- THE TIED CARD OF 'conduitlaw03.UriCodes'. -/
def uriCodesCard : Claim7 := { stood := { row := uriCodesRow, standIns := [], harness := (true, "60addc2941ea506e885bcacb01565aec4f140c29a69ae7500fcf0e7f8a4d3897"), looks := true }, kinds := [], alts := [], laidByText := true, laidKinds := [.data, .data, .data, .data, .sentinel, .sentinel, .pinned, .pinned], laidTests := true, laidLooks := .later }
def UriCodesCardSaid : Prop := Claim7.holds Tryd.pinned (.plain (OpenSpec.ofChange uriCodesSpec)) uriCodesCard

/-- THE SECOND FORM's CARD OF 'conduitlaw03.UriShows'. -/
def uriShowsUptoCard : Claim7 := { stood := { row := uriShowsUptoRow, standIns := [], harness := (true, "60addc2941ea506e885bcacb01565aec4f140c29a69ae7500fcf0e7f8a4d3897"), looks := true }, kinds := [], alts := [], laidByText := true, laidKinds := [.data, .data, .data], laidTests := true, laidLooks := .later }
def UriShowsUptoCardSaid : Prop := Claim7.holds Tryd.pinned (.plain (OpenSpec.upto uriShowsSpec)) uriShowsUptoCard

/-- THE SECOND FORM's CARD OF 'conduitlaw03.UriAuthorities'. -/
def uriAuthoritiesUptoCard : Claim7 := { stood := { row := uriAuthoritiesUptoRow, standIns := [], harness := (true, "60addc2941ea506e885bcacb01565aec4f140c29a69ae7500fcf0e7f8a4d3897"), looks := true }, kinds := [], alts := [], laidByText := true, laidKinds := [.data, .data, .data, .data, .sentinel, .sentinel, .pinned], laidTests := true, laidLooks := .later }
def UriAuthoritiesUptoCardSaid : Prop := Claim7.holds Tryd.pinned (.plain (OpenSpec.upto uriAuthoritiesSpec)) uriAuthoritiesUptoCard

/-- THE SECOND FORM's CARD OF 'conduitlaw03.UriPlain'. -/
def uriPlainUptoCard : Claim7 := { stood := { row := uriPlainUptoRow, standIns := [], harness := (true, "60addc2941ea506e885bcacb01565aec4f140c29a69ae7500fcf0e7f8a4d3897"), looks := true }, kinds := [], alts := [], laidByText := true, laidKinds := [.data, .data, .data, .data, .sentinel, .sentinel, .pinned, .pinned], laidTests := true, laidLooks := .later }
def UriPlainUptoCardSaid : Prop := Claim7.holds Tryd.pinned (.plain (OpenSpec.upto uriPlainSpec)) uriPlainUptoCard

/-- THE SECOND FORM's CARD OF 'conduitlaw03.UriSame'. -/
def uriSameUptoCard : Claim7 := { stood := { row := uriSameUptoRow, standIns := [], harness := (true, "60addc2941ea506e885bcacb01565aec4f140c29a69ae7500fcf0e7f8a4d3897"), looks := true }, kinds := [], alts := [], laidByText := true, laidKinds := [.data, .data, .data, .data, .sentinel, .sentinel, .pinned, .pinned], laidTests := true, laidLooks := .later }
def UriSameUptoCardSaid : Prop := Claim7.holds Tryd.pinned (.plain (OpenSpec.upto uriSameSpec)) uriSameUptoCard

/-- THE SECOND FORM's CARD OF 'conduitlaw03.UriCodes'. -/
def uriCodesUptoCard : Claim7 := { stood := { row := uriCodesUptoRow, standIns := [], harness := (true, "60addc2941ea506e885bcacb01565aec4f140c29a69ae7500fcf0e7f8a4d3897"), looks := true }, kinds := [], alts := [], laidByText := true, laidKinds := [.data, .data, .data, .data, .sentinel, .sentinel, .pinned, .pinned], laidTests := true, laidLooks := .later }
def UriCodesUptoCardSaid : Prop := Claim7.holds Tryd.pinned (.plain (OpenSpec.upto uriCodesSpec)) uriCodesUptoCard
end Rows
end Go.Proofs.YtdeaoagdjnnppaaDoor
