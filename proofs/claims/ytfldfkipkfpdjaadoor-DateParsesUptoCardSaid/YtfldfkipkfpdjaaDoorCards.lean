/-
  DERIVED. GIVEN WITH THE SEED: THE CARDS: each row of YtfldfkipkfpdjaaDoorRows.lean that lists a variable, with what it lists TIED to the program's text (the seventh form; the later family's looks); each row that meets fmt, with fmt's text TOLD by the authors' own Lean function (tested against real Go, not proved from fmt's source: count such statements apart). THE CARD IS WHAT COUNTS. Prove the row's statement (the work); the ties are given (YtfldfkipkfpdjaaDoorTie.lean); close each card by the builder's one call (the guide's Derived/Test/ToyasCard.lean, 'card_holds'). Laid BY PROGRAM, IN A SANDBOX (cutbox-door.mjs). By AI agents, Wed Nov 11 2026. No macro, syntax, notation, axiom, sorry.
-/
import Derived.Test.YtfldfkipkfpdjaaDoorRows
import GoSem.ClaimSeven
namespace Go.Proofs.YtfldfkipkfpdjaaDoor
namespace Rows

/-- THE TIED CARD OF 'conduitlaw02.DateShows'. -/
def dateShowsCard : Claim7 := { stood := { row := dateShowsRow, standIns := [], harness := (true, "e9384e4142ef04f3b18970e6ac5e7eced67bd9ef14ed97e49d2681df2bbae8a2"), looks := true }, kinds := [], alts := [], laidByText := true, laidKinds := [.data, .data, .data], laidTests := true, laidLooks := .later }
def DateShowsCardSaid : Prop := Claim7.holds Tryd.pinned (.plain (OpenSpec.ofChange dateShowsSpec)) dateShowsCard

/-- THE TIED CARD OF 'conduitlaw02.DateNext'. -/
def dateNextCard : Claim7 := { stood := { row := dateNextRow, standIns := [], harness := (true, "e9384e4142ef04f3b18970e6ac5e7eced67bd9ef14ed97e49d2681df2bbae8a2"), looks := true }, kinds := [], alts := [], laidByText := true, laidKinds := [.data, .data, .data], laidTests := true, laidLooks := .later }
def DateNextCardSaid : Prop := Claim7.holds Tryd.pinned (.plain (OpenSpec.ofChange dateNextSpec)) dateNextCard

/-- THE TIED CARD OF 'conduitlaw02.DateParses'. -/
def dateParsesCard : Claim7 := { stood := { row := dateParsesRow, standIns := [], harness := (true, "e9384e4142ef04f3b18970e6ac5e7eced67bd9ef14ed97e49d2681df2bbae8a2"), looks := true }, kinds := [], alts := [], laidByText := true, laidKinds := [.data, .data, .data, .sentinel, .sentinel], laidTests := true, laidLooks := .later }
def DateParsesCardSaid : Prop := Claim7.holds Tryd.pinned (.plain (OpenSpec.ofChange dateParsesSpec)) dateParsesCard

/-- THE TIED CARD OF 'conduitlaw02.DateForms'. -/
def dateFormsCard : Claim7 := { stood := { row := dateFormsRow, standIns := [], harness := (true, "e9384e4142ef04f3b18970e6ac5e7eced67bd9ef14ed97e49d2681df2bbae8a2"), looks := true }, kinds := [], alts := [], laidByText := true, laidKinds := [.data, .data, .data, .sentinel, .sentinel], laidTests := true, laidLooks := .later }
def DateFormsCardSaid : Prop := Claim7.holds Tryd.pinned (.plain (OpenSpec.ofChange dateFormsSpec)) dateFormsCard

/-- THE TIED CARD OF 'conduitlaw02.DateRound'. -/
def dateRoundCard : Claim7 := { stood := { row := dateRoundRow, standIns := [], harness := (true, "e9384e4142ef04f3b18970e6ac5e7eced67bd9ef14ed97e49d2681df2bbae8a2"), looks := true }, kinds := [], alts := [], laidByText := true, laidKinds := [.data, .data, .data, .sentinel, .sentinel], laidTests := true, laidLooks := .later }
def DateRoundCardSaid : Prop := Claim7.holds Tryd.pinned (.plain (OpenSpec.ofChange dateRoundSpec)) dateRoundCard

/-- THE SECOND FORM's CARD OF 'conduitlaw02.DateShows'. -/
def dateShowsUptoCard : Claim7 := { stood := { row := dateShowsUptoRow, standIns := [], harness := (true, "e9384e4142ef04f3b18970e6ac5e7eced67bd9ef14ed97e49d2681df2bbae8a2"), looks := true }, kinds := [], alts := [], laidByText := true, laidKinds := [.data, .data, .data], laidTests := true, laidLooks := .later }
def DateShowsUptoCardSaid : Prop := Claim7.holds Tryd.pinned (.plain (OpenSpec.upto dateShowsSpec)) dateShowsUptoCard

/-- THE SECOND FORM's CARD OF 'conduitlaw02.DateNext'. -/
def dateNextUptoCard : Claim7 := { stood := { row := dateNextUptoRow, standIns := [], harness := (true, "e9384e4142ef04f3b18970e6ac5e7eced67bd9ef14ed97e49d2681df2bbae8a2"), looks := true }, kinds := [], alts := [], laidByText := true, laidKinds := [.data, .data, .data], laidTests := true, laidLooks := .later }
def DateNextUptoCardSaid : Prop := Claim7.holds Tryd.pinned (.plain (OpenSpec.upto dateNextSpec)) dateNextUptoCard

/-- THE SECOND FORM's CARD OF 'conduitlaw02.DateParses'. -/
def dateParsesUptoCard : Claim7 := { stood := { row := dateParsesUptoRow, standIns := [], harness := (true, "e9384e4142ef04f3b18970e6ac5e7eced67bd9ef14ed97e49d2681df2bbae8a2"), looks := true }, kinds := [], alts := [], laidByText := true, laidKinds := [.data, .data, .data, .sentinel, .sentinel], laidTests := true, laidLooks := .later }
def DateParsesUptoCardSaid : Prop := Claim7.holds Tryd.pinned (.plain (OpenSpec.upto dateParsesSpec)) dateParsesUptoCard

/-- THE SECOND FORM's CARD OF 'conduitlaw02.DateForms'. -/
def dateFormsUptoCard : Claim7 := { stood := { row := dateFormsUptoRow, standIns := [], harness := (true, "e9384e4142ef04f3b18970e6ac5e7eced67bd9ef14ed97e49d2681df2bbae8a2"), looks := true }, kinds := [], alts := [], laidByText := true, laidKinds := [.data, .data, .data, .sentinel, .sentinel], laidTests := true, laidLooks := .later }
def DateFormsUptoCardSaid : Prop := Claim7.holds Tryd.pinned (.plain (OpenSpec.upto dateFormsSpec)) dateFormsUptoCard

/-- THE SECOND FORM's CARD OF 'conduitlaw02.DateRound'. -/
def dateRoundUptoCard : Claim7 := { stood := { row := dateRoundUptoRow, standIns := [], harness := (true, "e9384e4142ef04f3b18970e6ac5e7eced67bd9ef14ed97e49d2681df2bbae8a2"), looks := true }, kinds := [], alts := [], laidByText := true, laidKinds := [.data, .data, .data, .sentinel, .sentinel], laidTests := true, laidLooks := .later }
def DateRoundUptoCardSaid : Prop := Claim7.holds Tryd.pinned (.plain (OpenSpec.upto dateRoundSpec)) dateRoundUptoCard
end Rows
end Go.Proofs.YtfldfkipkfpdjaaDoor
