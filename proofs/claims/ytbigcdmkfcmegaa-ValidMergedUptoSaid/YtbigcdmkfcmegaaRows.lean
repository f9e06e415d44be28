/-
  No cell of these rows narrows 'for every input' (looked for: loops, veiled, ifaces, maps, wideKeys, modest, calm, conditions, laid).
  DERIVED. THE GIVEN ROWS OF THIS SEAT. 4 by the template 'for every input the law returns true; each argument reads behind the call as it read before'; 0 by the template 'total and deterministic' (their statements: YtbigcdmkfcmegaaTotals.lean).
  GIVEN WITH THE SEED: the statements are not yours to turn. If you find one false, say at which input.
  Laid BY PROGRAM, IN A SANDBOX (cutbox-rows.mjs): the forced cells as the released guide's own fill.sh prints them over the translation 530312dcf6535b55… (all of the seat's roots in one cut). By AI agents, Wed Nov 11 2026. No macro, syntax, notation, axiom, sorry.
-/
import Derived.Test.YtbigcdmkfcmegaaChecked
import GoSem.Claim
import GoSem.ClaimJoined
import GoSem.ClaimMapViews
import Derived.JoinedTies
import Derived.KernelRfl
namespace Go.Proofs.Ytbigcdmkfcmegaa
/- THE CELL 'sum', in the pinned program and in every row, IS THE sha256 OF THE DUMP (.gsa) THAT YtbigcdmkfcmegaaProg.lean LOADS. Nothing in Lean hashes anything: it is a label: what it is worth is what the hold of that sum in a sandbox is worth. -/
noncomputable def Try.pinned : Pinned := { name := "ytbigcdmkfcmegaa", sum := "530312dcf6535b55de43808c93f87783346e3cdee60afa72a54c0f28ff4afc8a", checked := Try.checked }
namespace Rows
def none {H : Type} : Left H := { results := [], args := [] }

/-- 'conduitlaw18.ValidTags': WHATEVER THE INPUT: true; the input reads as it did. -/
def validTagsSpec : ChangeSpec := { name := "validTags", fn := fun _ => fun
  | [d1, d2] => { results := [.lit (.bool true)], args := [d1, d2] }
  | _ => none }
def validTagsRow : OpenClaim := { program := "ytbigcdmkfcmegaa", sum := "530312dcf6535b55de43808c93f87783346e3cdee60afa72a54c0f28ff4afc8a", func := "conduit/conduitlaw18.ValidTags", spec := "validTags", unfollowed := true, recurses := true, apart := false }
def ValidTagsSaid : Prop := validTagsRow.holds Try.pinned (OpenSpec.ofChange validTagsSpec)

/-- ITS FALSE NEIGHBOUR: 'it returns false'. Refute it at one input. -/
def validTagsWrong : ChangeSpec := { name := "validTags", fn := fun _ => fun
  | [d1, d2] => { results := [.lit (.bool false)], args := [d1, d2] }
  | _ => none }
def ValidTagsWrongFalsely : Prop := validTagsRow.holds Try.pinned (OpenSpec.ofChange validTagsWrong)

/-- 'conduitlaw18.ValidMerges': WHATEVER THE INPUT: true; the input reads as it did. -/
def validMergesSpec : ChangeSpec := { name := "validMerges", fn := fun _ => fun
  | [d1, d2] => { results := [.lit (.bool true)], args := [d1, d2] }
  | _ => none }
def validMergesRow : OpenClaim := { program := "ytbigcdmkfcmegaa", sum := "530312dcf6535b55de43808c93f87783346e3cdee60afa72a54c0f28ff4afc8a", func := "conduit/conduitlaw18.ValidMerges", spec := "validMerges", unfollowed := true, recurses := true, apart := false }
def ValidMergesSaid : Prop := validMergesRow.holds Try.pinned (OpenSpec.ofChange validMergesSpec)

/-- ITS FALSE NEIGHBOUR: 'it returns false'. Refute it at one input. -/
def validMergesWrong : ChangeSpec := { name := "validMerges", fn := fun _ => fun
  | [d1, d2] => { results := [.lit (.bool false)], args := [d1, d2] }
  | _ => none }
def ValidMergesWrongFalsely : Prop := validMergesRow.holds Try.pinned (OpenSpec.ofChange validMergesWrong)

/-- 'conduitlaw18.ValidTurns': WHATEVER THE INPUT: true; the input reads as it did. -/
def validTurnsSpec : ChangeSpec := { name := "validTurns", fn := fun _ => fun
  | [d1, d2] => { results := [.lit (.bool true)], args := [d1, d2] }
  | _ => none }
def validTurnsRow : OpenClaim := { program := "ytbigcdmkfcmegaa", sum := "530312dcf6535b55de43808c93f87783346e3cdee60afa72a54c0f28ff4afc8a", func := "conduit/conduitlaw18.ValidTurns", spec := "validTurns", unfollowed := true, recurses := true, apart := false }
def ValidTurnsSaid : Prop := validTurnsRow.holds Try.pinned (OpenSpec.ofChange validTurnsSpec)

/-- ITS FALSE NEIGHBOUR: 'it returns false'. Refute it at one input. -/
def validTurnsWrong : ChangeSpec := { name := "validTurns", fn := fun _ => fun
  | [d1, d2] => { results := [.lit (.bool false)], args := [d1, d2] }
  | _ => none }
def ValidTurnsWrongFalsely : Prop := validTurnsRow.holds Try.pinned (OpenSpec.ofChange validTurnsWrong)

/-- 'conduitlaw18.ValidMerged': WHATEVER THE INPUT: true; the input reads as it did. -/
def validMergedSpec : ChangeSpec := { name := "validMerged", fn := fun _ => fun
  | [d1, d2, d3] => { results := [.lit (.bool true)], args := [d1, d2, d3] }
  | _ => none }
def validMergedRow : OpenClaim := { program := "ytbigcdmkfcmegaa", sum := "530312dcf6535b55de43808c93f87783346e3cdee60afa72a54c0f28ff4afc8a", func := "conduit/conduitlaw18.ValidMerged", spec := "validMerged", unfollowed := true, recurses := true, apart := false }
def ValidMergedSaid : Prop := validMergedRow.holds Try.pinned (OpenSpec.ofChange validMergedSpec)

/-- ITS FALSE NEIGHBOUR: 'it returns false'. Refute it at one input. -/
def validMergedWrong : ChangeSpec := { name := "validMerged", fn := fun _ => fun
  | [d1, d2, d3] => { results := [.lit (.bool false)], args := [d1, d2, d3] }
  | _ => none }
def ValidMergedWrongFalsely : Prop := validMergedRow.holds Try.pinned (OpenSpec.ofChange validMergedWrong)

/- THE SECOND FORM. 'bulk': how many values and letters a reading holds, each counted each time it is reached (what is shared counts as often as it is met; a slice's spare places count too). A statement '..UptoSaid' is the law's where the arguments, and the package variables that the reading takes, are together of bulk at most 1048576: NARROWER than '..Said'. Prove '..Said' where nothing that the law and all that it calls make is longer than what came in: it says more and counts as full. Else prove '..UptoSaid'. A law counts once. -/
mutual
def uptoBulk {H : Type} : DataW H → Nat
  | .lit (.string bytes) => bytes.length + 1
  | .lit _ => 1
  | .nil => 1
  | .ptr d => uptoBulk d + 1
  | .slice elems spare => uptoBulkAll elems + uptoBulkAll spare + 1
  | .agg parts => uptoBulkAll parts + 1
  | .iface _ d => uptoBulk d + 1
  | .map entries => uptoBulkEntries entries + 1
  | .held _ => 1
def uptoBulkAll {H : Type} : List (DataW H) → Nat
  | [] => 0
  | d :: r => uptoBulk d + uptoBulkAll r
def uptoBulkEntries {H : Type} : List (Lit × DataW H) → Nat
  | [] => 0
  | x :: r => uptoBulkEntry x + uptoBulkEntries r
def uptoBulkEntry {H : Type} : Lit × DataW H → Nat
  | (.string bytes, d) => bytes.length + uptoBulk d + 1
  | (_, d) => uptoBulk d + 1
 end
def uptoSmall : (H : Type) → List (DataW H) → Bool := fun _ ds => decide (uptoBulkAll ds ≤ 1048576)
def OpenSpec.upto (s : _root_.Go.ChangeSpec) : _root_.Go.OpenSpec := { _root_.Go.OpenSpec.ofChange s with cond := some uptoSmall }

/-- 'conduitlaw18.ValidTags', WHERE WHAT IT READS IS OF BULK AT MOST 1048576: true; the input reads as it did. -/
def validTagsUptoRow : OpenClaim := { program := "ytbigcdmkfcmegaa", sum := "530312dcf6535b55de43808c93f87783346e3cdee60afa72a54c0f28ff4afc8a", func := "conduit/conduitlaw18.ValidTags", spec := "validTags", unfollowed := true, recurses := true, apart := false, narrowed := true }
def ValidTagsUptoSaid : Prop := validTagsUptoRow.holds Try.pinned (OpenSpec.upto validTagsSpec)

/-- 'conduitlaw18.ValidMerges', WHERE WHAT IT READS IS OF BULK AT MOST 1048576: true; the input reads as it did. -/
def validMergesUptoRow : OpenClaim := { program := "ytbigcdmkfcmegaa", sum := "530312dcf6535b55de43808c93f87783346e3cdee60afa72a54c0f28ff4afc8a", func := "conduit/conduitlaw18.ValidMerges", spec := "validMerges", unfollowed := true, recurses := true, apart := false, narrowed := true }
def ValidMergesUptoSaid : Prop := validMergesUptoRow.holds Try.pinned (OpenSpec.upto validMergesSpec)

/-- 'conduitlaw18.ValidTurns', WHERE WHAT IT READS IS OF BULK AT MOST 1048576: true; the input reads as it did. -/
def validTurnsUptoRow : OpenClaim := { program := "ytbigcdmkfcmegaa", sum := "530312dcf6535b55de43808c93f87783346e3cdee60afa72a54c0f28ff4afc8a", func := "conduit/conduitlaw18.ValidTurns", spec := "validTurns", unfollowed := true, recurses := true, apart := false, narrowed := true }
def ValidTurnsUptoSaid : Prop := validTurnsUptoRow.holds Try.pinned (OpenSpec.upto validTurnsSpec)

/-- 'conduitlaw18.ValidMerged', WHERE WHAT IT READS IS OF BULK AT MOST 1048576: true; the input reads as it did. -/
def validMergedUptoRow : OpenClaim := { program := "ytbigcdmkfcmegaa", sum := "530312dcf6535b55de43808c93f87783346e3cdee60afa72a54c0f28ff4afc8a", func := "conduit/conduitlaw18.ValidMerged", spec := "validMerged", unfollowed := true, recurses := true, apart := false, narrowed := true }
def ValidMergedUptoSaid : Prop := validMergedUptoRow.holds Try.pinned (OpenSpec.upto validMergedSpec)

end Rows
end Go.Proofs.Ytbigcdmkfcmegaa
