/-
  No cell of these rows narrows 'for every input' (looked for: loops, veiled, ifaces, maps, wideKeys, modest, calm, conditions, laid).
  DERIVED. THE GIVEN ROWS OF THIS SEAT. 10 by the template 'for every input the law returns true; each argument reads behind the call as it read before'; 0 by the template 'total and deterministic' (their statements: YtepedjnmliclkaaTotals.lean).
  GIVEN WITH THE SEED: the statements are not yours to turn. If you find one false, say at which input.
  Laid BY PROGRAM, IN A SANDBOX (cutbox-rows.mjs): the forced cells as the released guide's own fill.sh prints them over the translation df48002f71e5a17e… (all of the seat's roots in one cut). By AI agents, Wed Nov 11 2026. No macro, syntax, notation, axiom, sorry.
-/
import Derived.Test.YtepedjnmliclkaaChecked
import GoSem.Claim
import GoSem.ClaimJoined
import GoSem.ClaimMapViews
import Derived.JoinedTies
import Derived.KernelRfl
namespace Go.Proofs.Ytepedjnmliclkaa
/- THE CELL 'sum', in the pinned program and in every row, IS THE sha256 OF THE DUMP (.gsa) THAT YtepedjnmliclkaaProg.lean LOADS. Nothing in Lean hashes anything: it is a label: what it is worth is what the hold of that sum in a sandbox is worth. -/
noncomputable def Try.pinned : Pinned := { name := "ytepedjnmliclkaa", sum := "df48002f71e5a17e812c8dfd9d46e1be076c5f8918c8badd4e9f6b6939248229", checked := Try.checked }
namespace Rows
def none {H : Type} : Left H := { results := [], args := [] }

/-- 'conduitlaw14.LruNumbers': WHATEVER THE INPUT: true; the input reads as it did. -/
def lruNumbersSpec : ChangeSpec := { name := "lruNumbers", fn := fun _ => fun
  | [d1, d2] => { results := [.lit (.bool true)], args := [d1, d2] }
  | _ => none }
def lruNumbersRow : OpenClaim := { program := "ytepedjnmliclkaa", sum := "df48002f71e5a17e812c8dfd9d46e1be076c5f8918c8badd4e9f6b6939248229", func := "conduit/conduitlaw14.LruNumbers", spec := "lruNumbers", apart := false }
def LruNumbersSaid : Prop := lruNumbersRow.holds Try.pinned (OpenSpec.ofChange lruNumbersSpec)

/-- ITS FALSE NEIGHBOUR: 'it returns false'. Refute it at one input. -/
def lruNumbersWrong : ChangeSpec := { name := "lruNumbers", fn := fun _ => fun
  | [d1, d2] => { results := [.lit (.bool false)], args := [d1, d2] }
  | _ => none }
def LruNumbersWrongFalsely : Prop := lruNumbersRow.holds Try.pinned (OpenSpec.ofChange lruNumbersWrong)

/-- 'conduitlaw14.LruPairs': WHATEVER THE INPUT: true; the input reads as it did. -/
def lruPairsSpec : ChangeSpec := { name := "lruPairs", fn := fun _ => fun
  | [d1, d2] => { results := [.lit (.bool true)], args := [d1, d2] }
  | _ => none }
def lruPairsRow : OpenClaim := { program := "ytepedjnmliclkaa", sum := "df48002f71e5a17e812c8dfd9d46e1be076c5f8918c8badd4e9f6b6939248229", func := "conduit/conduitlaw14.LruPairs", spec := "lruPairs", apart := false }
def LruPairsSaid : Prop := lruPairsRow.holds Try.pinned (OpenSpec.ofChange lruPairsSpec)

/-- ITS FALSE NEIGHBOUR: 'it returns false'. Refute it at one input. -/
def lruPairsWrong : ChangeSpec := { name := "lruPairs", fn := fun _ => fun
  | [d1, d2] => { results := [.lit (.bool false)], args := [d1, d2] }
  | _ => none }
def LruPairsWrongFalsely : Prop := lruPairsRow.holds Try.pinned (OpenSpec.ofChange lruPairsWrong)

/-- 'conduitlaw14.LruBounds': WHATEVER THE INPUT: true; the input reads as it did. -/
def lruBoundsSpec : ChangeSpec := { name := "lruBounds", fn := fun _ => fun
  | [d1, d2] => { results := [.lit (.bool true)], args := [d1, d2] }
  | _ => none }
def lruBoundsRow : OpenClaim := { program := "ytepedjnmliclkaa", sum := "df48002f71e5a17e812c8dfd9d46e1be076c5f8918c8badd4e9f6b6939248229", func := "conduit/conduitlaw14.LruBounds", spec := "lruBounds", apart := false }
def LruBoundsSaid : Prop := lruBoundsRow.holds Try.pinned (OpenSpec.ofChange lruBoundsSpec)

/-- ITS FALSE NEIGHBOUR: 'it returns false'. Refute it at one input. -/
def lruBoundsWrong : ChangeSpec := { name := "lruBounds", fn := fun _ => fun
  | [d1, d2] => { results := [.lit (.bool false)], args := [d1, d2] }
  | _ => none }
def LruBoundsWrongFalsely : Prop := lruBoundsRow.holds Try.pinned (OpenSpec.ofChange lruBoundsWrong)

/-- 'conduitlaw14.LruGone': WHATEVER THE INPUT: true; the input reads as it did. -/
def lruGoneSpec : ChangeSpec := { name := "lruGone", fn := fun _ => fun
  | [d1, d2, d3] => { results := [.lit (.bool true)], args := [d1, d2, d3] }
  | _ => none }
def lruGoneRow : OpenClaim := { program := "ytepedjnmliclkaa", sum := "df48002f71e5a17e812c8dfd9d46e1be076c5f8918c8badd4e9f6b6939248229", func := "conduit/conduitlaw14.LruGone", spec := "lruGone", apart := false }
def LruGoneSaid : Prop := lruGoneRow.holds Try.pinned (OpenSpec.ofChange lruGoneSpec)

/-- ITS FALSE NEIGHBOUR: 'it returns false'. Refute it at one input. -/
def lruGoneWrong : ChangeSpec := { name := "lruGone", fn := fun _ => fun
  | [d1, d2, d3] => { results := [.lit (.bool false)], args := [d1, d2, d3] }
  | _ => none }
def LruGoneWrongFalsely : Prop := lruGoneRow.holds Try.pinned (OpenSpec.ofChange lruGoneWrong)

/-- 'conduitlaw14.LruMemory': WHATEVER THE INPUT: true; the input reads as it did. -/
def lruMemorySpec : ChangeSpec := { name := "lruMemory", fn := fun _ => fun
  | [d1, d2] => { results := [.lit (.bool true)], args := [d1, d2] }
  | _ => none }
def lruMemoryRow : OpenClaim := { program := "ytepedjnmliclkaa", sum := "df48002f71e5a17e812c8dfd9d46e1be076c5f8918c8badd4e9f6b6939248229", func := "conduit/conduitlaw14.LruMemory", spec := "lruMemory", apart := false }
def LruMemorySaid : Prop := lruMemoryRow.holds Try.pinned (OpenSpec.ofChange lruMemorySpec)

/-- ITS FALSE NEIGHBOUR: 'it returns false'. Refute it at one input. -/
def lruMemoryWrong : ChangeSpec := { name := "lruMemory", fn := fun _ => fun
  | [d1, d2] => { results := [.lit (.bool false)], args := [d1, d2] }
  | _ => none }
def LruMemoryWrongFalsely : Prop := lruMemoryRow.holds Try.pinned (OpenSpec.ofChange lruMemoryWrong)

/-- 'conduitlaw23.PoolOrigins': WHATEVER THE INPUT: true; the input reads as it did. -/
def poolOriginsSpec : ChangeSpec := { name := "poolOrigins", fn := fun _ => fun
  | [d1, d2, d3, d4, d5, d6] => { results := [.lit (.bool true)], args := [d1, d2, d3, d4, d5, d6] }
  | _ => none }
def poolOriginsRow : OpenClaim := { program := "ytepedjnmliclkaa", sum := "df48002f71e5a17e812c8dfd9d46e1be076c5f8918c8badd4e9f6b6939248229", func := "conduit/conduitlaw23.PoolOrigins", spec := "poolOrigins", unfollowed := true, recurses := true, apart := false }
def PoolOriginsSaid : Prop := poolOriginsRow.holds Try.pinned (OpenSpec.ofChange poolOriginsSpec)

/-- ITS FALSE NEIGHBOUR: 'it returns false'. Refute it at one input. -/
def poolOriginsWrong : ChangeSpec := { name := "poolOrigins", fn := fun _ => fun
  | [d1, d2, d3, d4, d5, d6] => { results := [.lit (.bool false)], args := [d1, d2, d3, d4, d5, d6] }
  | _ => none }
def PoolOriginsWrongFalsely : Prop := poolOriginsRow.holds Try.pinned (OpenSpec.ofChange poolOriginsWrong)

/-- 'conduitlaw23.PoolSteps': WHATEVER THE INPUT: true; the input reads as it did. -/
def poolStepsSpec : ChangeSpec := { name := "poolSteps", fn := fun _ => fun
  | [d1, d2, d3, d4] => { results := [.lit (.bool true)], args := [d1, d2, d3, d4] }
  | _ => none }
def poolStepsRow : OpenClaim := { program := "ytepedjnmliclkaa", sum := "df48002f71e5a17e812c8dfd9d46e1be076c5f8918c8badd4e9f6b6939248229", func := "conduit/conduitlaw23.PoolSteps", spec := "poolSteps", unfollowed := true, recurses := true, apart := false }
def PoolStepsSaid : Prop := poolStepsRow.holds Try.pinned (OpenSpec.ofChange poolStepsSpec)

/-- ITS FALSE NEIGHBOUR: 'it returns false'. Refute it at one input. -/
def poolStepsWrong : ChangeSpec := { name := "poolSteps", fn := fun _ => fun
  | [d1, d2, d3, d4] => { results := [.lit (.bool false)], args := [d1, d2, d3, d4] }
  | _ => none }
def PoolStepsWrongFalsely : Prop := poolStepsRow.holds Try.pinned (OpenSpec.ofChange poolStepsWrong)

/-- 'conduitlaw23.PoolBounds': WHATEVER THE INPUT: true; the input reads as it did. -/
def poolBoundsSpec : ChangeSpec := { name := "poolBounds", fn := fun _ => fun
  | [d1, d2, d3, d4] => { results := [.lit (.bool true)], args := [d1, d2, d3, d4] }
  | _ => none }
def poolBoundsRow : OpenClaim := { program := "ytepedjnmliclkaa", sum := "df48002f71e5a17e812c8dfd9d46e1be076c5f8918c8badd4e9f6b6939248229", func := "conduit/conduitlaw23.PoolBounds", spec := "poolBounds", unfollowed := true, recurses := true, apart := false }
def PoolBoundsSaid : Prop := poolBoundsRow.holds Try.pinned (OpenSpec.ofChange poolBoundsSpec)

/-- ITS FALSE NEIGHBOUR: 'it returns false'. Refute it at one input. -/
def poolBoundsWrong : ChangeSpec := { name := "poolBounds", fn := fun _ => fun
  | [d1, d2, d3, d4] => { results := [.lit (.bool false)], args := [d1, d2, d3, d4] }
  | _ => none }
def PoolBoundsWrongFalsely : Prop := poolBoundsRow.holds Try.pinned (OpenSpec.ofChange poolBoundsWrong)

/-- 'conduitlaw23.PoolOld': WHATEVER THE INPUT: true; the input reads as it did. -/
def poolOldSpec : ChangeSpec := { name := "poolOld", fn := fun _ => fun
  | [d1, d2, d3] => { results := [.lit (.bool true)], args := [d1, d2, d3] }
  | _ => none }
def poolOldRow : OpenClaim := { program := "ytepedjnmliclkaa", sum := "df48002f71e5a17e812c8dfd9d46e1be076c5f8918c8badd4e9f6b6939248229", func := "conduit/conduitlaw23.PoolOld", spec := "poolOld", unfollowed := true, recurses := true, apart := false }
def PoolOldSaid : Prop := poolOldRow.holds Try.pinned (OpenSpec.ofChange poolOldSpec)

/-- ITS FALSE NEIGHBOUR: 'it returns false'. Refute it at one input. -/
def poolOldWrong : ChangeSpec := { name := "poolOld", fn := fun _ => fun
  | [d1, d2, d3] => { results := [.lit (.bool false)], args := [d1, d2, d3] }
  | _ => none }
def PoolOldWrongFalsely : Prop := poolOldRow.holds Try.pinned (OpenSpec.ofChange poolOldWrong)

/-- 'conduitlaw23.PoolMemory': WHATEVER THE INPUT: true; the input reads as it did. -/
def poolMemorySpec : ChangeSpec := { name := "poolMemory", fn := fun _ => fun
  | [d1, d2, d3] => { results := [.lit (.bool true)], args := [d1, d2, d3] }
  | _ => none }
def poolMemoryRow : OpenClaim := { program := "ytepedjnmliclkaa", sum := "df48002f71e5a17e812c8dfd9d46e1be076c5f8918c8badd4e9f6b6939248229", func := "conduit/conduitlaw23.PoolMemory", spec := "poolMemory", unfollowed := true, recurses := true, apart := false }
def PoolMemorySaid : Prop := poolMemoryRow.holds Try.pinned (OpenSpec.ofChange poolMemorySpec)

/-- ITS FALSE NEIGHBOUR: 'it returns false'. Refute it at one input. -/
def poolMemoryWrong : ChangeSpec := { name := "poolMemory", fn := fun _ => fun
  | [d1, d2, d3] => { results := [.lit (.bool false)], args := [d1, d2, d3] }
  | _ => none }
def PoolMemoryWrongFalsely : Prop := poolMemoryRow.holds Try.pinned (OpenSpec.ofChange poolMemoryWrong)

/- THE SECOND FORM. 'bulk': how many values and letters a reading holds, each counted each time it is reached (what is shared counts as often as it is met; a slice's spare places count too). A statement '..UptoSaid' is the law's where the arguments, and the package variables that the reading takes, are together of bulk at most 1048576: NARROWER than '..Said'. Prove '..Said' where nothing that the law and all that it calls make is longer than what came in: it says more and counts as full. Else prove '..UptoSaid'. A law counts once. -/
mutual
def uptoBulk {H : Type} : DataW H → Nat
  | .lit (.string bytes) => bytes.length + 1
  | .lit _ => 1
  | .nil => 1
  | .ptr d => uptoBulk d + 1
  | .slice elems spare => uptoBulkAll elems + uptoBulkAll spare + 1
  | .agg parts => uptoBulkAll parts + 1
  | .iface _ d => uptoBulk d + 1
  | .map entries => uptoBulkEntries entries + 1
  | .held _ => 1
def uptoBulkAll {H : Type} : List (DataW H) → Nat
  | [] => 0
  | d :: r => uptoBulk d + uptoBulkAll r
def uptoBulkEntries {H : Type} : List (Lit × DataW H) → Nat
  | [] => 0
  | x :: r => uptoBulkEntry x + uptoBulkEntries r
def uptoBulkEntry {H : Type} : Lit × DataW H → Nat
  | (.string bytes, d) => bytes.length + uptoBulk d + 1
  | (_, d) => uptoBulk d + 1
 end
def uptoSmall : (H : Type) → List (DataW H) → Bool := fun _ ds => decide (uptoBulkAll ds ≤ 1048576)
def OpenSpec.upto (s : _root_.Go.ChangeSpec) : _root_.Go.OpenSpec := { _root_.Go.OpenSpec.ofChange s with cond := some uptoSmall }

/-- 'conduitlaw14.LruNumbers', WHERE WHAT IT READS IS OF BULK AT MOST 1048576: true; the input reads as it did. -/
def lruNumbersUptoRow : OpenClaim := { program := "ytepedjnmliclkaa", sum := "df48002f71e5a17e812c8dfd9d46e1be076c5f8918c8badd4e9f6b6939248229", func := "conduit/conduitlaw14.LruNumbers", spec := "lruNumbers", apart := false, narrowed := true }
def LruNumbersUptoSaid : Prop := lruNumbersUptoRow.holds Try.pinned (OpenSpec.upto lruNumbersSpec)

/-- 'conduitlaw14.LruPairs', WHERE WHAT IT READS IS OF BULK AT MOST 1048576: true; the input reads as it did. -/
def lruPairsUptoRow : OpenClaim := { program := "ytepedjnmliclkaa", sum := "df48002f71e5a17e812c8dfd9d46e1be076c5f8918c8badd4e9f6b6939248229", func := "conduit/conduitlaw14.LruPairs", spec := "lruPairs", apart := false, narrowed := true }
def LruPairsUptoSaid : Prop := lruPairsUptoRow.holds Try.pinned (OpenSpec.upto lruPairsSpec)

/-- 'conduitlaw14.LruBounds', WHERE WHAT IT READS IS OF BULK AT MOST 1048576: true; the input reads as it did. -/
def lruBoundsUptoRow : OpenClaim := { program := "ytepedjnmliclkaa", sum := "df48002f71e5a17e812c8dfd9d46e1be076c5f8918c8badd4e9f6b6939248229", func := "conduit/conduitlaw14.LruBounds", spec := "lruBounds", apart := false, narrowed := true }
def LruBoundsUptoSaid : Prop := lruBoundsUptoRow.holds Try.pinned (OpenSpec.upto lruBoundsSpec)

/-- 'conduitlaw14.LruGone', WHERE WHAT IT READS IS OF BULK AT MOST 1048576: true; the input reads as it did. -/
def lruGoneUptoRow : OpenClaim := { program := "ytepedjnmliclkaa", sum := "df48002f71e5a17e812c8dfd9d46e1be076c5f8918c8badd4e9f6b6939248229", func := "conduit/conduitlaw14.LruGone", spec := "lruGone", apart := false, narrowed := true }
def LruGoneUptoSaid : Prop := lruGoneUptoRow.holds Try.pinned (OpenSpec.upto lruGoneSpec)

/-- 'conduitlaw14.LruMemory', WHERE WHAT IT READS IS OF BULK AT MOST 1048576: true; the input reads as it did. -/
def lruMemoryUptoRow : OpenClaim := { program := "ytepedjnmliclkaa", sum := "df48002f71e5a17e812c8dfd9d46e1be076c5f8918c8badd4e9f6b6939248229", func := "conduit/conduitlaw14.LruMemory", spec := "lruMemory", apart := false, narrowed := true }
def LruMemoryUptoSaid : Prop := lruMemoryUptoRow.holds Try.pinned (OpenSpec.upto lruMemorySpec)

/-- 'conduitlaw23.PoolOrigins', WHERE WHAT IT READS IS OF BULK AT MOST 1048576: true; the input reads as it did. -/
def poolOriginsUptoRow : OpenClaim := { program := "ytepedjnmliclkaa", sum := "df48002f71e5a17e812c8dfd9d46e1be076c5f8918c8badd4e9f6b6939248229", func := "conduit/conduitlaw23.PoolOrigins", spec := "poolOrigins", unfollowed := true, recurses := true, apart := false, narrowed := true }
def PoolOriginsUptoSaid : Prop := poolOriginsUptoRow.holds Try.pinned (OpenSpec.upto poolOriginsSpec)

/-- 'conduitlaw23.PoolSteps', WHERE WHAT IT READS IS OF BULK AT MOST 1048576: true; the input reads as it did. -/
def poolStepsUptoRow : OpenClaim := { program := "ytepedjnmliclkaa", sum := "df48002f71e5a17e812c8dfd9d46e1be076c5f8918c8badd4e9f6b6939248229", func := "conduit/conduitlaw23.PoolSteps", spec := "poolSteps", unfollowed := true, recurses := true, apart := false, narrowed := true }
def PoolStepsUptoSaid : Prop := poolStepsUptoRow.holds Try.pinned (OpenSpec.upto poolStepsSpec)

/-- 'conduitlaw23.PoolBounds', WHERE WHAT IT READS IS OF BULK AT MOST 1048576: true; the input reads as it did. -/
def poolBoundsUptoRow : OpenClaim := { program := "ytepedjnmliclkaa", sum := "df48002f71e5a17e812c8dfd9d46e1be076c5f8918c8badd4e9f6b6939248229", func := "conduit/conduitlaw23.PoolBounds", spec := "poolBounds", unfollowed := true, recurses := true, apart := false, narrowed := true }
def PoolBoundsUptoSaid : Prop := poolBoundsUptoRow.holds Try.pinned (OpenSpec.upto poolBoundsSpec)

/-- 'conduitlaw23.PoolOld', WHERE WHAT IT READS IS OF BULK AT MOST 1048576: true; the input reads as it did. -/
def poolOldUptoRow : OpenClaim := { program := "ytepedjnmliclkaa", sum := "df48002f71e5a17e812c8dfd9d46e1be076c5f8918c8badd4e9f6b6939248229", func := "conduit/conduitlaw23.PoolOld", spec := "poolOld", unfollowed := true, recurses := true, apart := false, narrowed := true }
def PoolOldUptoSaid : Prop := poolOldUptoRow.holds Try.pinned (OpenSpec.upto poolOldSpec)

/-- 'conduitlaw23.PoolMemory', WHERE WHAT IT READS IS OF BULK AT MOST 1048576: true; the input reads as it did. -/
def poolMemoryUptoRow : OpenClaim := { program := "ytepedjnmliclkaa", sum := "df48002f71e5a17e812c8dfd9d46e1be076c5f8918c8badd4e9f6b6939248229", func := "conduit/conduitlaw23.PoolMemory", spec := "poolMemory", unfollowed := true, recurses := true, apart := false, narrowed := true }
def PoolMemoryUptoSaid : Prop := poolMemoryUptoRow.holds Try.pinned (OpenSpec.upto poolMemorySpec)

end Rows
end Go.Proofs.Ytepedjnmliclkaa
