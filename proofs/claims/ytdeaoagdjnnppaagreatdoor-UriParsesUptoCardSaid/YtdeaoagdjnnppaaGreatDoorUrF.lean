/- alive: one call whose answer the document fixes. Conditions: the library's variables MaxLen and ErrSyntax. -/
import Derived.Test.YtdeaoagdjnnppaaGreatDoorUrE
set_option linter.unusedVariables false
set_option linter.unusedSimpArgs false
namespace Go.Proofs.YtdeaoagdjnnppaaGreatDoor
open Go.RowKit

set_option maxRecDepth 100000
theorem alive_any (w : World) (hM : MaxL w) (hE : ErrS w) : Calls Tryz.prog 5 #[] w fun e w' => e = .returned (.bool true) ∧ Below w.heap.size w w' := by
  have hC := parse_any [72, 84, 84, 80, 58, 47, 47, 69, 120, 46, 99, 111, 109, 58, 48, 56, 48, 47, 37, 55, 101, 117, 115, 101, 114, 47, 97, 47, 46, 46, 47, 98, 63, 113, 61, 37, 50, 102] w hM hE (by decide)
  rw [show Ur.parseL [72, 84, 84, 80, 58, 47, 47, 69, 120, 46, 99, 111, 109, 58, 48, 56, 48, 47, 37, 55, 101, 117, 115, 101, 114, 47, 97, 47, 46, 46, 47, 98, 63, 113, 61, 37, 50, 102] = (([101, 120, 46, 99, 111, 109], 80, [47, 126, 117, 115, 101, 114, 47, 98, 63, 113, 61, 37, 50, 70]), 0) from by decide +kernel] at hC
  unfold resV Ur.tgtV at hC
  dsimp only at hC
  go_enter Tryz.func5, Tryz.ntmps5
  go_wp2_with fail
  refine hC.mono ?_
  rintro e w1 ⟨rfl, hb1⟩
  have hal := alloc_below w1 (.cells #[.string (bs [101, 120, 46, 99, 111, 109]), .int .i64 80, .string (bs [47, 126, 117, 115, 101, 114, 47, 98, 63, 113, 61, 37, 50, 70])] 24)
  have hB := bnext hb1 hal hb1.size
  go_wp2
  go_ret
  exact ⟨rfl, hB⟩
end Go.Proofs.YtdeaoagdjnnppaaGreatDoor
