/- The library's HasPrefix, HasSuffix, CutPrefix, CutSuffix, walked. Conditions: lengths at most 2^47. -/
import Derived.Test.YtdeaoagdjnnppaaGreatDoorChecked
import Derived.Test.YtdeaoagdjnnppaaGreatDoorStr
set_option linter.unusedVariables false
set_option linter.unusedSimpArgs false
namespace Go.Proofs.YtdeaoagdjnnppaaGreatDoor
open Go.RowKit

theorem pre_short {p s : List UInt8} (h : ¬ p.length ≤ s.length) : preB p s = false := by
  rw [Bool.eq_false_iff]; intro hp; exact h (preB_len hp)
theorem suf_short {p s : List UInt8} (h : ¬ p.length ≤ s.length) : sufB p s = false := by
  rw [Bool.eq_false_iff]; intro hp; exact h (sufB_len hp)

end Go.Proofs.YtdeaoagdjnnppaaGreatDoor
