/- CopyFields: the list as new memory. Conditions: the bytes of the list at most 2^47. -/
import Derived.Test.YtfhkgbimnfjfhaaDoorChecked
import Derived.Test.YtfhkgbimnfjfhaaDoorStr
import Derived.Test.YtfhkgbimnfjfhaaDoorMem
import Derived.Test.YtfhkgbimnfjfhaaDoorApp
import Derived.Test.YtfhkgbimnfjfhaaDoorTy
set_option linter.unusedVariables false
set_option linter.unusedSimpArgs false
namespace Go.Proofs.YtfhkgbimnfjfhaaDoor
open Go.RowKit

set_option maxHeartbeats 400000 in
theorem copyFields_own (A : Option Addr) (n c : Nat) (l : List Fld) (w : World) (hl : RdF w A n l) (hn : n * 32 ≤ 140737488355328) :
    Calls Tryd.prog 12 #[.slice A n c] w fun e w' => ∃ A' n' c', e = .returned (.slice A' n' c') ∧ OwnF w' w.heap.size (.slice A' n' c') l ∧ Below w.heap.size w w' := by
  go_enter Tryd.func12, Tryd.ntmps12
  go_wp2_with
    (at_builtin
     refine wp_appF rfl (.tmp 5) (.tmp 6) rfl w.heap.size (.slice (some ⟨w.heap.size, 0, none⟩) 0 0) [] rfl (OwnF.made w) A n c l rfl ?hr ?hby ?hbase ?_
     case hr => exact hl.step (alloc_below _ _)
     case hby => simp; omega
     case hbase => simp
     intro A1 n1 c1 w1 hown1 hb1 hn1)
  go_ret
  exact ⟨A1, n1, c1, rfl, hown1, (alloc_below _ _).trans hb1⟩
theorem copyFields_any (A : Option Addr) (n c : Nat) (l : List Fld) (w : World) (hl : RdF w A n l) (hn : n * 32 ≤ 140737488355328) :
    Calls Tryd.prog 12 #[.slice A n c] w fun e w' => FldsOut w l e w' :=
  (copyFields_own A n c l w hl hn).mono fun e w' ⟨A', n', c', he, ho, hb⟩ => ⟨A', n', c', he, ho.rd, hb⟩
end Go.Proofs.YtfhkgbimnfjfhaaDoor
