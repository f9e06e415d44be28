/- Comparison of two fields by Go's '==' and '!=': name and value. No conditions. -/
import Derived.Test.YtfhkgbimnfjfhaaDoorChecked
import Derived.Test.YtfhkgbimnfjfhaaDoorStr
import Derived.Test.YtfhkgbimnfjfhaaDoorMem
set_option linter.unusedVariables false
set_option linter.unusedSimpArgs false
namespace Go.Proofs.YtfhkgbimnfjfhaaDoor
open Go.RowKit

theorem fld_cells : (Tryd.prog.fieldsOf 63).toList.map (fun f => (f.name, f.type, f.offset)) = [("Name", 9, 0), ("Value", 9, 1)] := by kernel_rfl
theorem neq_fld (x1 x2 y1 y2 : List UInt8) (w : World) : (binOp .neq 63 (.agg #[.string (bs x1), .string (bs x2)]) (.agg #[.string (bs y1), .string (bs y2)])).run Tryd.prog w = .ok (.bool (!((x1 == y1) && (x2 == y2)))) w := by
  rw [run_neq_struct]
  have hs := run_equalIn_struct (P := Tryd.prog) w 9999 63 #[.string (bs x1), .string (bs x2)] #[.string (bs y1), .string (bs y2)] (by kernel_rfl) (by kernel_rfl)
  rw [hs]
  have hf := fld_cells
  match h : (Tryd.prog.fieldsOf 63).toList with
  | [] => rw [h] at hf; simp at hf
  | [_] => rw [h] at hf; simp at hf
  | [f, g] =>
    rw [h] at hf
    simp at hf
    obtain ⟨⟨f1, f2, f3⟩, g1, g2, g3⟩ := hf
    simp [Op.eqFields, f1, f2, f3, g1, g2, g3, go_sem, Tryd.underlying9]
    by_cases e1 : x1 = y1 <;> by_cases e2 : x2 = y2 <;> simp [e1, e2]
  | _ :: _ :: _ :: _ => rw [h] at hf; simp at hf
theorem eqg_fld (w : World) (x y : Operand) (xs ys : Array Value) : (eqGuard .neq 63 x y (.agg xs) (.agg ys)).run Tryd.prog w = .ok () w := run_eqGuard_agg w _ _ _ _ _ _ (by kernel_rfl)
end Go.Proofs.YtfhkgbimnfjfhaaDoor
