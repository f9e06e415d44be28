/- Comparison of two bodies' ends by Go's '==' : kind and length. No conditions. -/
import Derived.Test.YtocgnjkikgcjdaaDoorOfReq
set_option linter.unusedVariables false
set_option linter.unusedSimpArgs false
namespace Go.Proofs.YtocgnjkikgcjdaaDoor
open Go.RowKit

theorem body_cells : (Tryd.prog.fieldsOf 31).toList.map (fun f => (f.name, f.type, f.offset)) = [("Kind", 3, 0), ("Length", 3, 1)] := by kernel_rfl
theorem eql_body (a b c d : Int) (w : World) : (binOp .eql 31 (.agg #[.int .i64 a, .int .i64 b]) (.agg #[.int .i64 c, .int .i64 d])).run Tryd.prog w = .ok (.bool ((a == c) && (b == d))) w := by
  rw [run_eql_struct]
  have hs := run_equalIn_struct (P := Tryd.prog) w 9999 31 #[.int .i64 a, .int .i64 b] #[.int .i64 c, .int .i64 d] (by kernel_rfl) (by kernel_rfl)
  rw [hs]
  have hf := body_cells
  match h : (Tryd.prog.fieldsOf 31).toList with
  | [] => rw [h] at hf; simp at hf
  | [_] => rw [h] at hf; simp at hf
  | [f, g] =>
    rw [h] at hf
    simp at hf
    obtain ⟨⟨f1, f2, f3⟩, g1, g2, g3⟩ := hf
    simp [Op.eqFields, f1, f2, f3, g1, g2, g3, go_sem, Tryd.underlying3]
    by_cases e1 : a = c <;> by_cases e2 : b = d <;> simp [e1, e2]
  | _ :: _ :: _ :: _ => rw [h] at hf; simp at hf
theorem eqg_body (w : World) (x y : Operand) (xs ys : Array Value) : (eqGuard .eql 31 x y (.agg xs) (.agg ys)).run Tryd.prog w = .ok () w := run_eqGuard_agg w _ _ _ _ _ _ (by kernel_rfl)
end Go.Proofs.YtocgnjkikgcjdaaDoor
