/- The laws' arguments opened: a target by value. No conditions. -/
import Derived.Test.YtdeaoagdjnnppaaDoorOpenS
import Derived.Lib.SmallJoins
set_option linter.unusedVariables false
set_option linter.unusedSimpArgs false
set_option maxRecDepth 100000
namespace Go.Proofs.YtdeaoagdjnnppaaDoor
open Go.ChangeShapes Go.WideShapes Go.ChangeAt Go.RowKit Go.Deep Go.Joins
theorem three_of {fs : Array Field} {a b c : TypeId} (h : fs.toList.map (fun f => f.type) = [a, b, c]) : ∃ f0 f1 f2, fs = #[f0, f1, f2] ∧ f0.type = a ∧ f1.type = b ∧ f2.type = c := by
  obtain ⟨l⟩ := fs
  match l, h with
  | [f0, f1, f2], h =>
    simp at h
    exact ⟨f0, f1, f2, rfl, h.1, h.2.1, h.2.2⟩
theorem int_of_trod {H : Type} {enc : TypeId × Value → H} {W : World} {base : Nat} {sp : Nat → Bool} {n : Nat} {v : Value} {d : DataW H} {ps : List MemPlace}
    (h : DataW.trod enc Tryd.prog W base sp true n 3 [v] = some (d, ps)) : ∃ i : Int, v = .int .i64 i ∧ -9223372036854775808 ≤ i ∧ i ≤ 9223372036854775807 ∧ d = .lit (.int .i64 i) := by
  obtain ⟨i, e1, e2, wf⟩ := DataW.trod_int Tryd.underlying3 h
  simp at e1 e2
  obtain ⟨rfl, _⟩ := e2
  refine ⟨i, e1, ?_, ?_, rfl⟩ <;> simp [Lit.wf, IntKind.min, IntKind.max, IntKind.signed, IntKind.bits] at wf <;> omega
theorem tgt_desc : Tryd.prog.underlying 23 = some (.struct (Tryd.prog.fieldsOf 23)) := by kernel_rfl
theorem tgt_shape : (Tryd.prog.fieldsOf 23).toList.map (fun f => f.type) = [9, 3, 9] := by kernel_rfl
theorem tgt_one : oneCellFields Tryd.prog (Tryd.prog.fieldsOf 23) = true := by kernel_rfl
theorem tgt_cells : Tryd.prog.cellsOf 23 = 3 := by kernel_rfl
/-- A target as an argument. -/
theorem opTgt {H : Type} {enc : TypeId × Value → H} {W : World} {base : Nat} {v : Value} {d : DataW H} {ps : List MemPlace} {b : Nat} (hv : Value.okWide Tryd.prog W .any base 23 v)
    (h : DataW.Trod enc Tryd.prog W 0 (fun _ => true) true 23 v d ps) (hb : Rows.uptoBulk d ≤ b) :
    ∃ (h t : List UInt8) (p : Int), v = .agg #[.string (bs h), .int .i64 p, .string (bs t)] ∧ h.length ≤ b ∧ t.length ≤ b ∧ -9223372036854775808 ≤ p ∧ p ≤ 9223372036854775807 := by
  obtain ⟨f0, f1, f2, he, t0, t1, t2⟩ := three_of tgt_shape
  have hd := tgt_desc
  have h1 := tgt_one
  rw [he] at hd h1
  obtain ⟨v0, v1, v2, y0, y1, y2, n, rfl, rfl, rfl, g0, g1, g2⟩ := open_agg3 hd h1 tgt_cells hv h
  rw [t0] at g0
  rw [t1] at g1
  rw [t2] at g2
  obtain ⟨y0a, y0b⟩ := y0
  obtain ⟨y1a, y1b⟩ := y1
  obtain ⟨y2a, y2b⟩ := y2
  obtain ⟨s0, rfl, rfl⟩ := str_of_trod g0
  obtain ⟨i1, rfl, b1, b2, rfl⟩ := int_of_trod g1
  obtain ⟨s2, rfl, rfl⟩ := str_of_trod g2
  simp only [Rows.uptoBulk, Rows.uptoBulkAll] at hb
  exact ⟨s0, s2, i1, rfl, by omega, by omega, b1, b2⟩
/-- A byte as an argument. -/
theorem opU8 {H : Type} {enc : TypeId × Value → H} {W : World} {base : Nat} {v : Value} {d : DataW H} {ps : List MemPlace} (hv : Value.okWide Tryd.prog W .any base 5 v)
    (h : DataW.Trod enc Tryd.prog W 0 (fun _ => true) true 5 v d ps) : ∃ n : Int, v = .int .u8 n ∧ 0 ≤ n ∧ n ≤ 255 := by
  obtain ⟨n, rfl, _, _, wf⟩ := open_int Tryd.underlying5 hv h
  refine ⟨n, rfl, ?_⟩
  simpa [Lit.wf, IntKind.min, IntKind.max, IntKind.signed, IntKind.bits] using wf
end Go.Proofs.YtdeaoagdjnnppaaDoor
