/- frame.OfRequest and the reference's: how a request's body ends. Conditions: at most 2^20 fields, texts of at most 2^20 bytes. -/
import Derived.Test.YtocgnjkikgcjdaaDoorRuleR
set_option linter.unusedVariables false
set_option linter.unusedSimpArgs false
namespace Go.Proofs.YtocgnjkikgcjdaaDoor
open Go.RowKit

/-- A request as the program has it by value. -/
def reqV (m t : List UInt8) (minor : Int) (A : Option Addr) (n c : Nat) : Value := .agg #[.string (bs m), .string (bs t), .int .i64 minor, .slice A n c]
set_option maxHeartbeats 1000000 in
theorem ofRequest_any (m t : List UInt8) (minor : Int) (A : Option Addr) (n c : Nat) (l : List Fld) (w : World) (hl : RdF w A n l) (hn : n ≤ 1048576) (hls : FlenS l) :
    Calls Tryd.prog 15 #[reqV m t minor A n c] w fun e w' => e = .returned (bodyV (ruleL minor l 0)) ∧ Below w.heap.size w w' := by
  unfold reqV
  have hal1 := alloc_below w (.cells #[.string (bs m), .string (bs t), .int .i64 minor, .slice A n c] 27)
  have hal2 := alloc_below (w.alloc (.cells #[.string (bs m), .string (bs t), .int .i64 minor, .slice A n c] 27)) (.cells #[.int .i64 0, .int .i64 0] 31)
  have hb0 := bnext hal1 hal2 hal1.size
  have hl2 := (hl.step hal1).step hal2
  have hnew := heap_alloc_new (w.alloc (.cells #[.string (bs m), .string (bs t), .int .i64 minor, .slice A n c] 27)) (.cells #[.int .i64 0, .int .i64 0] 31)
  rw [show (w.alloc (.cells #[.string (bs m), .string (bs t), .int .i64 minor, .slice A n c] 27)).heap.size = w.heap.size + 1 by simp] at hnew
  have hR := rule_any minor A n c l 0 _ hl2 hn hls
  clear hal1 hal2 hl hl2
  have HX : Hid (∃ x y z : Int, bodyV (ruleL minor l 0) = .tuple #[.agg #[.int .i64 x, .int .i64 y], .int .i64 z]) := Lib.hid ⟨_, _, _, rfl⟩
  generalize bodyV (ruleL minor l 0) = R at *
  go_enter Tryd.func15, Tryd.ntmps15
  go_wp2_with fail
  refine hR.mono ?_
  rintro e w1 ⟨rfl, hb1⟩
  have hr1 := res_keep hnew hb1
  have hbA := bnext hb0 hb1 hb0.size
  obtain ⟨c0, c1, f0, f1⟩ := res_facts hr1
  obtain ⟨x, y, z, rfl⟩ := HX.out
  clear HX
  clear hr1 hb1 hb0 hnew hR
  go_wp2
  refine bodyPost_ret (v := .tuple #[.agg #[.int .i64 x, .int .i64 y], .int .i64 z]) (by simp [results, Tryd.results15, go_sem, c0, c1]) rfl ⟨rfl, (hbA.setCell (by simp) _).setCell (by simp) _⟩
set_option maxHeartbeats 1000000 in
theorem ofRequestR_any (m t : List UInt8) (minor : Int) (A : Option Addr) (n c : Nat) (l : List Fld) (w : World) (hl : RdF w A n l) (hn : n ≤ 1048576) (hls : FlenS l) :
    Calls Tryd.prog 16 #[reqV m t minor A n c] w fun e w' => e = .returned (bodyV (ruleL minor l 0)) ∧ Below w.heap.size w w' := by
  unfold reqV
  have hal1 := alloc_below w (.cells #[.string (bs m), .string (bs t), .int .i64 minor, .slice A n c] 27)
  have hal2 := alloc_below (w.alloc (.cells #[.string (bs m), .string (bs t), .int .i64 minor, .slice A n c] 27)) (.cells #[.int .i64 0, .int .i64 0] 31)
  have hb0 := bnext hal1 hal2 hal1.size
  have hl2 := (hl.step hal1).step hal2
  have hnew := heap_alloc_new (w.alloc (.cells #[.string (bs m), .string (bs t), .int .i64 minor, .slice A n c] 27)) (.cells #[.int .i64 0, .int .i64 0] 31)
  rw [show (w.alloc (.cells #[.string (bs m), .string (bs t), .int .i64 minor, .slice A n c] 27)).heap.size = w.heap.size + 1 by simp] at hnew
  have hR := ruleR_any minor A n c l _ hl2 hn hls
  clear hal1 hal2 hl hl2
  have HX : Hid (∃ x y z : Int, bodyV (ruleL minor l 0) = .tuple #[.agg #[.int .i64 x, .int .i64 y], .int .i64 z]) := Lib.hid ⟨_, _, _, rfl⟩
  generalize bodyV (ruleL minor l 0) = R at *
  go_enter Tryd.func16, Tryd.ntmps16
  go_wp2_with fail
  refine hR.mono ?_
  rintro e w1 ⟨rfl, hb1⟩
  have hr1 := res_keep hnew hb1
  have hbA := bnext hb0 hb1 hb0.size
  obtain ⟨c0, c1, f0, f1⟩ := res_facts hr1
  obtain ⟨x, y, z, rfl⟩ := HX.out
  clear HX
  clear hr1 hb1 hb0 hnew hR
  go_wp2
  refine bodyPost_ret (v := .tuple #[.agg #[.int .i64 x, .int .i64 y], .int .i64 z]) (by simp [results, Tryd.results16, go_sem, c0, c1]) rfl ⟨rfl, (hbA.setCell (by simp) _).setCell (by simp) _⟩
end Go.Proofs.YtocgnjkikgcjdaaDoor
