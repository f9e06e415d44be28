/- The pool: New, count. Conditions: at most 10^6 connections. -/
import Derived.Test.YtepedjnmliclkaaPoolE
import Derived.BigRegion
set_option linter.unusedVariables false
set_option linter.unusedSimpArgs false
namespace Go.Proofs.Ytepedjnmliclkaa
open Go.RowKit

def upL (v : Int) : Int := if v < 0 then 0 else v
theorem upL_neg {v : Int} (h : v < 0) : upL v = 0 := by unfold upL; rw [if_pos h]
theorem upL_pos {v : Int} (h : ¬ v < 0) : upL v = v := by unfold upL; rw [if_neg h]
set_option maxHeartbeats 1000000 in
theorem poolNew_any (most each idle : Int) (w : World) :
    Calls Try.prog 43 #[.int .i64 most, .int .i64 each, .int .i64 idle] w fun e w' => ∃ pb, e = .returned (.pointer (some ⟨pb, 0, none⟩)) ∧ PoolX w' w.heap.size pb (upL most) (upL each) (upL idle) [] ∧ Below w.heap.size w w' := by
  have hnew := heap_alloc_new w (.cells #[.int .i64 (upL most), .int .i64 (upL each), .int .i64 (upL idle), .int .i64 0, .string ⟨#[]⟩, .int .i64 0, .int .i64 0, .pointer (some ⟨w.heap.size, 4, none⟩), .pointer (some ⟨w.heap.size, 4, none⟩)] 117)
  have HR : Hid (PoolX (w.alloc (.cells #[.int .i64 (upL most), .int .i64 (upL each), .int .i64 (upL idle), .int .i64 0, .string ⟨#[]⟩, .int .i64 0, .int .i64 0, .pointer (some ⟨w.heap.size, 4, none⟩), .pointer (some ⟨w.heap.size, 4, none⟩)] 117)).drew w.heap.size w.heap.size (upL most) (upL each) (upL idle) []) :=
    Lib.hid ⟨[], rfl, (⟨Ring.new (pre := poolPre (upL most) (upL each) (upL idle) 0) (np := 3) 115 (by simp [poolPre]) hnew, Nat.le_refl _, by simp⟩ : PoolW _ w.heap.size w.heap.size (upL most) (upL each) (upL idle) []).drew⟩
  have HB : Hid (Below w.heap.size w (w.alloc (.cells #[.int .i64 (upL most), .int .i64 (upL each), .int .i64 (upL idle), .int .i64 0, .string ⟨#[]⟩, .int .i64 0, .int .i64 0, .pointer (some ⟨w.heap.size, 4, none⟩), .pointer (some ⟨w.heap.size, 4, none⟩)] 117)).drew) := Lib.hid (alloc_below _ _).drew
  clear hnew
  by_cases h1 : most < 0 <;> by_cases h2 : each < 0 <;> by_cases h3 : idle < 0
  all_goals
    first | rw [upL_neg h1] at HR HB | rw [upL_pos h1] at HR HB
    first | rw [upL_neg h2] at HR HB | rw [upL_pos h2] at HR HB
    first | rw [upL_neg h3] at HR HB | rw [upL_pos h3] at HR HB
    first | rw [upL_neg h1] | rw [upL_pos h1]
    first | rw [upL_neg h2] | rw [upL_pos h2]
    first | rw [upL_neg h3] | rw [upL_pos h3]
    go_enter Try.func43, Try.ntmps43
    go_wp2
    go_region
    go_wp2
    go_ret
    exact ⟨w.heap.size, rfl, HR.out, HB.out⟩
/-- The two cells that count's question keeps: what is asked, and how many there were. -/
def cntW (w : World) (K1 : FuncId) (caps : Array Value) (c : Int) : World := (w.alloc (.cells #[.func (.func K1) #[] caps] 118)).alloc (.cells #[.int .i64 c] 3)
set_option maxHeartbeats 1000000 in
theorem count1_any (w : World) (K1 : FuncId) (caps : Array Value) (c : Int) (m g : Nat) (b : Bool) (h0 : 0 ≤ c) (h1 : c ≤ 1000000) (f1 : ∀ (args : Array Value) (W : World), (callFunc K1 args).run Try.prog W = .ok (.enter K1 args) W)
    (hq : Calls Try.prog K1 (#[.pointer (some ⟨g, 0, none⟩)] ++ caps) ((cntW w K1 caps c).drewN m) fun e w' => e = .returned (.bool b) ∧ ∃ n, w' = (cntW w K1 caps c).drewN n) :
    Calls Try.prog 79 #[.pointer (some ⟨g, 0, none⟩), .pointer (some ⟨w.heap.size, 0, none⟩), .pointer (some ⟨w.heap.size + 1, 0, none⟩)] ((cntW w K1 caps c).drewN m) fun e w' => e = .returned (.bool false) ∧ ∃ n, w' = (cntW w K1 caps (if b = true then c + 1 else c)).drewN n := by
  have hr := row_keep (heap_alloc_new w (.cells #[.func (.func K1) #[] caps] 118)) (alloc_below _ (.cells #[.int .i64 c] 3))
  have cf := (row1 hr).1
  unfold cntW at *
  clear hr
  go_enter Try.func79, Try.ntmps79
  go_wp2_with fail
  refine hq.mono ?_
  rintro e w1 ⟨rfl, n, rfl⟩
  cases b
  · go_wp2
    go_ret
    exact ⟨rfl, n, rfl⟩
  · go_wp2
    go_ret
    refine ⟨rfl, n, ?_⟩
    show ((((w.alloc _).alloc _).setCell ⟨w.heap.size + 1, 0, none⟩ _).drewN n) = _
    rw [World.setCell_alloc_at _ _ _ _ _ (by simp)]
    rfl
end Go.Proofs.Ytepedjnmliclkaa
