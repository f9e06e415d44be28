/- The reference's Show and Origin of a target: the statements' own Show at every int. Conditions: texts of at most 2^46 bytes. -/
import Derived.Test.YtdeaoagdjnnppaaDoorUrS
import Derived.Test.YtdeaoagdjnnppaaDoorShowN
set_option linter.unusedVariables false
set_option linter.unusedSimpArgs false
namespace Go.Proofs.YtdeaoagdjnnppaaDoor
open Go.RowKit

set_option maxRecDepth 100000
theorem show_any (p : Int) (w : World) (h1 : -9223372036854775808 ≤ p) (h2 : p ≤ 9223372036854775807) : Calls Tryd.prog 18 #[.int .i64 p] w fun e w' => e = .returned (.string (bs (Lib.itoa p))) ∧ Below w.heap.size w w' := by
  by_cases h : 0 ≤ p
  · obtain ⟨k, rfl⟩ : ∃ k : Nat, p = k := ⟨p.toNat, by omega⟩
    rw [Lib.itoa_nonneg]
    exact show_pos k w h2
  · obtain ⟨k, rfl⟩ : ∃ k : Nat, p = -(k : Int) := ⟨(-p).toNat, by omega⟩
    rw [Lib.itoa_neg k (by omega)]
    exact show_neg k w (by omega) (by omega)
section
variable (h t : List UInt8) (p : Int) (w : World)
set_option maxHeartbeats 1000000 in
theorem rshow3_any (hh : h.length ≤ 70368744177664) (htl : t.length ≤ 70368744177664) (h1 : -9223372036854775808 ≤ p) (h2 : p ≤ 9223372036854775807) :
    Calls Tryd.prog 9 #[.agg #[.string (bs h), .int .i64 p, .string (bs t)]] w fun e w' => e = .returned (.string (bs (Ur.showL (h, p, t)))) ∧ Below w.heap.size w w' := by
  have hal := alloc_below w (.cells #[.string (bs h), .int .i64 p, .string (bs t)] 23)
  have hr := heap_alloc_new w (.cells #[.string (bs h), .int .i64 p, .string (bs t)] 23)
  have hC := show_any p (w.alloc (.cells #[.string (bs h), .int .i64 p, .string (bs t)] 23)) h1 h2
  by_cases hp : p = 80
  · subst hp
    rw [showL_80]
    clear hC
    go_enter Tryd.func9, Tryd.ntmps9
    go_wp2
    go_ret
    exact ⟨rfl, hal⟩
  · rw [showL_ne hp]
    have hL := itoa_len h1 h2
    generalize Lib.itoa p = D at *
    have hpn : (p != 80) = true := by simpa using hp
    go_enter Tryd.func9, Tryd.ntmps9
    go_wp2_with fail
    refine hC.mono ?_
    rintro e w1 ⟨rfl, hb1⟩
    have hr1 := row_facts3 (row_keep hr hb1)
    obtain ⟨c0, c1, c2, -, -, -⟩ := hr1
    clear hC
    go_wp2
    go_ret
    exact ⟨rfl, bnext hal hb1 hal.size⟩
set_option maxHeartbeats 1000000 in
theorem rorig3_any (hh : h.length ≤ 70368744177664) (htl : t.length ≤ 70368744177664) (h1 : -9223372036854775808 ≤ p) (h2 : p ≤ 9223372036854775807) :
    Calls Tryd.prog 11 #[.agg #[.string (bs h), .int .i64 p, .string (bs t)]] w fun e w' => e = .returned (.string (bs (Ur.origL (h, p, t)))) ∧ Below w.heap.size w w' := by
  have hal := alloc_below w (.cells #[.string (bs h), .int .i64 p, .string (bs t)] 23)
  have hr := heap_alloc_new w (.cells #[.string (bs h), .int .i64 p, .string (bs t)] 23)
  have HC := Lib.hid fun W => show_any p W h1 h2
  have HO : Hid (Ur.origL (h, p, t) = h ++ [58] ++ Lib.itoa p) := Lib.hid (by unfold Ur.origL; simp)
  have hL := itoa_len h1 h2
  generalize Lib.itoa p = D at *
  generalize Ur.origL (h, p, t) = O at *
  go_enter Tryd.func11, Tryd.ntmps11
  go_upto_region 1 with fail
  generalize w.alloc (.cells #[.string (bs h), .int .i64 p, .string (bs t)] 23) = w1 at *
  refine wp_region_detN (n := 8) (S := fun _ W => W.heap[w.heap.size]? = some (.cells #[.string (bs h), .int .i64 p, .string (bs t)] 23 (0, 0)) ∧ Below w.heap.size w W ∧ True) (by kernel_rfl) rfl ⟨hr, hal.drew, trivial⟩ ?_
  refine' DetS.takeL (i := 0) (v := _) rfl (by kernel_rfl) (by kernel_rfl) (by kernel_rfl) (YS.pure rfl ?sd1_0 ?rd1_0) ?nd1_0
  case rd1_0 => intro L W hS; obtain ⟨c0, c1, c2, -⟩ := row_facts3 hS.1; go_simp; first | rfl | (rw [if_neg (by omega)] <;> rfl) | (rw [if_neg (by simp; omega)] <;> rfl) | (rw [if_neg (by simp)] <;> rfl)
  case sd1_0 => exact fun L W _ h => h
  simp only [Act.put, List.setIfInBounds_toArray, List.set_cons_zero, List.set_cons_succ]
  refine' DetS.takeL (i := 1) (v := _) rfl (by kernel_rfl) (by kernel_rfl) (by kernel_rfl) (YS.pure rfl ?sd1_1 ?rd1_1) ?nd1_1
  case rd1_1 => intro L W hS; obtain ⟨c0, c1, c2, -⟩ := row_facts3 hS.1; go_simp; first | rfl | (rw [if_neg (by omega)] <;> rfl) | (rw [if_neg (by simp; omega)] <;> rfl) | (rw [if_neg (by simp)] <;> rfl)
  case sd1_1 => exact fun L W _ h => h
  simp only [Act.put, List.setIfInBounds_toArray, List.set_cons_zero, List.set_cons_succ]
  refine' DetS.takeL (i := 2) (v := _) rfl (by kernel_rfl) (by kernel_rfl) (by kernel_rfl) (YS.pure rfl ?sd1_2 ?rd1_2) ?nd1_2
  case rd1_2 => intro L W hS; obtain ⟨c0, c1, c2, -⟩ := row_facts3 hS.1; go_simp; first | rfl | (rw [if_neg (by omega)] <;> rfl) | (rw [if_neg (by simp; omega)] <;> rfl) | (rw [if_neg (by simp)] <;> rfl)
  case sd1_2 => exact fun L W _ h => h
  simp only [Act.put, List.setIfInBounds_toArray, List.set_cons_zero, List.set_cons_succ]
  refine' DetS.takeL (i := 3) (v := _) rfl (by kernel_rfl) (by kernel_rfl) (by kernel_rfl) (YS.pure rfl ?sd1_3 ?rd1_3) ?nd1_3
  case rd1_3 => intro L W hS; obtain ⟨c0, c1, c2, -⟩ := row_facts3 hS.1; go_simp; first | rfl | (rw [if_neg (by omega)] <;> rfl) | (rw [if_neg (by simp; omega)] <;> rfl) | (rw [if_neg (by simp)] <;> rfl)
  case sd1_3 => exact fun L W _ h => h
  simp only [Act.put, List.setIfInBounds_toArray, List.set_cons_zero, List.set_cons_succ]
  refine' DetS.takeL (i := 4) (v := _) rfl (by kernel_rfl) (by kernel_rfl) (by kernel_rfl) (YS.pure rfl ?sd1_4 ?rd1_4) ?nd1_4
  case rd1_4 => intro L W hS; obtain ⟨c0, c1, c2, -⟩ := row_facts3 hS.1; go_simp; first | rfl | (rw [if_neg (by omega)] <;> rfl) | (rw [if_neg (by simp; omega)] <;> rfl) | (rw [if_neg (by simp)] <;> rfl)
  case sd1_4 => exact fun L W _ h => h
  simp only [Act.put, List.setIfInBounds_toArray, List.set_cons_zero, List.set_cons_succ]
  refine' DetS.takeL (i := 5) (v := _) rfl (by kernel_rfl) (by kernel_rfl) (by kernel_rfl) (YS.call (f := _) (args := _) rfl ?rd1_5 ?cd1_5) ?nd1_5
  case rd1_5 => intro W; go_simp; constructor <;> rfl
  case cd1_5 =>
    intro L W hL hS
    refine (HC.out W ).mono ?_
    rintro e w9 ⟨rfl, hb9⟩
    exact ⟨by rfl, row_keep hS.1 hb9, bnext hS.2.1 hb9 hS.2.1.size, trivial⟩
  simp only [Act.put, List.setIfInBounds_toArray, List.set_cons_zero, List.set_cons_succ]
  refine' DetS.takeL (i := 6) (v := _) rfl (by kernel_rfl) (by kernel_rfl) (by kernel_rfl) (YS.pure rfl ?sd1_6 ?rd1_6) ?nd1_6
  case rd1_6 => intro L W hS; obtain ⟨c0, c1, c2, -⟩ := row_facts3 hS.1; go_simp; first | rfl | (rw [if_neg (by omega)] <;> rfl) | (rw [if_neg (by simp; omega)] <;> rfl) | (rw [if_neg (by simp)] <;> rfl)
  case sd1_6 => exact fun L W _ h => h
  simp only [Act.put, List.setIfInBounds_toArray, List.set_cons_zero, List.set_cons_succ]
  refine' DetS.takeL (i := 7) (v := _) rfl (by kernel_rfl) (by kernel_rfl) (by kernel_rfl) (YS.pure rfl ?sd1_7 ?rd1_7) ?nd1_7
  case rd1_7 => intro L W hS; obtain ⟨c0, c1, c2, -⟩ := row_facts3 hS.1; go_simp; first | rfl | (rw [if_neg (by omega)] <;> rfl) | (rw [if_neg (by simp; omega)] <;> rfl) | (rw [if_neg (by simp)] <;> rfl)
  case sd1_7 => exact fun L W _ h => h
  simp only [Act.put, List.setIfInBounds_toArray, List.set_cons_zero, List.set_cons_succ]
  refine DetS.done (by kernel_rfl) (fun W hS => ?_) _
  go_wp2
  go_ret
  exact ⟨ret_str HO.out.symm, hS.2.1⟩
end
end Go.Proofs.YtdeaoagdjnnppaaDoor
