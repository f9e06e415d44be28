/- Show and Origin of a target, the program's and the reference's: strconv.Itoa against the statements' own Show at every int. Conditions: the library's table of powers of ten; texts of at most 2^46 bytes. -/
import Derived.Test.YtdeaoagdjnnppaaGreatDoorShf
import Derived.Test.YtdeaoagdjnnppaaGreatDoorByt
import Derived.Test.YtdeaoagdjnnppaaGreatDoorUr
import Derived.Test.YtdeaoagdjnnppaaGreatDoorDet
import Derived.IntWalk
import Derived.Lib.AppendIntMem
import Derived.Lib.SmallJoins
import Derived.Lib.ItoaMem
import Derived.Lib.ItoaLen
import Derived.Deep.RegionHeld3
set_option linter.unusedVariables false
set_option linter.unusedSimpArgs false
namespace Go.Proofs.YtdeaoagdjnnppaaGreatDoor
open Go.RowKit

set_option maxRecDepth 100000
abbrev Tab (w : World) : Prop := Lib.TabIs Tryz.prog w "internal/strconv.uint64pow10" .u64 Lib.pow10Tab
theorem tab_b {w w' : World} (h : Tab w) (hb : Below w.heap.size w w') : Tab w' := Go.Joins.tab_stays (P := Tryz.prog) (g := 4) (by kernel_rfl) h hb (Nat.le_refl _)
theorem itoa_any (p : Int) (w : World) (h1 : -9223372036854775808 ≤ p) (h2 : p ≤ 9223372036854775807) (ht : Tab w) : Calls Tryz.prog 24 #[.int .i64 p] w fun e w' => e = .returned (.string (bs (Lib.itoa p))) ∧ Below w.heap.size w w' :=
  (Tryz.strconv_Itoa p h1 h2 w ht).mono fun e w' h => ⟨h.1, by
    obtain ⟨q, os, h3⟩ := h.2
    rw [h3]
    exact Lib.below_grow _ _ (Nat.le_refl _) q os⟩
theorem row_keep {w w' : World} {cs : Array Value} {t : TypeId} {B : Nat} (h : w.heap[B]? = some (.cells cs t (0, 0))) (hb : Below w.heap.size w w') : w'.heap[B]? = some (.cells cs t (0, 0)) := by
  rw [hb.block B (by exact (Array.getElem?_eq_some_iff.1 h).1)]; exact h
theorem row_facts3 {w : World} {v0 v1 v2 : Value} {t : TypeId} {B : Nat} (h : w.heap[B]? = some (.cells #[v0, v1, v2] t (0, 0))) :
    w.cell? ⟨B, 0, none⟩ = some v0 ∧ w.cell? ⟨B, 1, none⟩ = some v1 ∧ w.cell? ⟨B, 2, none⟩ = some v2 ∧ w.frozen? ⟨B, 0, none⟩ = false ∧ w.frozen? ⟨B, 1, none⟩ = false ∧ w.frozen? ⟨B, 2, none⟩ = false := by
  refine ⟨?_, ?_, ?_, ?_, ?_, ?_⟩
  iterate 3 (rw [cell_of_row _ _ _ _ _ _ h]; rfl)
  all_goals (simp only [World.frozen?, h]; rfl)
theorem itoa_len {p : Int} (h1 : -9223372036854775808 ≤ p) (h2 : p ≤ 9223372036854775807) : (Lib.itoa p).length ≤ 21 := Lib.itoa_length_le p h1 h2
theorem showL_80 (h t : List UInt8) : Ur.showL (h, 80, t) = [104, 116, 116, 112, 58, 47, 47] ++ h ++ t := by unfold Ur.showL Ur.sch; simp
theorem showL_ne {p : Int} (hp : p ≠ 80) (h t : List UInt8) : Ur.showL (h, p, t) = [104, 116, 116, 112, 58, 47, 47] ++ h ++ ([58] ++ Lib.itoa p) ++ t := by unfold Ur.showL Ur.sch; simp [hp]
section
variable (h t : List UInt8) (p : Int) (w : World)
set_option maxHeartbeats 1000000 in
theorem ushow_any (ht : Tab w) (hh : h.length ≤ 70368744177664) (htl : t.length ≤ 70368744177664) (h1 : -9223372036854775808 ≤ p) (h2 : p ≤ 9223372036854775807) :
    Calls Tryz.prog 8 #[.agg #[.string (bs h), .int .i64 p, .string (bs t)]] w fun e w' => e = .returned (.string (bs (Ur.showL (h, p, t)))) ∧ Below w.heap.size w w' := by
  have hal := alloc_below w (.cells #[.string (bs h), .int .i64 p, .string (bs t)] 24)
  have hr := heap_alloc_new w (.cells #[.string (bs h), .int .i64 p, .string (bs t)] 24)
  have hC := itoa_any p _ h1 h2 (tab_b ht hal)
  by_cases hp : p = 80
  · subst hp
    rw [showL_80]
    clear hC
    go_enter Tryz.func8, Tryz.ntmps8
    go_wp2
    go_ret
    exact ⟨rfl, hal⟩
  · rw [showL_ne hp]
    have hL := itoa_len h1 h2
    generalize Lib.itoa p = D at *
    have hpn : (p != 80) = true := by simpa using hp
    go_enter Tryz.func8, Tryz.ntmps8
    go_wp2_with fail
    refine hC.mono ?_
    rintro e w1 ⟨rfl, hb1⟩
    have hr1 := row_facts3 (row_keep hr hb1)
    obtain ⟨c0, c1, c2, -, -, -⟩ := hr1
    clear hC
    go_wp2
    go_ret
    exact ⟨rfl, bnext hal hb1 hal.size⟩
set_option maxHeartbeats 1000000 in
theorem uorig_any (ht : Tab w) (hh : h.length ≤ 70368744177664) (htl : t.length ≤ 70368744177664) (h1 : -9223372036854775808 ≤ p) (h2 : p ≤ 9223372036854775807) :
    Calls Tryz.prog 10 #[.agg #[.string (bs h), .int .i64 p, .string (bs t)]] w fun e w' => e = .returned (.string (bs (Ur.origL (h, p, t)))) ∧ Below w.heap.size w w' := by
  have hal := alloc_below w (.cells #[.string (bs h), .int .i64 p, .string (bs t)] 24)
  have hr := heap_alloc_new w (.cells #[.string (bs h), .int .i64 p, .string (bs t)] 24)
  have ht1 := tab_b ht hal
  have HC := Lib.hid fun W (hT : Tab W) => itoa_any p W h1 h2 hT
  have HO : Hid (Ur.origL (h, p, t) = h ++ [58] ++ Lib.itoa p) := Lib.hid (by unfold Ur.origL; simp)
  have hL := itoa_len h1 h2
  generalize Lib.itoa p = D at *
  generalize Ur.origL (h, p, t) = O at *
  go_enter Tryz.func10, Tryz.ntmps10
  go_upto_region 1 with fail
  generalize w.alloc (.cells #[.string (bs h), .int .i64 p, .string (bs t)] 24) = w1 at *
  refine wp_region_detN (n := 8) (S := fun _ W => W.heap[w.heap.size]? = some (.cells #[.string (bs h), .int .i64 p, .string (bs t)] 24 (0, 0)) ∧ Below w.heap.size w W ∧ Tab W) (by kernel_rfl) rfl ⟨hr, hal.drew, ht1⟩ ?_
  refine' DetS.takeL (i := 0) (v := _) rfl (by kernel_rfl) (by kernel_rfl) (by kernel_rfl) (YS.pure rfl ?sd1_0 ?rd1_0) ?nd1_0
  case rd1_0 => intro L W hS; obtain ⟨c0, c1, c2, -⟩ := row_facts3 hS.1; go_simp; first | rfl | (rw [if_neg (by omega)] <;> rfl) | (rw [if_neg (by simp; omega)] <;> rfl) | (rw [if_neg (by simp)] <;> rfl)
  case sd1_0 => exact fun L W _ h => h
  simp only [Act.put, List.setIfInBounds_toArray, List.set_cons_zero, List.set_cons_succ]
  refine' DetS.takeL (i := 1) (v := _) rfl (by kernel_rfl) (by kernel_rfl) (by kernel_rfl) (YS.pure rfl ?sd1_1 ?rd1_1) ?nd1_1
  case rd1_1 => intro L W hS; obtain ⟨c0, c1, c2, -⟩ := row_facts3 hS.1; go_simp; first | rfl | (rw [if_neg (by omega)] <;> rfl) | (rw [if_neg (by simp; omega)] <;> rfl) | (rw [if_neg (by simp)] <;> rfl)
  case sd1_1 => exact fun L W _ h => h
  simp only [Act.put, List.setIfInBounds_toArray, List.set_cons_zero, List.set_cons_succ]
  refine' DetS.takeL (i := 2) (v := _) rfl (by kernel_rfl) (by kernel_rfl) (by kernel_rfl) (YS.pure rfl ?sd1_2 ?rd1_2) ?nd1_2
  case rd1_2 => intro L W hS; obtain ⟨c0, c1, c2, -⟩ := row_facts3 hS.1; go_simp; first | rfl | (rw [if_neg (by omega)] <;> rfl) | (rw [if_neg (by simp; omega)] <;> rfl) | (rw [if_neg (by simp)] <;> rfl)
  case sd1_2 => exact fun L W _ h => h
  simp only [Act.put, List.setIfInBounds_toArray, List.set_cons_zero, List.set_cons_succ]
  refine' DetS.takeL (i := 3) (v := _) rfl (by kernel_rfl) (by kernel_rfl) (by kernel_rfl) (YS.pure rfl ?sd1_3 ?rd1_3) ?nd1_3
  case rd1_3 => intro L W hS; obtain ⟨c0, c1, c2, -⟩ := row_facts3 hS.1; go_simp; first | rfl | (rw [if_neg (by omega)] <;> rfl) | (rw [if_neg (by simp; omega)] <;> rfl) | (rw [if_neg (by simp)] <;> rfl)
  case sd1_3 => exact fun L W _ h => h
  simp only [Act.put, List.setIfInBounds_toArray, List.set_cons_zero, List.set_cons_succ]
  refine' DetS.takeL (i := 4) (v := _) rfl (by kernel_rfl) (by kernel_rfl) (by kernel_rfl) (YS.pure rfl ?sd1_4 ?rd1_4) ?nd1_4
  case rd1_4 => intro L W hS; obtain ⟨c0, c1, c2, -⟩ := row_facts3 hS.1; go_simp; first | rfl | (rw [if_neg (by omega)] <;> rfl) | (rw [if_neg (by simp; omega)] <;> rfl) | (rw [if_neg (by simp)] <;> rfl)
  case sd1_4 => exact fun L W _ h => h
  simp only [Act.put, List.setIfInBounds_toArray, List.set_cons_zero, List.set_cons_succ]
  refine' DetS.takeL (i := 5) (v := _) rfl (by kernel_rfl) (by kernel_rfl) (by kernel_rfl) (YS.call (f := _) (args := _) rfl ?rd1_5 ?cd1_5) ?nd1_5
  case rd1_5 => intro W; go_simp; constructor <;> rfl
  case cd1_5 =>
    intro L W hL hS
    refine (HC.out W hS.2.2).mono ?_
    rintro e w9 ⟨rfl, hb9⟩
    exact ⟨by rfl, row_keep hS.1 hb9, bnext hS.2.1 hb9 hS.2.1.size, tab_b hS.2.2 hb9⟩
  simp only [Act.put, List.setIfInBounds_toArray, List.set_cons_zero, List.set_cons_succ]
  refine' DetS.takeL (i := 6) (v := _) rfl (by kernel_rfl) (by kernel_rfl) (by kernel_rfl) (YS.pure rfl ?sd1_6 ?rd1_6) ?nd1_6
  case rd1_6 => intro L W hS; obtain ⟨c0, c1, c2, -⟩ := row_facts3 hS.1; go_simp; first | rfl | (rw [if_neg (by omega)] <;> rfl) | (rw [if_neg (by simp; omega)] <;> rfl) | (rw [if_neg (by simp)] <;> rfl)
  case sd1_6 => exact fun L W _ h => h
  simp only [Act.put, List.setIfInBounds_toArray, List.set_cons_zero, List.set_cons_succ]
  refine' DetS.takeL (i := 7) (v := _) rfl (by kernel_rfl) (by kernel_rfl) (by kernel_rfl) (YS.pure rfl ?sd1_7 ?rd1_7) ?nd1_7
  case rd1_7 => intro L W hS; obtain ⟨c0, c1, c2, -⟩ := row_facts3 hS.1; go_simp; first | rfl | (rw [if_neg (by omega)] <;> rfl) | (rw [if_neg (by simp; omega)] <;> rfl) | (rw [if_neg (by simp)] <;> rfl)
  case sd1_7 => exact fun L W _ h => h
  simp only [Act.put, List.setIfInBounds_toArray, List.set_cons_zero, List.set_cons_succ]
  refine DetS.done (by kernel_rfl) (fun W hS => ?_) _
  go_wp2
  go_ret
  exact ⟨ret_str HO.out.symm, hS.2.1⟩
end
end Go.Proofs.YtdeaoagdjnnppaaGreatDoor
