/- Show and Forms, the program's and the reference's, and the law's alive. Conditions: the library's table of powers of ten. -/
import Derived.Test.YtfldfkipkfpdjaaDoorDtG
import Derived.Lib.SmallJoins
set_option linter.unusedVariables false
set_option linter.unusedSimpArgs false
namespace Go.Proofs.YtfldfkipkfpdjaaDoor
open Go.RowKit

set_option maxRecDepth 100000
theorem tab_b {w w' : World} (h : Tab w) (hb : Below w.heap.size w w') : Tab w' := Go.Joins.tab_stays (P := Tryd.prog) (g := 3) (by kernel_rfl) h hb (Nat.le_refl _)
/-- What Show answers. -/
def shw (v : Int) : List UInt8 × Int := if 0 ≤ v ∧ v ≤ 253402300799 then (Dt.form0 v, 0) else ([], 20)
set_option maxHeartbeats 1000000 in
theorem rshow_any (v : Int) (w : World) : Calls Tryd.prog 10 #[.int .i64 v] w fun e w' => e = .returned (.tuple #[.string (bs (shw v).1), .int .i64 (shw v).2]) ∧ Below w.heap.size w w' := by
  unfold shw
  by_cases h : 0 ≤ v ∧ v ≤ 253402300799
  · rw [if_pos h]
    have hn : ¬ v < 0 := by omega
    have hc : ¬ 253402300799 < v := by omega
    have HF := Lib.hid (forms_any v w h.1 h.2)
    unfold F3 at HF
    generalize Dt.form0 v = F0 at *
    generalize Dt.form1 v = F1 at *
    generalize Dt.form2 v = F2 at *
    go_enter Tryd.func10, Tryd.ntmps10
    go_wp2_with fail
    refine HF.out.mono ?_
    rintro e w2 ⟨rfl, hb2⟩
    go_wp2_with fail
    rw [show (Instr.index 30 (Value.agg #[.string (bs F0), .string (bs F1), .string (bs F2)]) (Value.int .i64 0)).run Tryd.prog w2 = .ok (.string (bs F0)) w2 from rfl]
    go_wp2_with fail
    go_ret2
    exact ⟨rfl, hb2⟩
  · rw [if_neg h]
    by_cases hn : v < 0
    · go_enter Tryd.func10, Tryd.ntmps10
      go_wp2_with fail
      go_ret2
      exact ⟨rfl, Below.refl _ _⟩
    · have hc : 253402300799 < v := by omega
      go_enter Tryd.func10, Tryd.ntmps10
      go_wp2_with fail
      go_ret2
      exact ⟨rfl, Below.refl _ _⟩
theorem week_op (k : Nat) (hk : k < 7) (W : World) : (Instr.index 37 week7 (.int .i64 k)).run Tryd.prog W = .ok (.string (bs (Dt.wkN k))) W := week_index k hk W
set_option maxHeartbeats 16000000 in
theorem dshow_any (v : Int) (w : World) (ht : Tab w) : Calls Tryd.prog 9 #[.int .i64 v] w fun e w' => e = .returned (.tuple #[.string (bs (shw v).1), .int .i64 (shw v).2]) ∧ Below w.heap.size w w' := by
  unfold shw
  by_cases h : 0 ≤ v ∧ v ≤ 253402300799
  · rw [if_pos h]
    have hn : ¬ v < 0 := by omega
    have hc : ¬ 253402300799 < v := by omega
    obtain ⟨n0, n1, r0, r1, -⟩ := Dt.day_bd (v := v) h
    obtain ⟨⟨a1, a2, a3, a4, a5, a6⟩, -⟩ := Dt.civ n0 n1
    have hl := Cal.len_bd (Dt.cY (v / 86400)) (Dt.cM (v / 86400))
    have hTC := toCivil_any (v / 86400) w n0 (by omega)
    have HF0 : Hid (Dt.form0 v = Dt.wk3 (Dt.wd (v / 86400)) ++ [44, 32] ++ Dt.pad2 (Dt.cD (v / 86400)) ++ [32] ++ Dt.moN (Dt.cM (v / 86400)).toNat ++ [32] ++ Dt.pad4 (Dt.cY (v / 86400)) ++ [32] ++ Dt.hms (v % 86400) ++ [32, 71, 77, 84]) := Lib.hid rfl
    change Calls Tryd.prog 16 #[.int .i64 (v / 86400)] w fun e w' => e = .returned (.tuple #[.int .i64 (Dt.cY (v / 86400)), .int .i64 (Dt.cM (v / 86400)), .int .i64 (Dt.cD (v / 86400))]) ∧ w = w' at hTC
    have hwk := wk_len (Dt.wd (v / 86400)) (Dt.wd_lt _)
    have hI := Dt.wd_lt (v / 86400)
    have hwi := Dt.wd_int (v / 86400)
    generalize Dt.form0 v = F0 at *
    generalize Dt.cY (v / 86400) = Y at *
    generalize Dt.cM (v / 86400) = M at *
    generalize Dt.cD (v / 86400) = D at *
    generalize Dt.wd (v / 86400) = I at *
    generalize hd : v / 86400 = dy at *
    generalize hr : v % 86400 = rs at *
    have HDY := Lib.hid hd
    have HRS := Lib.hid hr
    have HTC := Lib.hid hTC
    clear hd hr hTC
    obtain ⟨k, rfl⟩ : ∃ k : Nat, M = (k : Int) + 1 := ⟨(M - 1).toNat, by omega⟩
    have hp := monS_piece ⟨k, by omega⟩
    dsimp only at hp
    have hk1 : ((k : Int) + 1).toNat = k + 1 := by omega
    rw [hk1] at HF0
    have HP := Lib.hid hp
    have j0 : (0 : Int) ≤ 3 * ((k : Int) + 1) - 3 := by omega
    have j1 : (3 * ((k : Int) + 1) - 3).toNat = 3 * (k + 1) - 3 := by omega
    have j2 : (3 * ((k : Int) + 1)).toNat = 3 * (k + 1) := by omega
    have HWI := Lib.hid hwi
    clear hp hk1 hwi
    go_enter Tryd.func9, Tryd.ntmps9
    go_upto_region 4 with fail
    rw [HDY.out, HRS.out]
    go_wp2_with fail
    refine HTC.out.mono ?_
    rintro e w2 ⟨rfl, rfl⟩
    go_upto_region 5 with fail
    have H2 := Lib.hid fun W => pad2_any D W (by omega) (by omega)
    have H4 := Lib.hid fun W => pad4_any Y W (by omega) (by omega)
    have HC := Lib.hid fun W => clock_any rs W r0 r1
    have HW := Lib.hid fun W => weekdays_any W
    have l1 : (Dt.hms rs).length = 8 := rfl
    have l2 : (Dt.pad2 D).length = 2 := rfl
    have l3 : (Dt.pad4 Y).length = 4 := rfl
    have l4 : (Dt.moN (k + 1)).length = 3 := Dt.moN_len _
    generalize Dt.hms rs = CK at *
    generalize Dt.pad2 D = P2 at *
    generalize Dt.pad4 Y = P4 at *
    generalize hMO : Dt.moN (k + 1) = MO at *
    have HW3 : Hid (Dt.wk3 I = (Dt.wkN I).take 3) := Lib.hid rfl
    generalize Dt.wk3 I = W3 at *
    have hl3 : (3 : Int) ≤ ((Dt.wkN I).length : Int) := by omega
    have hm1 : IntKind.i64.wrap (3 * ((k : Int) + 1)) = 3 * ((k : Int) + 1) := IntWalk.i64_in _ (by omega)
    have hm2 : IntKind.i64.wrap (3 * ((k : Int) + 1) - 3) = 3 * ((k : Int) + 1) - 3 := IntWalk.i64_in _ (by omega)
    have j3 : (0 : Int) ≤ 3 * ((k : Int) + 1) := by omega
    have j4 : 3 * ((k : Int) + 1) ≤ 36 := by omega
    have j5 : 3 * ((k : Int) + 1) - 3 ≤ 3 * ((k : Int) + 1) := by omega
    refine wp_region_detN (n := 28) (S := fun _ W => Below w.heap.size w W ∧ Tab W) (by kernel_rfl) rfl ⟨(Below.refl _ _).drew, ht⟩ ?_
    refine' DetS.takeL (i := 0) (v := _) rfl (by kernel_rfl) (by kernel_rfl) (by kernel_rfl) (YS.call (f := _) (args := _) rfl ?rd5_0 ?cd5_0) ?nd5_0
    case rd5_0 => intro W; go_simp; constructor <;> rfl
    case cd5_0 =>
      intro L W hL hS
      refine (HW.out W).mono ?_
      rintro e w9 ⟨rfl, hb9⟩
      exact ⟨by rfl, bnext hS.1 hb9 hS.1.size, tab_b hS.2 hb9⟩
    simp only [Act.put, List.setIfInBounds_toArray, List.set_cons_zero, List.set_cons_succ]
    refine' DetS.takeL (i := 1) (v := _) rfl (by kernel_rfl) (by kernel_rfl) (by kernel_rfl) (YS.pure rfl ?sd5_1 ?rd5_1) ?nd5_1
    case rd5_1 => intro L W hS; go_simp; first | rfl | (rw [if_neg (by omega)] <;> rfl) | (rw [if_neg (by simp; omega)] <;> rfl) | (rw [if_neg (by simp)] <;> rfl)
    case sd5_1 => exact fun L W _ h => h
    simp only [Act.put, List.setIfInBounds_toArray, List.set_cons_zero, List.set_cons_succ]
    refine' DetS.takeL (i := 2) (v := _) rfl (by kernel_rfl) (by kernel_rfl) (by kernel_rfl) (YS.pure rfl ?sd5_2 ?rd5_2) ?nd5_2
    case rd5_2 => intro L W hS; go_simp; have hwi := HWI.out; rw [show dy.tmod 7 = ((I : Nat) : Int) by rw [Int.tmod_eq_emod_of_nonneg n0]; omega] <;> rfl
    case sd5_2 => exact fun L W _ h => h
    simp only [Act.put, List.setIfInBounds_toArray, List.set_cons_zero, List.set_cons_succ]
    refine' DetS.takeL (i := 3) (v := _) rfl (by kernel_rfl) (by kernel_rfl) (by kernel_rfl) (YS.pure rfl ?sd5_3 ?rd5_3) ?nd5_3
    case rd5_3 => intro L W hS; go_simp; rw [week_op I hI W] <;> rfl
    case sd5_3 => exact fun L W _ h => h
    simp only [Act.put, List.setIfInBounds_toArray, List.set_cons_zero, List.set_cons_succ]
    refine' DetS.takeL (i := 4) (v := _) rfl (by kernel_rfl) (by kernel_rfl) (by kernel_rfl) (YS.pure rfl ?sd5_4 ?rd5_4) ?nd5_4
    case rd5_4 => intro L W hS; go_simp; first | rfl | (rw [if_neg (by omega)] <;> rfl) | (rw [if_neg (by simp; omega)] <;> rfl) | (rw [if_neg (by simp)] <;> rfl)
    case sd5_4 => exact fun L W _ h => h
    simp only [Act.put, List.setIfInBounds_toArray, List.set_cons_zero, List.set_cons_succ]
    refine' DetS.takeL (i := 5) (v := _) rfl (by kernel_rfl) (by kernel_rfl) (by kernel_rfl) (YS.pure rfl ?sd5_5 ?rd5_5) ?nd5_5
    case rd5_5 => intro L W hS; go_simp; first | rfl | (rw [if_neg (by omega)] <;> rfl) | (rw [if_neg (by simp; omega)] <;> rfl) | (rw [if_neg (by simp)] <;> rfl)
    case sd5_5 => exact fun L W _ h => h
    simp only [Act.put, List.setIfInBounds_toArray, List.set_cons_zero, List.set_cons_succ]
    refine' DetS.takeL (i := 6) (v := _) rfl (by kernel_rfl) (by kernel_rfl) (by kernel_rfl) (YS.pure rfl ?sd5_6 ?rd5_6) ?nd5_6
    case rd5_6 => intro L W hS; go_simp; first | rfl | (rw [if_neg (by omega)] <;> rfl) | (rw [if_neg (by simp; omega)] <;> rfl) | (rw [if_neg (by simp)] <;> rfl)
    case sd5_6 => exact fun L W _ h => h
    simp only [Act.put, List.setIfInBounds_toArray, List.set_cons_zero, List.set_cons_succ]
    refine' DetS.takeL (i := 7) (v := _) rfl (by kernel_rfl) (by kernel_rfl) (by kernel_rfl) (YS.call (f := _) (args := _) rfl ?rd5_7 ?cd5_7) ?nd5_7
    case rd5_7 => intro W; go_simp; constructor <;> rfl
    case cd5_7 =>
      intro L W hL hS
      refine (H2.out W).mono ?_
      rintro e w9 ⟨rfl, rfl⟩
      exact ⟨by rfl, hS⟩
    simp only [Act.put, List.setIfInBounds_toArray, List.set_cons_zero, List.set_cons_succ]
    refine' DetS.takeL (i := 8) (v := _) rfl (by kernel_rfl) (by kernel_rfl) (by kernel_rfl) (YS.pure rfl ?sd5_8 ?rd5_8) ?nd5_8
    case rd5_8 => intro L W hS; go_simp; first | rfl | (rw [if_neg (by omega)] <;> rfl) | (rw [if_neg (by simp; omega)] <;> rfl) | (rw [if_neg (by simp)] <;> rfl)
    case sd5_8 => exact fun L W _ h => h
    simp only [Act.put, List.setIfInBounds_toArray, List.set_cons_zero, List.set_cons_succ]
    refine' DetS.takeL (i := 9) (v := _) rfl (by kernel_rfl) (by kernel_rfl) (by kernel_rfl) (YS.pure rfl ?sd5_9 ?rd5_9) ?nd5_9
    case rd5_9 => intro L W hS; go_simp; first | rfl | (rw [if_neg (by omega)] <;> rfl) | (rw [if_neg (by simp; omega)] <;> rfl) | (rw [if_neg (by simp)] <;> rfl)
    case sd5_9 => exact fun L W _ h => h
    simp only [Act.put, List.setIfInBounds_toArray, List.set_cons_zero, List.set_cons_succ]
    refine' DetS.takeL (i := 10) (v := _) rfl (by kernel_rfl) (by kernel_rfl) (by kernel_rfl) (YS.pure rfl ?sd5_10 ?rd5_10) ?nd5_10
    case rd5_10 => intro L W hS; go_simp; first | rfl | (rw [if_neg (by omega)] <;> rfl) | (rw [if_neg (by simp; omega)] <;> rfl) | (rw [if_neg (by simp)] <;> rfl)
    case sd5_10 => exact fun L W _ h => h
    simp only [Act.put, List.setIfInBounds_toArray, List.set_cons_zero, List.set_cons_succ]
    refine' DetS.takeL (i := 11) (v := _) rfl (by kernel_rfl) (by kernel_rfl) (by kernel_rfl) (YS.pure rfl ?sd5_11 ?rd5_11) ?nd5_11
    case rd5_11 => intro L W hS; go_simp; first | rfl | (rw [if_neg (by omega)] <;> rfl) | (rw [if_neg (by simp; omega)] <;> rfl) | (rw [if_neg (by simp)] <;> rfl)
    case sd5_11 => exact fun L W _ h => h
    simp only [Act.put, List.setIfInBounds_toArray, List.set_cons_zero, List.set_cons_succ]
    refine' DetS.takeL (i := 12) (v := _) rfl (by kernel_rfl) (by kernel_rfl) (by kernel_rfl) (YS.pure rfl ?sd5_12 ?rd5_12) ?nd5_12
    case rd5_12 => intro L W hS; go_simp; first | rfl | (rw [if_neg (by omega)] <;> rfl) | (rw [if_neg (by simp; omega)] <;> rfl) | (rw [if_neg (by simp)] <;> rfl)
    case sd5_12 => exact fun L W _ h => h
    simp only [Act.put, List.setIfInBounds_toArray, List.set_cons_zero, List.set_cons_succ]
    refine' DetS.takeL (i := 13) (v := _) rfl (by kernel_rfl) (by kernel_rfl) (by kernel_rfl) (YS.pure rfl ?sd5_13 ?rd5_13) ?nd5_13
    case rd5_13 => intro L W hS; go_simp; first | rfl | (rw [if_neg (by omega)] <;> rfl) | (rw [if_neg (by simp; omega)] <;> rfl) | (rw [if_neg (by simp)] <;> rfl)
    case sd5_13 => exact fun L W _ h => h
    simp only [Act.put, List.setIfInBounds_toArray, List.set_cons_zero, List.set_cons_succ]
    refine' DetS.takeL (i := 14) (v := _) rfl (by kernel_rfl) (by kernel_rfl) (by kernel_rfl) (YS.pure rfl ?sd5_14 ?rd5_14) ?nd5_14
    case rd5_14 => intro L W hS; go_simp; first | rfl | (rw [if_neg (by omega)] <;> rfl) | (rw [if_neg (by simp; omega)] <;> rfl) | (rw [if_neg (by simp)] <;> rfl)
    case sd5_14 => exact fun L W _ h => h
    simp only [Act.put, List.setIfInBounds_toArray, List.set_cons_zero, List.set_cons_succ]
    refine' DetS.takeL (i := 15) (v := _) rfl (by kernel_rfl) (by kernel_rfl) (by kernel_rfl) (YS.pure rfl ?sd5_15 ?rd5_15) ?nd5_15
    case rd5_15 => intro L W hS; go_simp; have hp := HP.out; unfold monS at hp; rw [hp, if_pos (by omega)] <;> rfl
    case sd5_15 => exact fun L W _ h => h
    simp only [Act.put, List.setIfInBounds_toArray, List.set_cons_zero, List.set_cons_succ]
    refine' DetS.takeL (i := 16) (v := _) rfl (by kernel_rfl) (by kernel_rfl) (by kernel_rfl) (YS.pure rfl ?sd5_16 ?rd5_16) ?nd5_16
    case rd5_16 => intro L W hS; go_simp; first | rfl | (rw [if_neg (by omega)] <;> rfl) | (rw [if_neg (by simp; omega)] <;> rfl) | (rw [if_neg (by simp)] <;> rfl)
    case sd5_16 => exact fun L W _ h => h
    simp only [Act.put, List.setIfInBounds_toArray, List.set_cons_zero, List.set_cons_succ]
    refine' DetS.takeL (i := 17) (v := _) rfl (by kernel_rfl) (by kernel_rfl) (by kernel_rfl) (YS.pure rfl ?sd5_17 ?rd5_17) ?nd5_17
    case rd5_17 => intro L W hS; go_simp; first | rfl | (rw [if_neg (by omega)] <;> rfl) | (rw [if_neg (by simp; omega)] <;> rfl) | (rw [if_neg (by simp)] <;> rfl)
    case sd5_17 => exact fun L W _ h => h
    simp only [Act.put, List.setIfInBounds_toArray, List.set_cons_zero, List.set_cons_succ]
    refine' DetS.takeL (i := 18) (v := _) rfl (by kernel_rfl) (by kernel_rfl) (by kernel_rfl) (YS.pure rfl ?sd5_18 ?rd5_18) ?nd5_18
    case rd5_18 => intro L W hS; go_simp; first | rfl | (rw [if_neg (by omega)] <;> rfl) | (rw [if_neg (by simp; omega)] <;> rfl) | (rw [if_neg (by simp)] <;> rfl)
    case sd5_18 => exact fun L W _ h => h
    simp only [Act.put, List.setIfInBounds_toArray, List.set_cons_zero, List.set_cons_succ]
    refine' DetS.takeL (i := 19) (v := _) rfl (by kernel_rfl) (by kernel_rfl) (by kernel_rfl) (YS.call (f := _) (args := _) rfl ?rd5_19 ?cd5_19) ?nd5_19
    case rd5_19 => intro W; go_simp; constructor <;> rfl
    case cd5_19 =>
      intro L W hL hS
      refine (H4.out W hS.2).mono ?_
      rintro e w9 ⟨rfl, hb9⟩
      exact ⟨by rfl, bnext hS.1 hb9 hS.1.size, tab_b hS.2 hb9⟩
    simp only [Act.put, List.setIfInBounds_toArray, List.set_cons_zero, List.set_cons_succ]
    refine' DetS.takeL (i := 20) (v := _) rfl (by kernel_rfl) (by kernel_rfl) (by kernel_rfl) (YS.pure rfl ?sd5_20 ?rd5_20) ?nd5_20
    case rd5_20 => intro L W hS; go_simp; first | rfl | (rw [if_neg (by omega)] <;> rfl) | (rw [if_neg (by simp; omega)] <;> rfl) | (rw [if_neg (by simp)] <;> rfl)
    case sd5_20 => exact fun L W _ h => h
    simp only [Act.put, List.setIfInBounds_toArray, List.set_cons_zero, List.set_cons_succ]
    refine' DetS.takeL (i := 21) (v := _) rfl (by kernel_rfl) (by kernel_rfl) (by kernel_rfl) (YS.pure rfl ?sd5_21 ?rd5_21) ?nd5_21
    case rd5_21 => intro L W hS; go_simp; first | rfl | (rw [if_neg (by omega)] <;> rfl) | (rw [if_neg (by simp; omega)] <;> rfl) | (rw [if_neg (by simp)] <;> rfl)
    case sd5_21 => exact fun L W _ h => h
    simp only [Act.put, List.setIfInBounds_toArray, List.set_cons_zero, List.set_cons_succ]
    refine' DetS.takeL (i := 22) (v := _) rfl (by kernel_rfl) (by kernel_rfl) (by kernel_rfl) (YS.pure rfl ?sd5_22 ?rd5_22) ?nd5_22
    case rd5_22 => intro L W hS; go_simp; first | rfl | (rw [if_neg (by omega)] <;> rfl) | (rw [if_neg (by simp; omega)] <;> rfl) | (rw [if_neg (by simp)] <;> rfl)
    case sd5_22 => exact fun L W _ h => h
    simp only [Act.put, List.setIfInBounds_toArray, List.set_cons_zero, List.set_cons_succ]
    refine' DetS.takeL (i := 23) (v := _) rfl (by kernel_rfl) (by kernel_rfl) (by kernel_rfl) (YS.call (f := _) (args := _) rfl ?rd5_23 ?cd5_23) ?nd5_23
    case rd5_23 => intro W; go_simp; constructor <;> rfl
    case cd5_23 =>
      intro L W hL hS
      refine (HC.out W).mono ?_
      rintro e w9 ⟨rfl, rfl⟩
      exact ⟨by rfl, hS⟩
    simp only [Act.put, List.setIfInBounds_toArray, List.set_cons_zero, List.set_cons_succ]
    refine' DetS.takeL (i := 24) (v := _) rfl (by kernel_rfl) (by kernel_rfl) (by kernel_rfl) (YS.pure rfl ?sd5_24 ?rd5_24) ?nd5_24
    case rd5_24 => intro L W hS; go_simp; first | rfl | (rw [if_neg (by omega)] <;> rfl) | (rw [if_neg (by simp; omega)] <;> rfl) | (rw [if_neg (by simp)] <;> rfl)
    case sd5_24 => exact fun L W _ h => h
    simp only [Act.put, List.setIfInBounds_toArray, List.set_cons_zero, List.set_cons_succ]
    refine' DetS.takeL (i := 25) (v := _) rfl (by kernel_rfl) (by kernel_rfl) (by kernel_rfl) (YS.pure rfl ?sd5_25 ?rd5_25) ?nd5_25
    case rd5_25 => intro L W hS; go_simp; first | rfl | (rw [if_neg (by omega)] <;> rfl) | (rw [if_neg (by simp; omega)] <;> rfl) | (rw [if_neg (by simp)] <;> rfl)
    case sd5_25 => exact fun L W _ h => h
    simp only [Act.put, List.setIfInBounds_toArray, List.set_cons_zero, List.set_cons_succ]
    refine' DetS.takeL (i := 26) (v := _) rfl (by kernel_rfl) (by kernel_rfl) (by kernel_rfl) (YS.pure rfl ?sd5_26 ?rd5_26) ?nd5_26
    case rd5_26 => intro L W hS; go_simp; first | rfl | (rw [if_neg (by omega)] <;> rfl) | (rw [if_neg (by simp; omega)] <;> rfl) | (rw [if_neg (by simp)] <;> rfl)
    case sd5_26 => exact fun L W _ h => h
    simp only [Act.put, List.setIfInBounds_toArray, List.set_cons_zero, List.set_cons_succ]
    refine' DetS.takeL (i := 27) (v := _) rfl (by kernel_rfl) (by kernel_rfl) (by kernel_rfl) (YS.pure rfl ?sd5_27 ?rd5_27) ?nd5_27
    case rd5_27 => intro L W hS; go_simp; first | rfl | (rw [if_neg (by omega)] <;> rfl) | (rw [if_neg (by simp; omega)] <;> rfl) | (rw [if_neg (by simp)] <;> rfl)
    case sd5_27 => exact fun L W _ h => h
    simp only [Act.put, List.setIfInBounds_toArray, List.set_cons_zero, List.set_cons_succ]
    refine DetS.done (by kernel_rfl) (fun W hS => ?_) _
    obtain ⟨hB, hT⟩ := hS
    go_wp2_with fail
    go_ret2
    refine ⟨?_, hB⟩
    rw [HF0.out, HW3.out]
    congr 4 <;> (congr 1; apply ByteArray.ext; simp [bs])
  · rw [if_neg h]
    by_cases hn : v < 0
    · go_enter Tryd.func9, Tryd.ntmps9
      go_wp2_with fail
      go_ret2
      exact ⟨rfl, Below.refl _ _⟩
    · have hc : 253402300799 < v := by omega
      go_enter Tryd.func9, Tryd.ntmps9
      go_wp2_with fail
      go_ret2
      exact ⟨rfl, Below.refl _ _⟩
set_option maxHeartbeats 1000000 in
theorem Forms_any (v : Int) (w : World) (h0 : 0 ≤ v) (h1 : v ≤ 253402300799) : Calls Tryd.prog 13 #[.int .i64 v] w fun e w' => e = .returned (F3 v) ∧ Below w.heap.size w w' := by
  have hal := alloc_below w (.cells #[.string ⟨#[]⟩, .string ⟨#[]⟩, .string ⟨#[]⟩] 30)
  have hro := heap_alloc_new w (.cells #[.string ⟨#[]⟩, .string ⟨#[]⟩, .string ⟨#[]⟩] 30)
  have HF := Lib.hid fun W => forms_any v W h0 h1
  unfold F3 at *
  generalize Dt.form0 v = F0 at *
  generalize Dt.form1 v = F1 at *
  generalize Dt.form2 v = F2 at *
  go_enter Tryd.func13, Tryd.ntmps13
  go_upto_region 1 with fail
  generalize w.alloc (.cells #[.string ⟨#[]⟩, .string ⟨#[]⟩, .string ⟨#[]⟩] 30) = w1 at *
  go_wp2_with fail
  refine (HF.out _).mono ?_
  rintro e w2 ⟨rfl, hb2⟩
  have hq2 := row_keepB hro hb2
  have hB := bnext hal hb2 hal.size
  have hcc := row3 hq2
  go_wp2_with fail
  have r1 := (row_set3 hq2 (.string (bs F0))).1
  have r2 := (row_set3 r1 (.string (bs F1))).2.1
  have r3 := (row_set3 r2 (.string (bs F2))).2.2
  have hc3 := row3 r3
  obtain ⟨c0, c1, c2, -⟩ := hc3
  refine bodyPost_ret (v := .agg #[.string (bs F0), .string (bs F1), .string (bs F2)]) (by simp [results, Tryd.results13, go_sem, c0, c1, c2]; done) rfl ⟨rfl, ((hB.setCell (p := ⟨w.heap.size, 0, none⟩) (Nat.le_refl _) _).setCell (p := ⟨w.heap.size, 1, none⟩) (Nat.le_refl _) _).setCell (p := ⟨w.heap.size, 2, none⟩) (Nat.le_refl _) _⟩
theorem alive_form : bs (Dt.form0 784111777) = ⟨#[83, 117, 110, 44, 32, 48, 54, 32, 78, 111, 118, 32, 49, 57, 57, 52, 32, 48, 56, 58, 52, 57, 58, 51, 55, 32, 71, 77, 84]⟩ := by decide
set_option maxHeartbeats 1000000 in
theorem alive_any (w : World) (ht : Tab w) : Calls Tryd.prog 8 #[] w fun e w' => e = .returned (.bool true) ∧ Below w.heap.size w w' := by
  have HS := Lib.hid (dshow_any 784111777 w ht)
  rw [show shw 784111777 = (Dt.form0 784111777, 0) from rfl, alive_form] at HS
  go_enter Tryd.func8, Tryd.ntmps8
  go_wp2_with fail
  refine HS.out.mono ?_
  rintro e w2 ⟨rfl, hb2⟩
  go_wp2_with fail
  go_ret
  exact ⟨rfl, hb2⟩
end Go.Proofs.YtfldfkipkfpdjaaDoor
