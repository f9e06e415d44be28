/- Joined texts: Show and Forms, the program's and the reference's, and the law's alive; The reference's Parse answers rparse. Condition: the text's length at most 2^40. The conditions stand in each line. -/
import Derived.Test.YtcaekfebnhedpaaGreatDoorM25
import Derived.Lib.SmallJoins
import Derived.Deep.LoopGhost
set_option linter.unusedVariables false
set_option linter.unusedSimpArgs false
namespace Go.Proofs.YtcaekfebnhedpaaGreatDoor
open Go.RowKit

set_option maxRecDepth 100000
theorem tab_b {w w' : World} (h : Tab w) (hb : Below w.heap.size w w') : Tab w' := Go.Joins.tab_stays (P := Tryz.prog) (g := 2) (by kernel_rfl) h hb (Nat.le_refl _)
/-- What Show answers. -/
def shw (v : Int) : List UInt8 × Int := if 0 ≤ v ∧ v ≤ 253402300799 then (Dt.form0 v, 0) else ([], 20)
theorem week_op (k : Nat) (hk : k < 7) (W : World) : (Instr.index 132 week7 (.int .i64 k)).run Tryz.prog W = .ok (.string (bs (Dt.wkN k))) W := week_index k hk W
theorem alive_form : bs (Dt.form0 784111777) = ⟨#[83, 117, 110, 44, 32, 48, 54, 32, 78, 111, 118, 32, 49, 57, 57, 52, 32, 48, 56, 58, 52, 57, 58, 51, 55, 32, 71, 77, 84]⟩ := by decide
end Go.Proofs.YtcaekfebnhedpaaGreatDoor
set_option linter.unusedVariables false
set_option linter.unusedSimpArgs false
namespace Go.Proofs.YtcaekfebnhedpaaGreatDoor
open Go.RowKit

set_option maxRecDepth 100000
def monK (t : List UInt8) : Nat → Int
  | 0 => 0
  | k + 1 => if Dt.moN (k + 1) = t then ((k : Int) + 1) else monK t k
theorem monK_bd (t : List UInt8) : ∀ k, 0 ≤ monK t k ∧ monK t k ≤ k
  | 0 => by simp [monK]
  | k + 1 => by have := monK_bd t k; unfold monK; split <;> omega
theorem monK_moN : ∀ i : Fin 12, monK (Dt.moN (i.val + 1)) 12 = (i.val : Int) + 1 := by decide
theorem monK_none {t : List UInt8} : ∀ k, (∀ j, j < k → Dt.moN (j + 1) ≠ t) → monK t k = 0
  | 0, _ => rfl
  | k + 1, h => by unfold monK; rw [if_neg (h k (by omega))]; exact monK_none k fun j hj => h j (by omega)
theorem monK_is (t : List UInt8) : monK t 12 = Dt.monA t := by
  unfold Dt.monA
  cases h : Dt.monF t with
  | some i =>
    obtain ⟨hi, rfl⟩ := Dt.monF_some h
    exact monK_moN ⟨i, hi⟩
  | none =>
    dsimp only
    apply monK_none
    intro j hj he
    have := Dt.monF_moN ⟨j, hj⟩
    dsimp only at this
    rw [he, h] at this
    cases this
set_option maxHeartbeats 16000000 in
theorem rparse_any (s : List UInt8) (w : World) (hs : s.length ≤ 4398046511104) :
    Calls Tryz.prog 68 #[.string (bs s)] w fun e w' => e = .returned (.tuple #[.int .i64 (Dt.rparse s).1, .int .i64 (Dt.rparse s).2]) ∧ Below w.heap.size w w' := by
  have HR : Hid (Dt.rparse s = if s.length = 29 then Dt.rpart s (Dt.digs s 5 2) (Dt.digs s 12 4) 17 8
  else if s.length = 24 then Dt.rpart s (Dt.digs s 8 2) (Dt.digs s 20 4) 11 4
  else if 30 ≤ s.length ∧ s.length ≤ 33 then Dt.rpart s (Dt.digs s (s.length - 22) 2) (Dt.yy (Dt.digs s (s.length - 22 + 7) 2)) (s.length - 22 + 10) (s.length - 22 + 3)
  else (0, 20)) := Lib.hid rfl
  generalize Dt.rparse s = R at *
  by_cases hbad : s.length = 29 ∨ s.length = 24 ∨ (30 ≤ s.length ∧ s.length ≤ 33)
  · have hd2 := fun a => Dt.rdig_bd (Dt.piece s a 2) true 0 (by omega)
    have hd4 := fun a => Dt.rdig_bd (Dt.piece s a 4) true 0 (by omega)
    have HD2 : Hid (∀ a, -1 ≤ Dt.digs s a 2 ∧ Dt.digs s a 2 ≤ 100) := Lib.hid fun a => by
      have := hd2 a
      have hl : (Dt.piece s a 2).length ≤ 2 := by unfold Dt.piece; simp; omega
      have hp : ∀ n : Nat, n ≤ 2 → (10 : Int) ^ n ≤ 100 := by intro n hn; have : n = 0 ∨ n = 1 ∨ n = 2 := by omega
                                                              rcases this with rfl | rfl | rfl <;> decide
      have := hp _ hl
      unfold Dt.digs; omega
    have HD4 : Hid (∀ a, -1 ≤ Dt.digs s a 4 ∧ Dt.digs s a 4 ≤ 10000) := Lib.hid fun a => by
      have := hd4 a
      have hl : (Dt.piece s a 4).length ≤ 4 := by unfold Dt.piece; simp; omega
      have hp : ∀ n : Nat, n ≤ 4 → (10 : Int) ^ n ≤ 10000 := by intro n hn; have : n = 0 ∨ n = 1 ∨ n = 2 ∨ n = 3 ∨ n = 4 := by omega
                                                                rcases this with rfl | rfl | rfl | rfl | rfl <;> decide
      have := hp _ hl
      unfold Dt.digs; omega
    clear hd2 hd4
    have HG := Lib.hid fun (a n : Nat) (W : World) (h1 : a + n ≤ s.length) (h2 : n ≤ 9) => (by
      have := digits_any s a (a + n) W (by omega) h1 (by omega) hs
      rw [show a + n - a = n by omega] at this
      exact this : Calls Tryz.prog 92 #[.string (bs s), .int .i64 a, .int .i64 ((a + n : Nat) : Int)] W fun x w' => x = .returned (.int .i64 (Dt.digs s a n)) ∧ W = w')
    go_enter Tryz.func68, Tryz.ntmps68
    go_upto_if 20 with fail
    go_cut [4, 5, 6, 7] (fun u y d v wc => ∃ (mo c : Nat) (yv dv : Int), u = .int .i64 mo ∧ y = .int .i64 yv ∧ d = .int .i64 dv ∧ v = .int .i64 c ∧ Hid (R = Dt.rpart s dv yv c mo) ∧ mo + 3 ≤ s.length ∧ c + 8 ≤ s.length ∧ -1 ≤ yv ∧ yv ≤ 20000 ∧ -1 ≤ dv ∧ dv ≤ 20000 ∧ Below w.heap.size w wc)
    case first =>
      by_cases h29 : s.length = 29
      · have hR := HR.out
        rw [if_pos h29] at hR
        replace HR := Lib.hid hR
        have i0 : (s.length : Int) = 29 := by omega
        clear hR hbad
        have e1 := HG.out 5 2 w (by omega) (by omega)
        have e2 := HG.out 12 4 w (by omega) (by omega)
        clear h29
        obtain ⟨b0, b1⟩ := HD2.out 5
        obtain ⟨b2, b3⟩ := HD4.out 12
        generalize Dt.digs s 5 2 = g1 at *
        generalize Dt.digs s 12 4 = g2 at *
        go_wp2_with fail
        refine e1.mono ?_
        rintro e w1 ⟨rfl, rfl⟩
        go_wp2_with fail
        refine e2.mono ?_
        rintro e w1 ⟨rfl, rfl⟩
        go_wp2_with fail
        go_meet
        case rel => exact ⟨8, 17, g2, g1, rfl, rfl, rfl, rfl, HR, by omega, by omega, by omega, by omega, by omega, by omega, Below.refl _ _⟩
      · have i1 : ((s.length : Int) == 29) = false := by rw [beq_eq_false_iff_ne]; omega
        by_cases h24 : s.length = 24
        · have hR := HR.out
          rw [if_neg h29, if_pos h24] at hR
          replace HR := Lib.hid hR
          have i0 : (s.length : Int) = 24 := by omega
          clear hR hbad
          have e1 := HG.out 8 2 w (by omega) (by omega)
          have e2 := HG.out 20 4 w (by omega) (by omega)
          clear h29 h24 i1
          obtain ⟨b0, b1⟩ := HD2.out 8
          obtain ⟨b2, b3⟩ := HD4.out 20
          generalize Dt.digs s 8 2 = g1 at *
          generalize Dt.digs s 20 4 = g2 at *
          go_wp2_with fail
          refine e1.mono ?_
          rintro e w1 ⟨rfl, rfl⟩
          go_wp2_with fail
          refine e2.mono ?_
          rintro e w1 ⟨rfl, rfl⟩
          go_wp2_with fail
          go_meet
          case rel => exact ⟨4, 11, g2, g1, rfl, rfl, rfl, rfl, HR, by omega, by omega, by omega, by omega, by omega, by omega, Below.refl _ _⟩
        · have hR := HR.out
          rw [if_neg h29, if_neg h24, if_pos (by omega)] at hR
          obtain ⟨k, hk⟩ : ∃ k : Nat, s.length = k + 22 := ⟨s.length - 22, by omega⟩
          rw [hk, show k + 22 - 22 = k by omega] at hR
          replace HR := Lib.hid hR
          have i2 : ((s.length : Int) == 24) = false := by rw [beq_eq_false_iff_ne]; omega
          have i3 : (30 : Int) ≤ (s.length : Int) := by omega
          have i4 : (s.length : Int) ≤ 33 := by omega
          have i5 : (s.length : Int) - 22 = (k : Int) := by omega
          have e1 := HG.out k 2 w (by omega) (by omega)
          have e2 := HG.out (k + 7) 2 w (by omega) (by omega)
          rw [show ((k + 2 : Nat) : Int) = (k : Int) + 2 by omega] at e1
          rw [show ((k + 7 + 2 : Nat) : Int) = (k : Int) + 9 by omega, show ((k + 7 : Nat) : Int) = (k : Int) + 7 by omega] at e2
          have HK := Lib.hid hk
          have k9 : k ≤ 11 := by omega
          clear h29 h24 hbad hR hk
          obtain ⟨b0, b1⟩ := HD2.out k
          obtain ⟨b2, b3⟩ := HD2.out (k + 7)
          generalize Dt.digs s k 2 = g1 at *
          generalize Dt.digs s (k + 7) 2 = g2 at *
          have HYY : Hid (Dt.yy g2 = if 70 ≤ g2 then g2 + 1900 else if 0 ≤ g2 then g2 + 2000 else g2) := Lib.hid rfl
          generalize Dt.yy g2 = yy2 at *
          go_wp2_with fail
          refine e1.mono ?_
          rintro e w1 ⟨rfl, rfl⟩
          go_wp2_with fail
          refine e2.mono ?_
          rintro e w1 ⟨rfl, rfl⟩
          by_cases y1 : 70 ≤ g2
          · rw [if_pos y1] at HYY
            go_wp2_with fail
            go_meet
            case rel => exact ⟨k + 3, k + 10, yy2, g1, by first | rfl | (congr 1; omega), by rw [HYY.out], rfl, by first | rfl | (congr 1; omega), HR, by have := HK.out; omega, by have := HK.out; omega, by rw [HYY.out]; omega, by rw [HYY.out]; omega, by omega, by omega, Below.refl _ _⟩
          · rw [if_neg y1] at HYY
            by_cases y2 : 0 ≤ g2
            · rw [if_pos y2] at HYY
              go_wp2_with fail
              go_meet
              case rel => exact ⟨k + 3, k + 10, yy2, g1, by first | rfl | (congr 1; omega), by rw [HYY.out], rfl, by first | rfl | (congr 1; omega), HR, by have := HK.out; omega, by have := HK.out; omega, by rw [HYY.out]; omega, by rw [HYY.out]; omega, by omega, by omega, Below.refl _ _⟩
            · rw [if_neg y2] at HYY
              go_wp2_with fail
              go_meet
              case rel => exact ⟨k + 3, k + 10, yy2, g1, by first | rfl | (congr 1; omega), by rw [HYY.out], rfl, by first | rfl | (congr 1; omega), HR, by have := HK.out; omega, by have := HK.out; omega, by rw [HYY.out]; omega, by rw [HYY.out]; omega, by omega, by omega, Below.refl _ _⟩
    case rest =>
      obtain ⟨mo, c, y, d, rfl, rfl, rfl, rfl, HR, hmo, hc, hy0, hy1, hd0, hd1, hB⟩ := hcut
      clear hbad
      have HR2 : Hid (R = Dt.rdone s y (Dt.monA (Dt.piece s mo 3)) d (Dt.digs s c 2) (Dt.digs s (c + 3) 2) (Dt.digs s (c + 6) 2)) := HR.out
      clear HR
      have hT : (s.drop mo).take 3 = Dt.piece s mo 3 := rfl
      rw [← monK_is] at HR2
      generalize Dt.piece s mo 3 = T at *
      go_wp2_with fail
      go_loopg [9, 10] 12 (fun r m i wr => ∃ k : Nat, k ≤ 12 ∧ r + k = 12 ∧ m = .int .i64 (monK T k) ∧ i = .int .i64 ((k : Int) + 1) ∧ Below w.heap.size w wr)
      case atStart => exact ⟨0, by omega, by omega, rfl, rfl, hB⟩
      case round =>
        clear hB
        obtain ⟨k, hk, hr, rfl, rfl, hB⟩ := hrel
        obtain ⟨wo, rfl⟩ : ∃ wo, wo = wr := ⟨_, rfl⟩
        by_cases hlt : k < 12
        · have k1 : (k : Int) + 1 ≤ 12 := by omega
          have HM := Lib.hid fun W => month_r ((k : Int) + 1) W (by omega) (by omega)
          rw [show ((k : Int) + 1).toNat = k + 1 by omega] at HM
          have HK : Hid (monK T (k + 1) = if Dt.moN (k + 1) = T then ((k : Int) + 1) else monK T k) := Lib.hid rfl
          generalize Dt.moN (k + 1) = MO at *
          generalize monK T k = mk at *
          have m0 : (0 : Int) ≤ (mo : Int) := by omega
          have m1 : (mo : Int) + 3 ≤ (s.length : Int) := by omega
          have m2 : (mo : Int) ≤ (mo : Int) + 3 := by omega
          have m3 : IntKind.i64.wrap ((mo : Int) + 3) = (mo : Int) + 3 := IntWalk.i64_in _ (by omega)
          have m4 : ((mo : Int) + 3).toNat = mo + 3 := by omega
          go_upto_region 24 with fail
          refine wp_region_detN (n := 8) (S := fun _ W => Below w.heap.size w W) (by kernel_rfl) rfl hB.drew ?_
          refine' DetS.takeL (i := 0) (v := _) rfl (by kernel_rfl) (by kernel_rfl) (by kernel_rfl) (YS.pure rfl ?sd24_0 ?rd24_0) ?nd24_0
          case rd24_0 => intro L W hS; go_simp; first | rfl | (rw [if_neg (by omega)] <;> rfl) | (rw [if_neg (by simp; omega)] <;> rfl) | (rw [if_neg (by simp)] <;> rfl)
          case sd24_0 => exact fun L W _ h => h
          simp only [Act.put, List.setIfInBounds_toArray, List.set_cons_zero, List.set_cons_succ]
          refine' DetS.takeL (i := 1) (v := _) rfl (by kernel_rfl) (by kernel_rfl) (by kernel_rfl) (YS.pure rfl ?sd24_1 ?rd24_1) ?nd24_1
          case rd24_1 => intro L W hS; go_simp; first | rfl | (rw [if_neg (by omega)] <;> rfl) | (rw [if_neg (by simp; omega)] <;> rfl) | (rw [if_neg (by simp)] <;> rfl)
          case sd24_1 => exact fun L W _ h => h
          simp only [Act.put, List.setIfInBounds_toArray, List.set_cons_zero, List.set_cons_succ]
          refine' DetS.takeL (i := 2) (v := _) rfl (by kernel_rfl) (by kernel_rfl) (by kernel_rfl) (YS.pure rfl ?sd24_2 ?rd24_2) ?nd24_2
          case rd24_2 => intro L W hS; go_simp; first | rfl | (rw [if_neg (by omega)] <;> rfl) | (rw [if_neg (by simp; omega)] <;> rfl) | (rw [if_neg (by simp)] <;> rfl)
          case sd24_2 => exact fun L W _ h => h
          simp only [Act.put, List.setIfInBounds_toArray, List.set_cons_zero, List.set_cons_succ]
          refine' DetS.takeL (i := 3) (v := _) rfl (by kernel_rfl) (by kernel_rfl) (by kernel_rfl) (YS.pure rfl ?sd24_3 ?rd24_3) ?nd24_3
          case rd24_3 => intro L W hS; go_simp; first | rfl | (rw [if_neg (by omega)] <;> rfl) | (rw [if_neg (by simp; omega)] <;> rfl) | (rw [if_neg (by simp)] <;> rfl)
          case sd24_3 => exact fun L W _ h => h
          simp only [Act.put, List.setIfInBounds_toArray, List.set_cons_zero, List.set_cons_succ]
          refine' DetS.takeL (i := 4) (v := _) rfl (by kernel_rfl) (by kernel_rfl) (by kernel_rfl) (YS.pure rfl ?sd24_4 ?rd24_4) ?nd24_4
          case rd24_4 => intro L W hS; go_simp; first | rfl | (rw [if_pos (by omega)] <;> rfl) | (rw [hT] <;> rfl)
          case sd24_4 => exact fun L W _ h => h
          simp only [Act.put, List.setIfInBounds_toArray, List.set_cons_zero, List.set_cons_succ]
          refine' DetS.takeL (i := 5) (v := _) rfl (by kernel_rfl) (by kernel_rfl) (by kernel_rfl) (YS.pure rfl ?sd24_5 ?rd24_5) ?nd24_5
          case rd24_5 => intro L W hS; go_simp; first | rfl | (rw [if_neg (by omega)] <;> rfl) | (rw [if_neg (by simp; omega)] <;> rfl) | (rw [if_neg (by simp)] <;> rfl)
          case sd24_5 => exact fun L W _ h => h
          simp only [Act.put, List.setIfInBounds_toArray, List.set_cons_zero, List.set_cons_succ]
          refine' DetS.takeL (i := 6) (v := _) rfl (by kernel_rfl) (by kernel_rfl) (by kernel_rfl) (YS.call (f := _) (args := _) rfl ?rd24_6 ?cd24_6) ?nd24_6
          case rd24_6 => intro W; go_simp; constructor <;> rfl
          case cd24_6 =>
            intro L W hL hS
            refine (HM.out W).mono ?_
            rintro e w9 ⟨rfl, rfl⟩
            exact ⟨by rfl, hS⟩
          simp only [Act.put, List.setIfInBounds_toArray, List.set_cons_zero, List.set_cons_succ]
          refine' DetS.takeL (i := 7) (v := _) rfl (by kernel_rfl) (by kernel_rfl) (by kernel_rfl) (YS.pure rfl ?sd24_7 ?rd24_7) ?nd24_7
          case rd24_7 => intro L W hS; go_simp; first | rfl | (rw [if_neg (by omega)] <;> rfl) | (rw [if_neg (by simp; omega)] <;> rfl) | (rw [if_neg (by simp)] <;> rfl)
          case sd24_7 => exact fun L W _ h => h
          simp only [Act.put, List.setIfInBounds_toArray, List.set_cons_zero, List.set_cons_succ]
          refine DetS.done (by kernel_rfl) (fun W hS => ?_) _
          go_wp2_with fail
          · rename_i hq
            rw [if_pos (eq_of_beq hq).symm] at HK
            go_roundg (12 - (k + 1))
            case measure => omega
            case rel => exact ⟨k + 1, by omega, by omega, by rw [HK.out], by go_num, hS⟩
          · rename_i hq
            rw [if_neg (fun h => by rw [h] at hq; simp at hq)] at HK
            go_roundg (12 - (k + 1))
            case measure => omega
            case rel => exact ⟨k + 1, by omega, by omega, by rw [HK.out], by go_num, hS⟩
        · obtain rfl : k = 12 := by omega
          obtain ⟨q0, q1⟩ := monK_bd T 12
          generalize monK T 12 = m at *
          have e1 := HG.out c 2 wo (by omega) (by omega)
          have e2 := HG.out (c + 3) 2 wo (by omega) (by omega)
          have e3 := HG.out (c + 6) 2 wo (by omega) (by omega)
          rw [show ((c + 2 : Nat) : Int) = (c : Int) + 2 by omega] at e1
          rw [show ((c + 3 + 2 : Nat) : Int) = (c : Int) + 5 by omega, show ((c + 3 : Nat) : Int) = (c : Int) + 3 by omega] at e2
          rw [show ((c + 6 + 2 : Nat) : Int) = (c : Int) + 8 by omega, show ((c + 6 : Nat) : Int) = (c : Int) + 6 by omega] at e3
          obtain ⟨b0, b1⟩ := HD2.out c
          obtain ⟨b2, b3⟩ := HD2.out (c + 3)
          obtain ⟨b4, b5⟩ := HD2.out (c + 6)
          generalize Dt.digs s c 2 = h at *
          generalize Dt.digs s (c + 3) 2 = mi at *
          generalize Dt.digs s (c + 6) 2 = se at *
          have E1 := Lib.hid e1
          have E2 := Lib.hid e2
          have E3 := Lib.hid e3
          have HDAY := Lib.hid fun W => day_r y m d W
          clear e1 e2 e3 hT hlt hk hr HD2 HD4 HR
          by_cases hv : Cal.valid y m d
          · have hty : TheDay y m d = (Cal.num y m d, 0) := if_pos hv
            obtain ⟨n0, n1⟩ := Dt.num_bd2 hv
            rw [hty] at HDAY
            have HR3 : Hid (R = if 0 ≤ h ∧ h ≤ 23 ∧ 0 ≤ mi ∧ mi ≤ 59 ∧ 0 ≤ se ∧ se ≤ 59 then (if s = Dt.form0 (Cal.num y m d * 86400 + h * 3600 + mi * 60 + se) ∨ s = Dt.form1 (Cal.num y m d * 86400 + h * 3600 + mi * 60 + se) ∨ s = Dt.form2 (Cal.num y m d * 86400 + h * 3600 + mi * 60 + se) then (Cal.num y m d * 86400 + h * 3600 + mi * 60 + se, 0) else (0, 20)) else (0, 20)) := Lib.hid (by
              rw [HR2.out]; unfold Dt.rdone; simp only [hv, true_and])
            dsimp only at HDAY
            clear hty hv HR2
            generalize Cal.num y m d = n at *
            by_cases hin : 0 ≤ h ∧ h ≤ 23 ∧ 0 ≤ mi ∧ mi ≤ 59 ∧ 0 ≤ se ∧ se ≤ 59
            · rw [if_pos hin] at HR3
              obtain ⟨p0, p1, p2, p3, p4, p5⟩ := hin
              have HF := Lib.hid fun W => forms_any (n * 86400 + h * 3600 + mi * 60 + se) W (by omega) (by omega)
              unfold F3 at HF
              generalize Dt.form0 (n * 86400 + h * 3600 + mi * 60 + se) = F0 at *
              generalize Dt.form1 (n * 86400 + h * 3600 + mi * 60 + se) = F1 at *
              generalize Dt.form2 (n * 86400 + h * 3600 + mi * 60 + se) = F2 at *
              go_wp2_with fail
              refine E1.out.mono ?_
              rintro e w1 ⟨rfl, rfl⟩
              go_wp2_with fail
              refine E2.out.mono ?_
              rintro e w1 ⟨rfl, rfl⟩
              go_wp2_with fail
              refine E3.out.mono ?_
              rintro e w1 ⟨rfl, rfl⟩
              go_wp2_with fail
              refine (HDAY.out _).mono ?_
              rintro e w2 ⟨rfl, hb2⟩
              replace hB := bnext hB hb2 hB.size
              clear hb2
              go_wp2_with fail
              refine (HF.out _).mono ?_
              rintro e w3 ⟨rfl, hb3⟩
              replace hB := bnext hB hb3 hB.size
              clear hb3
              have hal := alloc_below w3 (.cells #[.string (bs F0), .string (bs F1), .string (bs F2)] 120)
              have hro := heap_alloc_new w3 (.cells #[.string (bs F0), .string (bs F1), .string (bs F2)] 120)
              replace hB := bnext hB hal hB.size
              have hcc := row3 hro
              clear hal hro
              by_cases s0 : s = F0
              · have t0 : (s == F0) = true := by rw [s0]; simp
                rw [if_pos (.inl s0)] at HR3
                clear s0
                go_wp2_with fail
                go_ret2
                exact ⟨by rw [HR3.out]; rfl, hB⟩
              · have t0 : (s == F0) = false := beq_eq_false_iff_ne.2 s0
                by_cases s1 : s = F1
                · have t1 : (s == F1) = true := by rw [s1]; simp
                  rw [if_pos (.inr (.inl s1))] at HR3
                  clear s0 s1
                  go_wp2_with fail
                  go_ret2
                  exact ⟨by rw [HR3.out]; rfl, hB⟩
                · have t1 : (s == F1) = false := beq_eq_false_iff_ne.2 s1
                  by_cases s2 : s = F2
                  · have t2 : (s == F2) = true := by rw [s2]; simp
                    rw [if_pos (.inr (.inr s2))] at HR3
                    clear s0 s1 s2
                    go_wp2_with fail
                    go_ret2
                    exact ⟨by rw [HR3.out]; rfl, hB⟩
                  · have t2 : (s == F2) = false := beq_eq_false_iff_ne.2 s2
                    rw [if_neg (by rintro (q | q | q) <;> contradiction)] at HR3
                    clear s0 s1 s2
                    go_wp2_with fail
                    go_ret2
                    exact ⟨by rw [HR3.out]; rfl, hB⟩
            · rw [if_neg hin] at HR3
              go_wp2_with fail
              refine E1.out.mono ?_
              rintro e w1 ⟨rfl, rfl⟩
              go_wp2_with fail
              refine E2.out.mono ?_
              rintro e w1 ⟨rfl, rfl⟩
              go_wp2_with fail
              refine E3.out.mono ?_
              rintro e w1 ⟨rfl, rfl⟩
              go_wp2_with fail
              refine (HDAY.out _).mono ?_
              rintro e w2 ⟨rfl, hb2⟩
              replace hB := bnext hB hb2 hB.size
              go_wp2_with fail
              all_goals first
                | (exfalso; omega)
                | (go_ret2; exact ⟨by rw [HR3.out]; rfl, hB⟩)
          · have hty : TheDay y m d = (0, 20) := if_neg hv
            rw [hty] at HDAY
            have HR3 : Hid (R = (0, 20)) := Lib.hid (by rw [HR2.out]; unfold Dt.rdone; rw [if_neg (fun q => hv q.1)])
            clear hty hv HR2
            go_wp2_with fail
            refine E1.out.mono ?_
            rintro e w1 ⟨rfl, rfl⟩
            go_wp2_with fail
            refine E2.out.mono ?_
            rintro e w1 ⟨rfl, rfl⟩
            go_wp2_with fail
            refine E3.out.mono ?_
            rintro e w1 ⟨rfl, rfl⟩
            go_wp2_with fail
            refine (HDAY.out _).mono ?_
            rintro e w2 ⟨rfl, hb2⟩
            replace hB := bnext hB hb2 hB.size
            go_wp2_with fail
            go_ret2
            exact ⟨by rw [HR3.out]; rfl, hB⟩
  · have hR := HR.out
    rw [if_neg (by omega), if_neg (by omega), if_neg (by omega)] at hR
    subst hR
    clear HR
    have i1 : ((s.length : Int) == 29) = false := by rw [beq_eq_false_iff_ne]; omega
    have i2 : ((s.length : Int) == 24) = false := by rw [beq_eq_false_iff_ne]; omega
    go_enter Tryz.func68, Tryz.ntmps68
    go_wp2
    all_goals first
      | (exfalso; omega)
      | (go_ret2; exact ⟨rfl, Below.refl _ _⟩)
end Go.Proofs.YtcaekfebnhedpaaGreatDoor
